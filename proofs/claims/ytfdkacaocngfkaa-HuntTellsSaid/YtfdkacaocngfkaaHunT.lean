import Derived.Test.YtfdkacaocngfkaaHunS
set_option linter.unusedVariables false
set_option linter.unusedSimpArgs false
namespace Go.Proofs.Ytfdkacaocngfkaa
open Go Go.AM
namespace Hun

/-! ### What hangs on what -/
inductive Reach (l : List Dd) : Nat → Nat → Prop
  | refl (i : Nat) : Reach l i i
  | step {i j n : Nat} (h : (j : Int) ∈ U l i) (h' : Reach l j n) : Reach l i n

open Classical in
noncomputable def rb (l : List Dd) (i n : Nat) : Bool := decide (Reach l i n)

theorem rb_iff {l : List Dd} {i n : Nat} : rb l i n = true ↔ Reach l i n := by unfold rb; exact @decide_eq_true_iff _ (Classical.propDecidable _)

def Valid (l : List Dd) : Prop := ∀ k n, n ∈ U l k → 0 ≤ n ∧ n < (k : Int)

theorem valid_of {l : List Dd} (h : bad l = false) : Valid l := by
  intro k n hn
  have hk : k < l.length := by
    rcases Nat.lt_or_ge k l.length with e | e
    · exact e
    · have : U l k = [] := by unfold U; simp [List.getD, e]
      rw [this] at hn; cases hn
  unfold bad at h
  rw [List.any_eq_false] at h
  have h1 := h k (by simpa using hk)
  unfold badAt at h1
  have h2 : (U l k).any (outB k) = false := by simpa using h1
  rw [List.any_eq_false] at h2
  have h3 := h2 n hn
  simp [outB] at h3
  omega

theorem Reach.le {l : List Dd} (hv : Valid l) {i n : Nat} (h : Reach l i n) : n ≤ i := by
  induction h with
  | refl => exact Nat.le_refl _
  | step h _ ih => have := hv _ _ h; omega

theorem Reach.snoc {l : List Dd} {i k m : Nat} (h : Reach l i k) (hm : (m : Int) ∈ U l k) : Reach l i m := by
  induction h with
  | refl i => exact .step hm (.refl _)
  | step h _ ih => exact .step h (ih hm)

theorem Reach.closed {l : List Dd} {f : Nat → Bool} (hc : ∀ j n : Nat, f j = true → (n : Int) ∈ U l j → f n = true) {i n : Nat} (h : Reach l i n) (hi : f i = true) : f n = true := by
  induction h with
  | refl => exact hi
  | step h _ ih => exact ih (hc _ _ hi h)

theorem reach_iff {l : List Dd} {k n : Nat} : Reach l k n ↔ k = n ∨ ∃ j : Nat, (j : Int) ∈ U l k ∧ Reach l j n := by
  constructor
  · intro h
    cases h with
    | refl => exact .inl rfl
    | step h h' => exact .inr ⟨_, h, h'⟩
  · rintro (rfl | ⟨j, h, h'⟩)
    · exact .refl _
    · exact .step h h'

/-! ### Tables -/
def tb (N : Nat) (f : Nat → Bool) : List PV := (List.range N).map fun m => PV.v (.bool (f m))
theorem tb_len (N : Nat) (f : Nat → Bool) : (tb N f).length = N := by simp [tb]
theorem tb_get {N k : Nat} {f : Nat → Bool} (h : k < N) : (tb N f)[k]? = some (.v (.bool (f k))) := by simp [tb, h]
theorem tb_set {N k : Nat} {f : Nat → Bool} {b : Bool} : (tb N f).set k (.v (.bool b)) = tb N (fun m => if m = k then b else f m) := by
  apply List.ext_getElem
  · simp [tb]
  · intro j h1 h2
    simp only [tb, List.getElem_set, List.getElem_map, List.getElem_range]
    by_cases e : k = j
    · subst e; simp
    · have : ¬ (j = k) := fun h => e h.symm
      simp [e, this]
theorem tb_congr {N : Nat} {f g : Nat → Bool} (h : ∀ m, m < N → f m = g m) : tb N f = tb N g := by
  unfold tb
  exact List.map_congr_left fun m hm => by rw [h m (by simpa using hm)]

abbrev Rw (N : Nat) : AV := .row 0 0 0 N
abbrev Hf (N : Nat) (f : Nat → Bool) (t : Heap) : Heap := .row 0 1 (tb N f) :: t

theorem idxr {N k : Nat} (h : k < N) : idxA 1 (Rw N) (I k) = some (.rptr 0 0 k) := by
  rw [idxA_row (by omega)]; simp
theorem ldr {N k : Nat} {f : Nat → Bool} {t : Heap} (h : k < N) : ld false 1 (.rptr 0 0 k) (Hf N f t) = some (B (f k)) := by
  rw [ld_row (H := Hf N f t) (xs := tb N f) (sz := 1) rfl, tb_get h]; rfl
theorem str {N k : Nat} {f : Nat → Bool} {t : Heap} {b : Bool} (lo : List Nat) (h : k < N) : stA 1 (.rptr 0 0 k) (B b) lo (Hf N f t) = some (Hf N (fun m => if m = k then b else f m) t) := by
  rw [stA_row (H := Hf N f t) (xs := tb N f) (sz := 1) rfl (by rw [tb_len]; exact h), tb_set]
  rfl
theorem mkt (N : Nat) (hN : N ≤ 200) : mkRow 1 1 [.v (.bool false)] (I N) (I N) [] = some (Rw N, Hf N (fun _ => false) []) := by
  simp only [mkRow, asI, obs]
  rw [if_pos (by simp only [room]; omega)]
  have : zerosA N [PV.v (.bool false)] = tb N (fun _ => false) := by
    simp only [zerosA, tb]
    apply List.ext_getElem
    · simp
    · intro j h1 h2
      simp
  simp [this]

section
variable {nl : Option Bool} {tg : Bool} {l : List Dd}

/-! ### back -/
theorem backIn (hv : Valid l) (hu : ∀ k, (U l k).length < 2 ^ 63) {k : Nat} (hk : k < l.length) (lo : List Nat) : ∀ (c j : Nat) (f : Nat → Bool), (U l k).length - j = c → j ≤ (U l k).length →
    L93_18 [W nl tg l, Rw l.length, I k, ua l k, I (U l k).length, I j] lo (Hf l.length f []) = L93_13 [W nl tg l, Rw l.length, I k] lo (Hf l.length (fun m => f m || decide ((m : Int) ∈ (U l k).drop j)) []) := by
  intro c
  have hlen := hu k
  induction c with
  | zero =>
    intro j f hc hj
    have : j = (U l k).length := by omega
    subst this
    rw [L93_18_eq]
    simp only [bin_lss, obs, cond_B]
    rw [if_neg (by simp), List.drop_length]
    simp
  | succ c ih =>
    intro j f hc hj
    have hj' : j < (U l k).length := by omega
    have hn := hv k _ (List.getElem_mem hj')
    obtain ⟨n, hn'⟩ : ∃ n : Nat, (U l k)[j] = n := ⟨(U l k)[j].toNat, by omega⟩
    rw [L93_18_eq]
    simp only [bin_lss, obs, cond_B, ua]
    rw [if_pos (by simp <;> omega), idx hj']
    simp only [obs, ldi hj', hn']
    rw [idxr (by omega)]
    simp only [obs]
    rw [str lo (by omega)]
    simp only [oms, obs, bin_add]
    rw [wrap_id (by omega), show (j : Int) + 1 = ((j + 1 : Nat) : Int) by omega]
    have := ih (j + 1) (fun m => if m = n then true else f m) (by omega) (by omega)
    unfold ua at this
    rw [this]
    congr 2
    funext m
    have hd : ((m : Int) ∈ (U l k).drop j) ↔ ((m : Int) = (n : Int) ∨ (m : Int) ∈ (U l k).drop (j + 1)) := by rw [List.drop_eq_getElem_cons hj', List.mem_cons, hn']
    have e : decide ((m : Int) ∈ (U l k).drop j) = (decide (m = n) || decide ((m : Int) ∈ (U l k).drop (j + 1))) := by
      rw [← Bool.decide_or]
      exact decide_eq_decide.mpr (hd.trans (by constructor <;> (rintro (h | h); exact .inl (by omega); exact .inr h)))
    rw [e]
    by_cases h : m = n <;> simp [h]

def BackInv (l : List Dd) (i k : Nat) (f : Nat → Bool) : Prop := f i = true ∧ (∀ m, f m = true → Reach l i m) ∧ ∀ j n : Nat, k ≤ j → f j = true → (n : Int) ∈ U l j → f n = true

theorem backOut (hv : Valid l) (hu : ∀ k, (U l k).length < 2 ^ 63) {i : Nat} (hN : l.length ≤ 200) (lo : List Nat) : ∀ (k : Nat) (f : Nat → Bool), k ≤ l.length → BackInv l i k f →
    ∃ nl' tg' H', L93_10 [W nl tg l, Rw l.length, I ((k : Int) - 1)] lo (Hf l.length f []) = some ([.p (.sl nl' tg' l.length (tb l.length (rb l i)))], H') := by
  intro k
  induction k with
  | zero =>
    intro f _ hI
    obtain ⟨h1, h2, h3⟩ := hI
    have e : tb l.length f = tb l.length (rb l i) := tb_congr fun m _ => by
      rw [Bool.eq_iff_iff, rb_iff]
      exact ⟨h2 m, fun h => Reach.closed (fun j n hj hn => h3 j n (Nat.zero_le _) hj hn) h h1⟩
    obtain ⟨nl', tg', H', e2⟩ := (Lst.row (sz := 1) (id := 0) (g := 0) (m := l.length) (cs := tb l.length f) (H := Hf l.length f []) (by rw [tb_len]; omega) rfl).leave1 lo
    refine ⟨nl', tg', H', ?_⟩
    rw [L93_10_eq]
    simp only [bin_geq, obs, cond_B]
    rw [if_neg (by simp), e2, e]
  | succ k ih =>
    intro f hk hI
    have hk' : k < l.length := by omega
    have next : ∀ f', BackInv l i k f' → ∃ nl' tg' H', L93_13 [W nl tg l, Rw l.length, I k] lo (Hf l.length f' []) = some ([.p (.sl nl' tg' l.length (tb l.length (rb l i)))], H') := by
      intro f' h
      rw [L93_13_eq]
      simp only [bin_sub, obs]
      rw [wrap_id (by omega)]
      exact ih f' (by omega) h
    obtain ⟨h1, h2, h3⟩ := hI
    rw [L93_10_eq, show ((k + 1 : Nat) : Int) - 1 = k by omega]
    simp only [bin_geq, obs, cond_B]
    rw [if_pos (by simp), idxr hk']
    simp only [obs, ldr hk', un_not, cond_B]
    cases hf : f k with
    | false =>
      simp only [Bool.not_false, if_true]
      refine next f ⟨h1, h2, fun j n hj hfj hn => ?_⟩
      rcases Nat.lt_or_ge k j with e | e
      · exact h3 j n (by omega) hfj hn
      · have : j = k := by omega
        subst this
        rw [hf] at hfj; cases hfj
    | true =>
      simp only [Bool.not_true, Bool.false_eq_true, if_false, idxw hk', obs, fldA_fp, ldw0 hk']
      have hlen : lenA .slice (ua l k) (Hf l.length f []) = some (I (U l k).length) := rfl
      simp only [hlen, obs]
      rw [show (I 0) = I (0 : Nat) from rfl, backIn hv hu hk' lo _ 0 f rfl (by omega)]
      refine next _ ⟨by simp [h1], fun m hm => ?_, fun j n hj hfj hn => ?_⟩
      · simp only [List.drop_zero, Bool.or_eq_true, decide_eq_true_eq] at hm
        rcases hm with hm | hm
        · exact h2 m hm
        · exact (h2 k hf).snoc hm
      · simp only [List.drop_zero, Bool.or_eq_true, decide_eq_true_eq] at hfj ⊢
        rcases Nat.lt_or_ge k j with e | e
        · rcases hfj with hfj | hfj
          · exact .inl (h3 j n (by omega) hfj hn)
          · have := hv k _ hfj; omega
        · have : j = k := by omega
          subst this
          exact .inr hn

theorem call93 (hv : Valid l) (hu : ∀ k, (U l k).length < 2 ^ 63) {i : Nat} (hi : i < l.length) (hN : l.length ≤ 200) (lo : List Nat) (H : Heap) : ∃ nl' tg', callA cfg O 93 [W nl tg l, I i] lo H = some (.p (.sl nl' tg' l.length (tb l.length (rb l i))), H) := by
  obtain ⟨nl', tg', H', e⟩ := backOut (nl := nl) (tg := tg) hv hu (i := i) hN [] (i + 1) (fun m => if m = i then true else false) (by omega) ⟨by simp, fun m hm => by
    have : m = i := by simpa using hm
    rw [this]; exact .refl _, fun j n hj hfj hn => by
    have : j = i := by simpa using hfj
    omega⟩
  refine ⟨nl', tg', callA_args (H' := H') (rs := [_]) rfl rfl ?_ rfl⟩
  rw [f93_eq]
  simp only [lenA_sl, obs]
  rw [mkt _ hN]
  simp only [obs, idxr hi, str [] hi, oms]
  rw [show ((i + 1 : Nat) : Int) - 1 = i by omega] at e
  exact e

end
end Hun
end Go.Proofs.Ytfdkacaocngfkaa
