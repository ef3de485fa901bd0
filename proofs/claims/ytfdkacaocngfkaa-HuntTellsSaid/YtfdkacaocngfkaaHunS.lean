import Derived.Test.YtfdkacaocngfkaaHunR
set_option linter.unusedVariables false
set_option linter.unusedSimpArgs false
namespace Go.Proofs.Ytfdkacaocngfkaa
open Go Go.AM
namespace Hun

abbrev Dd := Option Bool × List Int
def us (p : Dd) : PV := .sl p.1 false p.2.length (p.2.map Ia)
def U (l : List Dd) (k : Nat) : List Int := (l.getD k (none, [])).2
abbrev V (nl : Option Bool) (tg : Bool) (zs : List Int) : AV := .p (.sl nl tg zs.length (zs.map Ia))
abbrev W (nl : Option Bool) (tg : Bool) (l : List Dd) : AV := .p (.sl nl tg l.length (l.map us))

section
variable {nl : Option Bool} {tg : Bool} {zs : List Int} {l : List Dd}

theorem idx {k : Nat} (h : k < zs.length) : idxA 1 (V nl tg zs) (I k) = some (.fp (zs.map Ia) k) := by
  have := idxA_sl (sz := 1) (n := zs.length) (nl := nl) (t := tg) (xs := zs.map Ia) (j := (k : Int)) (by omega)
  simpa using this
theorem ldi {k : Nat} (h : k < zs.length) (H : Heap) : ld false 1 (.fp (zs.map Ia) k) H = some (I zs[k]) := by
  rw [ld_fp, List.getElem?_map, List.getElem?_eq_getElem h]; rfl
theorem idxw {k : Nat} (h : k < l.length) : idxA 1 (W nl tg l) (I k) = some (.fp (l.map us) k) := by
  have := idxA_sl (sz := 1) (n := l.length) (nl := nl) (t := tg) (xs := l.map us) (j := (k : Int)) (by omega)
  simpa using this

/-- The slice at a place. -/
def ua (l : List Dd) (k : Nat) : AV := V (l.getD k (none, [])).1 false (U l k)

theorem at_us {k : Nat} (h : k < l.length) : (l.map us)[k]? = some (us (l.getD k (none, []))) := by
  rw [List.getElem?_map, List.getElem?_eq_getElem h]
  simp [List.getD, h]
theorem ldw {k : Nat} (h : k < l.length) (H : Heap) : ld false 1 (.fp (l.map us) k) H = some (ua l k) := by
  rw [ld_fp, at_us h]; rfl
theorem ldw0 {k : Nat} (h : k < l.length) (H : Heap) : ld false 1 (.fp (l.map us) (k + 0)) H = some (ua l k) := ldw h H
theorem ldwA {k : Nat} (h : k < l.length) (H : Heap) : ld true 1 (.fp (l.map us) k) H = some (.agg [ua l k]) := by
  have hg := at_us h
  have hl : k < (l.map us).length := by simpa using h
  rw [ldAgg_fp (by omega)]
  rw [List.getElem?_eq_getElem hl] at hg
  rw [List.drop_eq_getElem_cons hl, Option.some.inj hg]
  rfl

/-! ### What is wrong -/
def outB (k : Nat) (n : Int) : Bool := decide (n < 0) || decide ((k : Int) ≤ n)
def badAt (l : List Dd) (k : Nat) : Bool := (U l k).any (outB k)
def bad (l : List Dd) : Bool := (List.range l.length).any (badAt l)
def errF (l : List Dd) (ps : List Int) : Int := if 200 < l.length then 2 else if bad l = true then 3 else if ps.any (outB l.length) = true then 1 else 0

theorem range_any {p : Nat → Bool} {n i : Nat} (hi : i < n) : ((List.range n).drop i).any p = (p i || ((List.range n).drop (i + 1)).any p) := by
  rw [List.drop_eq_getElem_cons (by simpa using hi), List.any_cons]
  simp

theorem call95 {id : Nat} {i : Nat} {H : Heap} (ho : H[id]? = some (.box [I i])) (n : Int) (lo : List Nat) : callV cfg O (.fn 95 [] [.ptr id 0]) [I n] lo H = some (B (outB i n), H) := by
  show callA cfg O 95 [I n, .ptr id 0] lo H = _
  refine callA_keep (rs := [B (outB i n)]) rfl ?_
  rw [f95_eq]
  have hl : ld false 1 (.ptr id 0) H = some (I i) := by rw [ld_box ho]; rfl
  unfold outB
  by_cases h : n < 0
  · simp only [bin_lss, h, decide_true, obs, gd_B, Bool.true_eq_false, if_false, gd_undef, pickA_B, if_true, Bool.true_or]
    rfl
  · simp only [bin_lss, h, decide_false, obs, gd_B, if_true, hl, bin_geq, pickA_B, Bool.false_eq_true, if_false, Bool.false_or]
    rfl

theorem placeLoop {ps : List Int} {n2 : Option Bool} {t2 : Bool} (hp : ps.length < 2 ^ 63) (lo : List Nat) (H : Heap) : ∀ (c i : Nat), ps.length - i = c → i ≤ ps.length →
    L91_22 [W nl tg l, V n2 t2 ps, I ps.length, I i] lo H = some ([I (if (ps.drop i).any (outB l.length) = true then 1 else 0)], []) := by
  intro c
  induction c with
  | zero =>
    intro i hc hi
    have : i = ps.length := by omega
    subst this
    rw [L91_22_eq]
    simp only [bin_lss, obs, cond_B]
    rw [if_neg (by simp)]
    simp
  | succ c ih =>
    intro i hc hi
    have hi' : i < ps.length := by omega
    have hd : (ps.drop i).any (outB l.length) = (outB l.length ps[i] || (ps.drop (i + 1)).any (outB l.length)) := by rw [List.drop_eq_getElem_cons hi', List.any_cons]
    rw [L91_22_eq, hd]
    simp only [bin_lss, obs, cond_B]
    rw [if_pos (by simp <;> omega), idx hi']
    simp only [obs, ldi hi', bin_lss, bin_add]
    rw [wrap_id (by omega), show (i : Int) + 1 = ((i + 1 : Nat) : Int) by omega, ih (i + 1) (by omega) (by omega)]
    unfold outB
    by_cases h : ps[i] < 0
    · simp only [h, decide_true, obs, gd_B, Bool.true_eq_false, if_false, gd_undef, pickA_B, if_true, Bool.true_or, cond_B]
      rfl
    · simp only [h, decide_false, obs, gd_B, if_true, lenA_sl, bin_geq, pickA_B, Bool.false_eq_true, if_false, Bool.false_or, cond_B]
      by_cases h2 : (l.length : Int) ≤ ps[i]
      · simp only [h2, decide_true, if_true, Bool.true_or]
        rfl
      · simp only [h2, decide_false, Bool.false_eq_true, if_false, Bool.false_or]

theorem checkLoop {ps : List Int} {n2 : Option Bool} {t2 : Bool} (hl : l.length ≤ 200) (hu : ∀ k, (U l k).length < 2 ^ 63) (hp : ps.length < 2 ^ 63) (lo : List Nat) : ∀ (c i : Nat) (H : Heap), l.length - i = c → i ≤ l.length →
    ∃ H', L91_10 [W nl tg l, V n2 t2 ps, W nl tg l, I l.length, I i] lo H = some ([I (if ((List.range l.length).drop i).any (badAt l) = true then 3 else if ps.any (outB l.length) = true then 1 else 0)], H') := by
  intro c
  induction c with
  | zero =>
    intro i H hc hi
    have : i = l.length := by omega
    subst this
    refine ⟨[], ?_⟩
    rw [L91_10_eq]
    simp only [bin_lss, obs, cond_B, lenA_sl]
    rw [if_neg (by simp)]
    have := placeLoop (nl := nl) (tg := tg) (l := l) (n2 := n2) (t2 := t2) hp lo H _ 0 rfl (by omega)
    rw [List.drop_zero] at this
    rw [show (I 0) = I (0 : Nat) from rfl, this, List.drop_eq_nil_of_le (by simp)]
    simp
  | succ c ih =>
    intro i H hc hi
    have hi' : i < l.length := by omega
    rw [L91_10_eq]
    simp only [bin_lss, obs, cond_B]
    rw [if_pos (by simp <;> omega), idxw hi', obs, ldwA hi', obs]
    have b1 : boxO [] [I 0] H = some (.ptr H.length 0, H ++ [.box [I 0]]) := boxO_p [Ia 0] H
    have b2 : boxO [] [.p nilS] (H ++ [.box [I 0]]) = some (.ptr (H.length + 1) 0, H ++ [.box [I 0]] ++ [.box [.p nilS]]) := by
      have := boxO_p [nilS] (H ++ [.box [I 0]])
      simpa using this
    have s1 : stA 1 (.ptr H.length 0) (I i) lo (H ++ [.box [I 0]] ++ [.box [.p nilS]]) = some (H ++ [.box [I i]] ++ [.box [.p nilS]]) := by
      rw [stA_one (x0 := I 0) (by simp)]
      simp
    have s2 : stA 1 (.ptr (H.length + 1) 0) (.agg [ua l i]) lo (H ++ [.box [I i]] ++ [.box [.p nilS]]) = some (H ++ [.box [I i]] ++ [.box [ua l i]]) := by
      unfold ua
      rw [stA_oneA (x0 := .p nilS) (by simp)]
      simp
    have l1 : ld false 1 (.ptr (H.length + 1) (0 + 0)) (H ++ [.box [I i]] ++ [.box [ua l i]]) = some (ua l i) := by
      rw [ld_box (xs := [ua l i]) (by simp)]; rfl
    have ho : (H ++ [.box [I i]] ++ [.box [ua l i]])[H.length]? = some (.box [I i]) := by simp
    simp only [b1, b2, s1, s2, oms, obs, fldA_ptr, l1]
    have hc77 := call77 (x := V (l.getD i (none, [])).1 false (U l i)) (zs := U l i) (p := outB i) (lo := lo) (hu i) (Src.v _ _ _ (H ++ [.box [I i]] ++ [.box [ua l i]])) (fun n _ => call95 ho n lo)
    have hc77' : callA cfg O 77 [ua l i, .fn 95 [] [.ptr H.length 0]] lo (H ++ [.box [I i]] ++ [.box [ua l i]]) = some (B (badAt l i), H ++ [.box [I i]] ++ [.box [ua l i]]) := hc77
    simp only [hc77', obs, cond_B, bin_add]
    rw [wrap_id (by omega), show (i : Int) + 1 = ((i + 1 : Nat) : Int) by omega, range_any hi']
    cases hb : badAt l i with
    | true => exact ⟨_, rfl⟩
    | false =>
      simp only [Bool.false_eq_true, if_false, Bool.false_or]
      exact ih (i + 1) _ (by omega) (by omega)

theorem call91 {ps : List Int} {n2 : Option Bool} {t2 : Bool} (hu : ∀ k, (U l k).length < 2 ^ 63) (hp : ps.length < 2 ^ 63) (lo : List Nat) (H : Heap) : callA cfg O 91 [W nl tg l, V n2 t2 ps] lo H = some (I (errF l ps), H) := by
  unfold errF
  by_cases h : 200 < l.length
  · rw [if_pos h]
    refine callA_args (H' := []) (rs := [I 2]) rfl rfl ?_ rfl
    rw [f91_eq]
    simp only [lenA_sl, obs, bin_gtr, cond_B]
    rw [if_pos (by simp <;> omega)]
    rfl
  · rw [if_neg h]
    obtain ⟨H', e⟩ := checkLoop (nl := nl) (tg := tg) (l := l) (n2 := n2) (t2 := t2) (by omega) hu hp [] _ 0 [] rfl (by omega)
    refine callA_args (H' := H') (rs := [I _]) rfl rfl ?_ rfl
    rw [f91_eq]
    simp only [lenA_sl, obs, bin_gtr, cond_B]
    rw [if_neg (by simp <;> omega)]
    exact e

theorem bet (n : Int) (k : Nat) : (!(decide (0 ≤ n) && decide (n ≤ (k : Int) - 1))) = outB k n := by
  unfold outB
  by_cases h : n < 0
  · have : ¬ (0 ≤ n) := by omega
    simp [h, this]
  · have h0 : 0 ≤ n := by omega
    by_cases h1 : (k : Int) ≤ n
    · have : ¬ (n ≤ (k : Int) - 1) := by omega
      simp [h1, this]
    · have : n ≤ (k : Int) - 1 := by omega
      simp [h, h0, h1, this]

theorem refPlace {ps : List Int} {n2 : Option Bool} {t2 : Bool} (hl : l.length ≤ 200) (hp : ps.length < 2 ^ 63) (lo : List Nat) (H : Heap) : ∀ (c i : Nat), ps.length - i = c → i ≤ ps.length →
    L62_26 [W nl tg l, V n2 t2 ps, I i] lo H = some ([I (if (ps.drop i).any (outB l.length) = true then 1 else 0)], []) := by
  intro c
  induction c with
  | zero =>
    intro i hc hi
    have : i = ps.length := by omega
    subst this
    rw [L62_26_eq]
    simp only [lenA_sl, bin_lss, obs, cond_B]
    rw [if_neg (by simp)]
    simp
  | succ c ih =>
    intro i hc hi
    have hi' : i < ps.length := by omega
    have hd : (ps.drop i).any (outB l.length) = (outB l.length ps[i] || (ps.drop (i + 1)).any (outB l.length)) := by rw [List.drop_eq_getElem_cons hi', List.any_cons]
    rw [L62_26_eq, hd]
    simp only [lenA_sl, bin_lss, obs, cond_B]
    rw [if_pos (by simp <;> omega), idx hi']
    simp only [obs, ldi hi', bin_sub]
    rw [wrap_id (by omega)]
    simp only [between_eq, obs, un_not, bet, cond_B, bin_add]
    rw [wrap_id (by omega), show (i : Int) + 1 = ((i + 1 : Nat) : Int) by omega, ih (i + 1) (by omega) (by omega)]
    cases outB l.length ps[i] with
    | true => rfl
    | false => rfl

theorem refUses {ps : List Int} {n2 : Option Bool} {t2 : Bool} (hl : l.length ≤ 200) (hu : ∀ k, (U l k).length < 2 ^ 63) {k : Nat} (hk : k < l.length) (lo : List Nat) (H : Heap) : ∀ (c j : Nat), (U l k).length - j = c → j ≤ (U l k).length →
    L62_16 [W nl tg l, V n2 t2 ps, I k, I j] lo H = if ((U l k).drop j).any (outB k) = true then some ([I 3], []) else L62_10 [W nl tg l, V n2 t2 ps, I (k + 1 : Nat)] lo H := by
  intro c
  have hlen := hu k
  induction c with
  | zero =>
    intro j hc hj
    have : j = (U l k).length := by omega
    subst this
    rw [L62_16_eq]
    simp only [idxw hk, obs, fldA_fp, ldw0 hk]
    simp only [ua, lenA_sl, bin_lss, obs, cond_B]
    rw [if_neg (by simp)]
    simp only [bin_add, obs]
    rw [wrap_id (by omega), show (k : Int) + 1 = ((k + 1 : Nat) : Int) by omega]
    simp
  | succ c ih =>
    intro j hc hj
    have hj' : j < (U l k).length := by omega
    have hd : ((U l k).drop j).any (outB k) = (outB k (U l k)[j] || ((U l k).drop (j + 1)).any (outB k)) := by rw [List.drop_eq_getElem_cons hj', List.any_cons]
    rw [L62_16_eq, hd]
    simp only [idxw hk, obs, fldA_fp, ldw0 hk]
    simp only [ua, lenA_sl, bin_lss, obs, cond_B]
    rw [if_pos (by simp <;> omega), idx hj']
    simp only [obs, ldi hj', bin_sub]
    rw [wrap_id (by omega)]
    simp only [between_eq, obs, un_not, bet, cond_B, bin_add]
    rw [wrap_id (by omega), show (j : Int) + 1 = ((j + 1 : Nat) : Int) by omega, ih (j + 1) (by omega) (by omega)]
    cases outB k (U l k)[j] with
    | true => rfl
    | false => rfl

theorem refCheck {ps : List Int} {n2 : Option Bool} {t2 : Bool} (hl : l.length ≤ 200) (hu : ∀ k, (U l k).length < 2 ^ 63) (hp : ps.length < 2 ^ 63) (lo : List Nat) (H : Heap) : ∀ (c i : Nat), l.length - i = c → i ≤ l.length →
    L62_10 [W nl tg l, V n2 t2 ps, I i] lo H = some ([I (if ((List.range l.length).drop i).any (badAt l) = true then 3 else if ps.any (outB l.length) = true then 1 else 0)], []) := by
  intro c
  induction c with
  | zero =>
    intro i hc hi
    have : i = l.length := by omega
    subst this
    rw [L62_10_eq]
    simp only [lenA_sl, bin_lss, obs, cond_B]
    rw [if_neg (by simp)]
    have := refPlace (nl := nl) (tg := tg) (l := l) (n2 := n2) (t2 := t2) hl hp lo H _ 0 rfl (by omega)
    rw [List.drop_zero] at this
    rw [show (I 0) = I (0 : Nat) from rfl, this, List.drop_eq_nil_of_le (by simp)]
    simp
  | succ c ih =>
    intro i hc hi
    have hi' : i < l.length := by omega
    rw [L62_10_eq]
    simp only [lenA_sl, bin_lss, obs, cond_B]
    rw [if_pos (by simp <;> omega), show (I 0) = I (0 : Nat) from rfl, refUses (nl := nl) (tg := tg) hl hu hi' lo H _ 0 rfl (by omega), ih (i + 1) (by omega) (by omega), range_any hi', List.drop_zero]
    show (if badAt l i = true then _ else _) = _
    cases badAt l i with
    | true => rfl
    | false => rfl

theorem call62 {ps : List Int} {n2 : Option Bool} {t2 : Bool} (hu : ∀ k, (U l k).length < 2 ^ 63) (hp : ps.length < 2 ^ 63) (lo : List Nat) (H : Heap) : callA cfg O 62 [W nl tg l, V n2 t2 ps] lo H = some (I (errF l ps), H) := by
  unfold errF
  by_cases h : 200 < l.length
  · rw [if_pos h]
    refine callA_args (H' := []) (rs := [I 2]) rfl rfl ?_ rfl
    rw [f62_eq]
    simp only [lenA_sl, obs, bin_gtr, cond_B]
    rw [if_pos (by simp <;> omega)]
    rfl
  · rw [if_neg h]
    refine callA_args (H' := []) (rs := [I _]) rfl rfl ?_ rfl
    rw [f62_eq]
    simp only [lenA_sl, obs, bin_gtr, cond_B]
    rw [if_neg (by simp <;> omega)]
    exact refCheck (by omega) hu hp [] [] _ 0 rfl (by omega)

end
end Hun
end Go.Proofs.Ytfdkacaocngfkaa
