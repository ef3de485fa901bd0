import Derived.Test.YtangmjeafnkfaaaRowS
import Derived.Test.YtangmjeafnkfaaaELockupRings
import Derived.Test.YtangmjeafnkfaaaAm27
set_option linter.unusedVariables false
set_option linter.unusedSimpArgs false
namespace Go.Proofs.Ytangmjeafnkfaaa
open Go Go.AM
namespace Lk

/-! ### Is a number in a list? -/
section
variable {nl : Option Bool} {tg : Bool} {zs : List Int}
theorem ent96 (hz : zs.length < 2 ^ 62) (n : Int) : O.ent 96 [V nl tg zs, I n] [] [] = some ([B (zs.contains n)], []) := by
  rw [f96_eq]
  have go : ∀ (c i : Nat) (H : Heap), zs.length - i = c → i ≤ zs.length → L96_6 [V nl tg zs, I n, I i] [] H = some ([B ((zs.drop i).contains n)], []) := by
    intro c
    induction c with
    | zero =>
      intro i H hc hi
      have : i = zs.length := by omega
      subst this
      rw [L96_6_eq, List.drop_length]
      simp only [bin_lss, Int.lt_irrefl, obs, oms, bin_add, bin_sub, bin_lss, bin_leq, bin_gtr, bin_geq, bin_eql, bin_neq, bin_eqlB, bin_neqB, un_not, cond_B, gd_B, gd_undef, gdH_B, gdH_undef, pickA_B, extractA_tup, lenA_sl, lenA_row, fldA_fp, fldA_ptr, fldA_rptr, List.getElem?_cons_zero, List.getElem?_cons_succ, decide_true, decide_false, if_true, if_false, Bool.true_eq_false, Bool.false_eq_true, Bool.not_true, Bool.not_false]
      rfl
    | succ c ih =>
      intro i H hc hi
      have hi' : i < zs.length := by omega
      have hlt : (i : Int) < zs.length := by omega
      rw [L96_6_eq, List.drop_eq_getElem_cons hi', List.contains_cons]
      simp only [bin_lss, hlt, idxV hi', ldV hi', bin_add, obs, oms, bin_add, bin_sub, bin_lss, bin_leq, bin_gtr, bin_geq, bin_eql, bin_neq, bin_eqlB, bin_neqB, un_not, cond_B, gd_B, gd_undef, gdH_B, gdH_undef, pickA_B, extractA_tup, lenA_sl, lenA_row, fldA_fp, fldA_ptr, fldA_rptr, List.getElem?_cons_zero, List.getElem?_cons_succ, decide_true, decide_false, if_true, if_false, Bool.true_eq_false, Bool.false_eq_true, Bool.not_true, Bool.not_false]
      rw [wrap_id (by omega), nxt, ih (i + 1) H (by omega) (by omega)]
      by_cases h : zs[i] = n
      · simp [h]
      · have h2 : (n == zs[i]) = false := by simp; exact fun e => h e.symm
        simp only [h, h2, obs, oms, bin_add, bin_sub, bin_lss, bin_leq, bin_gtr, bin_geq, bin_eql, bin_neq, bin_eqlB, bin_neqB, un_not, cond_B, gd_B, gd_undef, gdH_B, gdH_undef, pickA_B, extractA_tup, lenA_sl, lenA_row, fldA_fp, fldA_ptr, fldA_rptr, List.getElem?_cons_zero, List.getElem?_cons_succ, decide_true, decide_false, if_true, if_false, Bool.true_eq_false, Bool.false_eq_true, Bool.not_true, Bool.not_false, Bool.false_or]
  have := go _ 0 [] rfl (by omega)
  rw [List.drop_zero] at this
  exact this
theorem call96 {o : AV} {H : Heap} (hz : zs.length < 2 ^ 62) (h : Lst 1 o H zs.length (zs.map Ia)) (n : Int) (lo : List Nat) : callA cfg O 96 [o, I n] lo H = some (B (zs.contains n), H) := by
  obtain ⟨n2, t2, q, e⟩ := pureLst h
  refine callA_rows (H' := []) (rs := [B (zs.contains n)]) (ys := [V n2 t2 zs, I n]) (b := q || (false || false)) rfl ?_ (ent96 hz n) rfl rfl
  simp only [pureArgs, e, obs, oms]
  rfl

theorem ent94 (hz : zs.length < 2 ^ 62) (n : Int) : O.ent 94 [V nl tg zs, I n] [] [] = some ([B (zs.contains n)], []) := by
  have go : ∀ (c i : Nat) (H : Heap), zs.length - i = c → i ≤ zs.length → ∃ z : Int, L135_6 [V nl tg zs, I n, I zs.length, I i] [] H = some ([I z], []) ∧ decide (0 ≤ z) = (zs.drop i).contains n := by
    intro c
    induction c with
    | zero =>
      intro i H hc hi
      have : i = zs.length := by omega
      subst this
      refine ⟨-1, ?_, by simp⟩
      rw [L135_6_eq]
      simp only [bin_lss, Int.lt_irrefl, obs, oms, bin_add, bin_sub, bin_lss, bin_leq, bin_gtr, bin_geq, bin_eql, bin_neq, bin_eqlB, bin_neqB, un_not, cond_B, gd_B, gd_undef, gdH_B, gdH_undef, pickA_B, extractA_tup, lenA_sl, lenA_row, fldA_fp, fldA_ptr, fldA_rptr, List.getElem?_cons_zero, List.getElem?_cons_succ, decide_true, decide_false, if_true, if_false, Bool.true_eq_false, Bool.false_eq_true, Bool.not_true, Bool.not_false]
      rfl
    | succ c ih =>
      intro i H hc hi
      have hi' : i < zs.length := by omega
      have hlt : (i : Int) < zs.length := by omega
      obtain ⟨z, h1, h2⟩ := ih (i + 1) H (by omega) (by omega)
      rw [L135_6_eq, List.drop_eq_getElem_cons hi', List.contains_cons]
      simp only [bin_lss, hlt, idxV hi', ldV hi', bin_add, obs, oms, bin_add, bin_sub, bin_lss, bin_leq, bin_gtr, bin_geq, bin_eql, bin_neq, bin_eqlB, bin_neqB, un_not, cond_B, gd_B, gd_undef, gdH_B, gdH_undef, pickA_B, extractA_tup, lenA_sl, lenA_row, fldA_fp, fldA_ptr, fldA_rptr, List.getElem?_cons_zero, List.getElem?_cons_succ, decide_true, decide_false, if_true, if_false, Bool.true_eq_false, Bool.false_eq_true, Bool.not_true, Bool.not_false]
      rw [wrap_id (by omega), nxt]
      by_cases h : n = zs[i]
      · exact ⟨i, by simp only [h, obs, oms, bin_add, bin_sub, bin_lss, bin_leq, bin_gtr, bin_geq, bin_eql, bin_neq, bin_eqlB, bin_neqB, un_not, cond_B, gd_B, gd_undef, gdH_B, gdH_undef, pickA_B, extractA_tup, lenA_sl, lenA_row, fldA_fp, fldA_ptr, fldA_rptr, List.getElem?_cons_zero, List.getElem?_cons_succ, decide_true, decide_false, if_true, if_false, Bool.true_eq_false, Bool.false_eq_true, Bool.not_true, Bool.not_false]; rfl, by simp [h]⟩
      · have h3 : (n == zs[i]) = false := by simpa using h
        exact ⟨z, by simp only [h, obs, oms, bin_add, bin_sub, bin_lss, bin_leq, bin_gtr, bin_geq, bin_eql, bin_neq, bin_eqlB, bin_neqB, un_not, cond_B, gd_B, gd_undef, gdH_B, gdH_undef, pickA_B, extractA_tup, lenA_sl, lenA_row, fldA_fp, fldA_ptr, fldA_rptr, List.getElem?_cons_zero, List.getElem?_cons_succ, decide_true, decide_false, if_true, if_false, Bool.true_eq_false, Bool.false_eq_true, Bool.not_true, Bool.not_false]; exact h1, by rw [h3, Bool.false_or]; exact h2⟩
  obtain ⟨z, h1, h2⟩ := go _ 0 [] rfl (by omega)
  rw [List.drop_zero] at h2
  rw [f94_eq]
  have h135 : callA cfg O 135 [V nl tg zs, I n] [] [] = some (I z, []) := by
    refine callA_args (H' := []) (rs := [I z]) rfl rfl ?_ rfl
    rw [f135_eq]
    simp only [lenA_sl, obs]
    exact h1
  simp only [h135, bin_geq, obs, h2]
  rfl
theorem call94 {o : AV} {H : Heap} (hz : zs.length < 2 ^ 62) (h : Lst 1 o H zs.length (zs.map Ia)) (n : Int) (lo : List Nat) : callA cfg O 94 [o, I n] lo H = some (B (zs.contains n), H) := by
  obtain ⟨n2, t2, q, e⟩ := pureLst h
  refine callA_rows (H' := []) (rs := [B (zs.contains n)]) (ys := [V n2 t2 zs, I n]) (b := q || (false || false)) rfl ?_ (ent94 hz n) rfl rfl
  simp only [pureArgs, e, obs, oms]
  rfl
end

/-! ### Who waits for whom -/
abbrev Dw := A_DWait
abbrev L (nl : Option Bool) (tg : Bool) (l : List Dw) : AV := Rw enc_DWait nl tg l
def ag (e : Dw) : AV := .agg ((enc_DWait e).map .p)
def bx (e : Dw) : AObj := .box ((enc_DWait e).map .p)
section
variable {nl : Option Bool} {tg : Bool} {l : List Dw}
theorem idxD {k : Nat} (h : k < l.length) : idxA 3 (L nl tg l) (I k) = some (.fp (l.flatMap enc_DWait) (k * 3)) := idxR h
theorem f0 {k : Nat} (h : k < l.length) (H : Heap) : ld false 1 (.fp (l.flatMap enc_DWait) (k * 3 + 0)) H = some (I l[k].1) := fldR len_DWait h (by omega) H
theorem f1 {k : Nat} (h : k < l.length) (H : Heap) : ld false 1 (.fp (l.flatMap enc_DWait) (k * 3 + 1)) H = some (I l[k].2.1) := fldR len_DWait h (by omega) H
theorem ldE {k : Nat} (h : k < l.length) (H : Heap) : ld true 3 (.fp (l.flatMap enc_DWait) (k * 3)) H = some (ag l[k]) := ldR len_DWait h H
theorem boxE (H : Heap) : boxO [] [(I 0), (I 0), (I 0)] H = some (.ptr H.length 0, H ++ [.box ((List.replicate 3 (Ia 0)).map .p)]) := boxO_p (List.replicate 3 (Ia 0)) H
theorem stE (e : Dw) (lo : List Nat) (H : Heap) : stA 3 (.ptr H.length 0) (ag e) lo (H ++ [.box ((List.replicate 3 (Ia 0)).map .p)]) = some (H ++ [bx e]) :=
  stA_new (n := 3) rfl (len_DWait e) (by omega)
theorem ldB {H : Heap} {id : Nat} {e : Dw} (h : H[id]? = some (bx e)) {j : Nat} : ld false 1 (.ptr id j) H = ((enc_DWait e)[j]?).map .p := by
  rw [ld_box (xs := (enc_DWait e).map .p) h, List.getElem?_map]
theorem ldB0 {H : Heap} {id : Nat} {e : Dw} (h : H[id]? = some (bx e)) : ld false 1 (.ptr id (0 + 0)) H = some (I e.1) := ldB h
theorem ldB1 {H : Heap} {id : Nat} {e : Dw} (h : H[id]? = some (bx e)) : ld false 1 (.ptr id (0 + 1)) H = some (I e.2.1) := ldB h
theorem new_at (H : Heap) (o : AObj) : (H ++ [o])[H.length]? = some o := by simp

abbrev mI (kvs : List (Kv Int)) (c : Nat) : AObj := mapObj (fun n : Int => I n) kvs c
theorem ok_ints (lo : List Nat) (id : Nat) (a b : Int) : okLevels lo id [I a, I b] = true := okLevels_p lo id [Ia a, Ia b]

def inB (n : Int) : Bool := decide (0 ≤ n) && decide (n < 8)
theorem call93 (n : Int) (lo : List Nat) (H : Heap) : callA cfg O 93 [I n] lo H = some (B (inB n), H) := by
  refine callA_args (H' := []) (rs := [B (inB n)]) rfl rfl ?_ rfl
  rw [f93_eq]
  unfold inB
  by_cases h : 0 ≤ n
  · simp only [bin_geq, h, bin_lss, obs, oms, bin_add, bin_sub, bin_lss, bin_leq, bin_gtr, bin_geq, bin_eql, bin_neq, bin_eqlB, bin_neqB, un_not, cond_B, gd_B, gd_undef, gdH_B, gdH_undef, pickA_B, extractA_tup, lenA_sl, lenA_row, fldA_fp, fldA_ptr, fldA_rptr, List.getElem?_cons_zero, List.getElem?_cons_succ, decide_true, decide_false, if_true, if_false, Bool.true_eq_false, Bool.false_eq_true, Bool.not_true, Bool.not_false, Bool.true_and]
    rfl
  · simp only [bin_geq, h, obs, oms, bin_add, bin_sub, bin_lss, bin_leq, bin_gtr, bin_geq, bin_eql, bin_neq, bin_eqlB, bin_neqB, un_not, cond_B, gd_B, gd_undef, gdH_B, gdH_undef, pickA_B, extractA_tup, lenA_sl, lenA_row, fldA_fp, fldA_ptr, fldA_rptr, List.getElem?_cons_zero, List.getElem?_cons_succ, decide_true, decide_false, if_true, if_false, Bool.true_eq_false, Bool.false_eq_true, Bool.not_true, Bool.not_false, Bool.false_and]
    rfl

def bad (w : Dw) : Bool := !inB w.1 || !inB w.2.1
def errF : List Dw → List Dw → Int
  | _, [] => 0
  | pre, w :: r => if bad w = true then 1 else if (pre.any fun x => decide (x.1 = w.1)) = true then 6 else errF (pre ++ [w]) r
def errR (l : List Dw) : Int := if 8 < l.length then 2 else errF [] l

def nf (l : List Dw) (n : Int) : Option Int := (l.find? fun w => decide (w.1 = n)).map fun w => w.2.1
theorem nf_any (l : List Dw) (n : Int) : (l.any fun x => decide (x.1 = n)) = (nf l n).isSome := by
  unfold nf
  rw [Option.isSome_map, Bool.eq_iff_iff, List.find?_isSome, List.any_eq_true]
theorem nf_snoc (l : List Dw) (w : Dw) (n : Int) (h : (l.any fun x => decide (x.1 = w.1)) = false) : nf (l ++ [w]) n = if n = w.1 then some w.2.1 else nf l n := by
  unfold nf
  rw [List.find?_append]
  by_cases e : n = w.1
  · subst e
    rw [if_pos rfl]
    have : l.find? (fun x => decide (x.1 = w.1)) = none := by
      rw [List.find?_eq_none]
      intro x hx
      have := List.any_eq_false.mp h x hx
      simpa using this
    rw [this]
    simp
  · rw [if_neg e]
    have : ¬ w.1 = n := fun h => e h.symm
    cases l.find? (fun x => decide (x.1 = n)) <;> simp [this]

/-- What is right has threads alone. -/
theorem errF_zero : ∀ (r pre : List Dw), errF pre r = 0 → ∀ w ∈ r, bad w = false := by
  intro r
  induction r with
  | nil => intro pre _ w hw; cases hw
  | cons x r ih =>
    intro pre h w hw
    rw [errF] at h
    split at h
    · cases h
    · split at h
      · cases h
      · rename_i h1 h2
        rcases List.mem_cons.mp hw with e | e
        · subst e; simpa using h1
        · exact ih _ h w e
theorem nf_range {l : List Dw} (h : ∀ w ∈ l, bad w = false) {n v : Int} (hv : nf l n = some v) : 0 ≤ v ∧ v < 8 := by
  unfold nf at hv
  rw [Option.map_eq_some_iff] at hv
  obtain ⟨w, hw, rfl⟩ := hv
  have := h w (List.mem_of_find?_eq_some hw)
  unfold bad inB at this
  simp at this
  omega

/-! ### Paths -/
def P (f : Int → Option Int) (t : Int) : Nat → Option Int
  | 0 => some t
  | j + 1 => (P f t j).bind f
def Ret (f : Int → Option Int) (t : Int) (m : Nat) : Prop := 1 ≤ m ∧ P f t m = some t ∧ ∀ i, 1 ≤ i → i < m → P f t i ≠ some t
theorem Ret.uniq {f : Int → Option Int} {t : Int} {m m' : Nat} (h : Ret f t m) (h' : Ret f t m') : m = m' := by
  rcases Nat.lt_trichotomy m m' with e | e | e
  · exact (h'.2.2 m h.1 e h.2.1).elim
  · exact e
  · exact (h.2.2 m' h'.1 e h'.2.1).elim
theorem P_add (f : Int → Option Int) (t : Int) (a : Nat) : ∀ (b : Nat) (x : Int), P f t a = some x → P f t (a + b) = P f x b := by
  intro b
  induction b with
  | zero => intro x h; exact h
  | succ b ih => intro x h; show (P f t (a + b)).bind f = (P f x b).bind f; rw [ih x h]
theorem P_none {f : Int → Option Int} {t : Int} {a : Nat} (h : P f t a = none) : ∀ b, a ≤ b → P f t b = none := by
  intro b hb
  induction b with
  | zero => have : a = 0 := by omega
            rw [this] at h; exact h
  | succ b ih =>
    rcases Nat.eq_or_lt_of_le hb with e | e
    · rw [← e]; exact h
    · show (P f t b).bind f = none
      rw [ih (by omega)]; rfl
/-- What comes back to a place that is not the first one never comes to the first one. -/
theorem P_loop {f : Int → Option Int} {t : Int} {i j : Nat} (h0 : 1 ≤ i) (hij : i < j) {x : Int} (hi : P f t i = some x) (hj : P f t j = some x) (hne : ∀ a, 1 ≤ a → a < j → P f t a ≠ some t) : ∀ m, ¬ Ret f t m := by
  have key : ∀ m, 1 ≤ m → P f t m ≠ some t := by
    intro m
    induction m using Nat.strongRecOn with
    | ind m ih =>
      intro hm
      rcases Nat.lt_or_ge m j with h | h
      · exact hne m hm h
      · have e1 : P f t m = P f t (m - (j - i)) := by
          have a1 := P_add f t j (m - j) x hj
          have a2 := P_add f t i (m - j) x hi
          rw [show j + (m - j) = m by omega] at a1
          rw [show i + (m - j) = m - (j - i) by omega] at a2
          rw [a1, a2]
        rw [e1]
        exact ih _ (by omega) (by omega)
  exact fun m hm => key m hm.1 hm.2.1

theorem pigeon : ∀ (n : Nat) (l : List Int), l.Nodup → (∀ x ∈ l, 0 ≤ x ∧ x < n) → l.length ≤ n := by
  intro n
  induction n with
  | zero =>
    intro l _ h
    cases l with
    | nil => simp
    | cons a l => have := h a (by simp); omega
  | succ n ih =>
    intro l hn h
    have h1 := ih (l.erase (n : Int)) (hn.erase _) fun x hx => by
      have hm := (List.Nodup.mem_erase_iff hn).mp hx
      have := h x hm.2
      have := hm.1
      omega
    have := List.length_erase_le (a := (n : Int)) (l := l)
    by_cases hm : (n : Int) ∈ l
    · have := List.length_erase_of_mem hm
      omega
    · rw [List.erase_of_not_mem hm] at h1
      omega

def pl (f : Int → Option Int) (t : Int) (m : Nat) : List Int := (List.range m).map fun i => (P f t i).getD 0
theorem pl_len (f : Int → Option Int) (t : Int) (m : Nat) : (pl f t m).length = m := by simp [pl]
theorem pl_succ (f : Int → Option Int) (t : Int) (m : Nat) : pl f t (m + 1) = pl f t m ++ [(P f t m).getD 0] := by simp [pl, List.range_succ]

theorem P_range {f : Int → Option Int} (hf : ∀ n v, f n = some v → 0 ≤ v ∧ v < 8) {t : Int} (ht : 0 ≤ t ∧ t < 8) : ∀ (j : Nat) (x : Int), P f t j = some x → 0 ≤ x ∧ x < 8 := by
  intro j x h
  cases j with
  | zero => cases h; exact ht
  | succ j =>
    simp only [P, Option.bind_eq_some_iff] at h
    obtain ⟨y, _, h⟩ := h
    exact hf y x h

/-- Ahead of the return all places part. -/
theorem ret_le {f : Int → Option Int} (hf : ∀ n v, f n = some v → 0 ≤ v ∧ v < 8) {t : Int} (ht : 0 ≤ t ∧ t < 8) {m : Nat} (h : Ret f t m) : m ≤ 8 := by
  have some_ : ∀ i, i ≤ m → ∃ x, P f t i = some x := by
    intro i hi
    cases e : P f t i with
    | some x => exact ⟨x, rfl⟩
    | none => have := P_none e m hi; rw [h.2.1] at this; cases this
  have inj : ∀ i j, i < j → j < m → P f t i ≠ P f t j := by
    intro i j hij hj e
    obtain ⟨x, hx⟩ := some_ i (by omega)
    have hx2 : P f t j = some x := by rw [← e]; exact hx
    have a1 := P_add f t j (m - j) x hx2
    have a2 := P_add f t i (m - j) x hx
    rw [show j + (m - j) = m by omega, h.2.1] at a1
    exact h.2.2 (i + (m - j)) (by omega) (by omega) (by rw [a2, ← a1])
  have hnd : (pl f t m).Nodup := by
    unfold pl
    rw [List.nodup_iff_pairwise_ne, List.pairwise_map]
    refine List.Pairwise.imp_of_mem ?_ List.pairwise_lt_range
    intro i j hi hj hij e
    rw [List.mem_range] at hi hj
    obtain ⟨x, hx⟩ := some_ i (by omega)
    obtain ⟨y, hy⟩ := some_ j (by omega)
    rw [hx, hy] at e
    have e : x = y := e
    exact inj i j hij hj (by rw [hx, hy, e])
  have := pigeon 8 (pl f t m) hnd fun x hx => by
    obtain ⟨i, hi, rfl⟩ := List.mem_map.mp hx
    rw [List.mem_range] at hi
    obtain ⟨y, hy⟩ := some_ i (by omega)
    rw [hy]
    exact P_range hf ht i y hy
  rwa [pl_len] at this

open Classical in
noncomputable def ringAt (f : Int → Option Int) (t : Int) : Option (List Int) := if h : ∃ m, Ret f t m then some (pl f t h.choose) else none
theorem ringAt_some {f : Int → Option Int} {t : Int} {m : Nat} (h : Ret f t m) : ringAt f t = some (pl f t m) := by
  unfold ringAt
  have hx : ∃ m, Ret f t m := ⟨m, h⟩
  rw [dif_pos hx, Ret.uniq hx.choose_spec h]
theorem ringAt_none {f : Int → Option Int} {t : Int} (h : ∀ m, ¬ Ret f t m) : ringAt f t = none := by
  unfold ringAt
  rw [dif_neg fun ⟨m, hm⟩ => h m hm]
noncomputable def ringFrom (f : Int → Option Int) : Nat → Option (List Int)
  | 0 => none
  | c + 1 => (ringAt f ((8 - (c + 1) : Nat) : Int)).or (ringFrom f c)
theorem ringAt_len {f : Int → Option Int} {t : Int} {zs : List Int} (h : ringAt f t = some zs) : 1 ≤ zs.length := by
  unfold ringAt at h
  split at h
  · rename_i hx
    cases h
    rw [pl_len]
    exact hx.choose_spec.1
  · cases h
theorem ringFrom_len {f : Int → Option Int} : ∀ (c : Nat) {zs : List Int}, ringFrom f c = some zs → 1 ≤ zs.length := by
  intro c
  induction c with
  | zero => intro zs h; cases h
  | succ c ih =>
    intro zs h
    rw [ringFrom] at h
    cases hr : ringAt f ((8 - (c + 1) : Nat) : Int) with
    | some ys => rw [hr] at h; cases h; exact ringAt_len hr
    | none => rw [hr] at h; exact ih h

/-! ### The program's -/
theorem loop38 (hl : l.length ≤ 8) {id : Nat} : ∀ (c i : Nat) (H : Heap) (kvs : List (Kv Int)) (cl : Nat), l.length - i = c → i ≤ l.length → Cx H [(id, mI kvs cl)] [] → WfM kvs cl → (∀ n, aget kvs n = (nf (l.take i) n).map fun v => I v) →
    (errF (l.take i) (l.drop i) ≠ 0 ∧ L38_12 [.mp id, L nl tg l, I l.length, I i] [] H = some ([.p nilS, B false, I (errF (l.take i) (l.drop i))], [])) ∨
    (errF (l.take i) (l.drop i) = 0 ∧ ∃ H' kvs' cl', L38_12 [.mp id, L nl tg l, I l.length, I i] [] H = L38_32 [.mp id, I 0] [] H' ∧ Cx H' [(id, mI kvs' cl')] [] ∧ ∀ n, aget kvs' n = (nf l n).map fun v => I v) := by
  intro c
  induction c with
  | zero =>
    intro i H kvs cl hc hi h hw hf
    have : i = l.length := by omega
    subst this
    rw [List.drop_length, List.take_length] at *
    refine .inr ⟨rfl, H, kvs, cl, ?_, h, hf⟩
    rw [L38_12_eq]
    simp only [bin_lss, Int.lt_irrefl, obs, oms, bin_add, bin_sub, bin_lss, bin_leq, bin_gtr, bin_geq, bin_eql, bin_neq, bin_eqlB, bin_neqB, un_not, cond_B, gd_B, gd_undef, gdH_B, gdH_undef, pickA_B, extractA_tup, lenA_sl, lenA_row, fldA_fp, fldA_ptr, fldA_rptr, List.getElem?_cons_zero, List.getElem?_cons_succ, decide_true, decide_false, if_true, if_false, Bool.true_eq_false, Bool.false_eq_true, Bool.not_true, Bool.not_false]
  | succ c ih =>
    intro i H kvs cl hc hi h hw hf
    have hi' : i < l.length := by omega
    have hlt : (i : Int) < l.length := by omega
    have hb := new_at H (bx l[i])
    have h1 := h.push [bx l[i]]
    have hm : (H ++ [bx l[i]])[id]? = some (mI kvs cl) := h1.at (by simp)
    have e3 := map_look2 key_int (z := I 0) hm l[i].1
    have e4 := map_put key_int hm hw l[i].1 (v := I l[i].2.1) (lo := []) (ok_ints [] id _ _)
    have hany := nf_any (l.take i) l[i].1
    rw [List.drop_eq_getElem_cons hi', errF]
    have hstep : L38_12 [.mp id, L nl tg l, I l.length, I i] [] H = if bad l[i] = true then some ([.p nilS, B false, I 1], []) else if (nf (l.take i) l[i].1).isSome = true then some ([.p nilS, B false, I 6], []) else
        L38_12 [.mp id, L nl tg l, I l.length, I (i + 1 : Nat)] [] ((H ++ [bx l[i]]).set id (mI (aput kvs l[i].1 (I l[i].2.1) cl) (if (aget kvs l[i].1).isSome then cl else cl + 1))) := by
      rw [L38_12_eq]
      rw [hf] at e3
      have e3' : (((nf (l.take i) l[i].1).map fun v => I v)).isSome = (nf (l.take i) l[i].1).isSome := Option.isSome_map
      rw [e3'] at e3
      simp only [bin_lss, hlt, idxD hi', ldE hi', boxE, stE, fldA_ptr, ldB0 hb, ldB1 hb, call93, bin_add, obs, oms, bin_add, bin_sub, bin_lss, bin_leq, bin_gtr, bin_geq, bin_eql, bin_neq, bin_eqlB, bin_neqB, un_not, cond_B, gd_B, gd_undef, gdH_B, gdH_undef, pickA_B, extractA_tup, lenA_sl, lenA_row, fldA_fp, fldA_ptr, fldA_rptr, List.getElem?_cons_zero, List.getElem?_cons_succ, decide_true, decide_false, if_true, if_false, Bool.true_eq_false, Bool.false_eq_true, Bool.not_true, Bool.not_false]
      rw [wrap_id (by omega), nxt]
      unfold bad
      cases g1 : inB l[i].1 with
      | false => simp only [obs, oms, bin_add, bin_sub, bin_lss, bin_leq, bin_gtr, bin_geq, bin_eql, bin_neq, bin_eqlB, bin_neqB, un_not, cond_B, gd_B, gd_undef, gdH_B, gdH_undef, pickA_B, extractA_tup, lenA_sl, lenA_row, fldA_fp, fldA_ptr, fldA_rptr, List.getElem?_cons_zero, List.getElem?_cons_succ, decide_true, decide_false, if_true, if_false, Bool.true_eq_false, Bool.false_eq_true, Bool.not_true, Bool.not_false, Bool.true_or]; rfl
      | true =>
        cases g2 : inB l[i].2.1 with
        | false => simp only [ldB1 hb, call93, g2, obs, oms, bin_add, bin_sub, bin_lss, bin_leq, bin_gtr, bin_geq, bin_eql, bin_neq, bin_eqlB, bin_neqB, un_not, cond_B, gd_B, gd_undef, gdH_B, gdH_undef, pickA_B, extractA_tup, lenA_sl, lenA_row, fldA_fp, fldA_ptr, fldA_rptr, List.getElem?_cons_zero, List.getElem?_cons_succ, decide_true, decide_false, if_true, if_false, Bool.true_eq_false, Bool.false_eq_true, Bool.not_true, Bool.not_false, Bool.or_true, Bool.false_or]; rfl
        | true =>
          simp only [ldB0 hb, ldB1 hb, call93, g2, e3, obs, oms, bin_add, bin_sub, bin_lss, bin_leq, bin_gtr, bin_geq, bin_eql, bin_neq, bin_eqlB, bin_neqB, un_not, cond_B, gd_B, gd_undef, gdH_B, gdH_undef, pickA_B, extractA_tup, lenA_sl, lenA_row, fldA_fp, fldA_ptr, fldA_rptr, List.getElem?_cons_zero, List.getElem?_cons_succ, decide_true, decide_false, if_true, if_false, Bool.true_eq_false, Bool.false_eq_true, Bool.not_true, Bool.not_false, Bool.or_self]
          cases g3 : (nf (l.take i) l[i].1).isSome with
          | true => simp only [obs, oms, bin_add, bin_sub, bin_lss, bin_leq, bin_gtr, bin_geq, bin_eql, bin_neq, bin_eqlB, bin_neqB, un_not, cond_B, gd_B, gd_undef, gdH_B, gdH_undef, pickA_B, extractA_tup, lenA_sl, lenA_row, fldA_fp, fldA_ptr, fldA_rptr, List.getElem?_cons_zero, List.getElem?_cons_succ, decide_true, decide_false, if_true, if_false, Bool.true_eq_false, Bool.false_eq_true, Bool.not_true, Bool.not_false]; rfl
          | false => simp only [ldB0 hb, ldB1 hb, e4, obs, oms, bin_add, bin_sub, bin_lss, bin_leq, bin_gtr, bin_geq, bin_eql, bin_neq, bin_eqlB, bin_neqB, un_not, cond_B, gd_B, gd_undef, gdH_B, gdH_undef, pickA_B, extractA_tup, lenA_sl, lenA_row, fldA_fp, fldA_ptr, fldA_rptr, List.getElem?_cons_zero, List.getElem?_cons_succ, decide_true, decide_false, if_true, if_false, Bool.true_eq_false, Bool.false_eq_true, Bool.not_true, Bool.not_false]
    rw [hstep, hany]
    cases g1 : bad l[i] with
    | true => exact .inl ⟨by simp, rfl⟩
    | false =>
      cases g2 : (nf (l.take i) l[i].1).isSome with
      | true => exact .inl ⟨by simp, rfl⟩
      | false =>
        have ht : l.take i ++ [l[i]] = l.take (i + 1) := List.take_append_getElem hi'
        rw [ht]
        simp only [Bool.false_eq_true, if_false]
        exact ih (i + 1) _ _ _ (by omega) (by omega) (h1.setObj (by simp) rfl) (hw.put _ _) fun n => by
          rw [aget_put, hf, ← ht, nf_snoc _ _ _ (by rw [hany, g2])]
          split <;> rfl

/-- One thread's own way. -/
theorem way38 {f : Int → Option Int} (hf8 : ∀ n v, f n = some v → 0 ≤ v ∧ v < 8) {t : Nat} (ht : t < 8) {id : Nat} {kvs : List (Kv Int)} {cl : Nat} (hf : ∀ n, aget kvs n = (f n).map fun v => I v) : ∀ (c j : Nat) (o : AV) (H : Heap), 9 - j = c → 1 ≤ j →
    (pl f t j).Nodup → (∀ i, i < j → ∃ x, P f t i = some x) → (∀ i, 1 ≤ i → i < j → P f t i ≠ some (t : Int)) → Cx H [(id, mI kvs cl)] [(o, 1, (pl f t j).length, (pl f t j).map Ia)] →
    (∃ m, Ret f t m ∧ ∃ n tg, L38_40 [.mp id, I t, o, (match P f t j with | some x => I x | none => I 0), B (P f t j).isSome, I t] [] H = some ([V n tg (pl f t m), B true, I 0], [])) ∨
    ((∀ m, ¬ Ret f t m) ∧ ∃ H', L38_40 [.mp id, I t, o, (match P f t j with | some x => I x | none => I 0), B (P f t j).isSome, I t] [] H = L38_32 [.mp id, I (t + 1 : Nat)] [] H' ∧ Cx H' [(id, mI kvs cl)] []) := by
  intro c
  have ht8 : (0 : Int) ≤ (t : Int) ∧ (t : Int) < 8 := by omega
  have nx : ∀ H, L38_53 [.mp id, I t] [] H = L38_32 [.mp id, I (t + 1 : Nat)] [] H := by
    intro H
    rw [L38_53_eq]
    simp only [bin_add, obs]
    rw [wrap_id (by omega), nxt]
  have all8 : ∀ j, (∀ i, i < j → ∃ x, P f t i = some x) → ∀ x ∈ pl f t j, 0 ≤ x ∧ x < (8 : Nat) := by
    intro j hs x hx
    obtain ⟨i, hi, rfl⟩ := List.mem_map.mp hx
    obtain ⟨y, hy⟩ := hs i (List.mem_range.mp hi)
    rw [hy]
    exact P_range hf8 ht8 i y hy
  induction c with
  | zero =>
    intro j o H hc hj hn hs hne h
    have := pigeon 8 _ hn (all8 j hs)
    rw [pl_len] at this
    omega
  | succ c ih =>
    intro j o H hc hj hn hs hne h
    have hj8 := pigeon 8 _ hn (all8 j hs)
    rw [pl_len] at hj8
    cases hP : P f t j with
    | none =>
      refine .inr ⟨fun m hm => ?_, H, ?_, h.tl⟩
      · rcases Nat.lt_or_ge m j with e | e
        · exact hne m hm.1 e hm.2.1
        · have := P_none hP m e
          rw [hm.2.1] at this
          cases this
      · rw [L38_40_eq]
        simp only [Option.isSome_none, obs, oms, bin_add, bin_sub, bin_lss, bin_leq, bin_gtr, bin_geq, bin_eql, bin_neq, bin_eqlB, bin_neqB, un_not, cond_B, gd_B, gd_undef, gdH_B, gdH_undef, pickA_B, extractA_tup, lenA_sl, lenA_row, fldA_fp, fldA_ptr, fldA_rptr, List.getElem?_cons_zero, List.getElem?_cons_succ, decide_true, decide_false, if_true, if_false, Bool.true_eq_false, Bool.false_eq_true, Bool.not_true, Bool.not_false, nx]
    | some x =>
      simp only [Option.isSome_some]
      rw [L38_40_eq]
      simp only [bin_eql, obs, oms, bin_add, bin_sub, bin_lss, bin_leq, bin_gtr, bin_geq, bin_eql, bin_neq, bin_eqlB, bin_neqB, un_not, cond_B, gd_B, gd_undef, gdH_B, gdH_undef, pickA_B, extractA_tup, lenA_sl, lenA_row, fldA_fp, fldA_ptr, fldA_rptr, List.getElem?_cons_zero, List.getElem?_cons_succ, decide_true, decide_false, if_true, if_false, Bool.true_eq_false, Bool.false_eq_true, Bool.not_true, Bool.not_false]
      by_cases hx : x = t
      · left
        subst hx
        obtain ⟨n, tg, H', e⟩ := h.hd.leave3 [] (Bc true) (Ia 0)
        refine ⟨j, ⟨hj, hP, hne⟩, n, tg, ?_⟩
        simp only [obs, oms, bin_add, bin_sub, bin_lss, bin_leq, bin_gtr, bin_geq, bin_eql, bin_neq, bin_eqlB, bin_neqB, un_not, cond_B, gd_B, gd_undef, gdH_B, gdH_undef, pickA_B, extractA_tup, lenA_sl, lenA_row, fldA_fp, fldA_ptr, fldA_rptr, List.getElem?_cons_zero, List.getElem?_cons_succ, decide_true, decide_false, if_true, if_false, Bool.true_eq_false, Bool.false_eq_true, Bool.not_true, Bool.not_false]
        have e0 : H' = [] := leave0_heap e
        rw [e0] at e
        exact e
      · simp only [hx, call94 (zs := pl f t j) (by rw [pl_len]; omega) h.hd, obs, oms, bin_add, bin_sub, bin_lss, bin_leq, bin_gtr, bin_geq, bin_eql, bin_neq, bin_eqlB, bin_neqB, un_not, cond_B, gd_B, gd_undef, gdH_B, gdH_undef, pickA_B, extractA_tup, lenA_sl, lenA_row, fldA_fp, fldA_ptr, fldA_rptr, List.getElem?_cons_zero, List.getElem?_cons_succ, decide_true, decide_false, if_true, if_false, Bool.true_eq_false, Bool.false_eq_true, Bool.not_true, Bool.not_false]
        cases hc2 : (pl f t j).contains x with
        | true =>
          right
          have hmem : x ∈ pl f t j := by simpa using hc2
          obtain ⟨i, hi, hix⟩ := List.mem_map.mp hmem
          rw [List.mem_range] at hi
          obtain ⟨y, hy⟩ := hs i hi
          rw [hy] at hix
          have hix : y = x := hix
          subst hix
          have hi1 : 1 ≤ i := by
            rcases Nat.eq_zero_or_pos i with e | e
            · subst e
              cases hy
              exact (hx rfl).elim
            · exact e
          refine ⟨P_loop hi1 hi hy hP hne, H, ?_, h.tl⟩
          simp only [obs, oms, bin_add, bin_sub, bin_lss, bin_leq, bin_gtr, bin_geq, bin_eql, bin_neq, bin_eqlB, bin_neqB, un_not, cond_B, gd_B, gd_undef, gdH_B, gdH_undef, pickA_B, extractA_tup, lenA_sl, lenA_row, fldA_fp, fldA_ptr, fldA_rptr, List.getElem?_cons_zero, List.getElem?_cons_succ, decide_true, decide_false, if_true, if_false, Bool.true_eq_false, Bool.false_eq_true, Bool.not_true, Bool.not_false, nx]
        | false =>
          have hnm : x ∉ pl f t j := by simpa using hc2
          obtain ⟨o', H1, q1, q2, _⟩ := Cx.app (bytes := 8) (y := .p (.sl (some false) true 1 [Ia x])) [] h (cells1 _ _) rfl (by omega) (by rw [pl_len]; simp only [room]; omega)
          have hm : H1[id]? = some (mI kvs cl) := q2.at (by simp)
          have e5 := map_look2 key_int (z := I 0) hm x
          rw [hf] at e5
          have hP1 : P f t (j + 1) = f x := by show (P f t j).bind f = _; rw [hP]; rfl
          have hpl : pl f t (j + 1) = pl f t j ++ [x] := by rw [pl_succ, hP]; rfl
          have hnext := ih (j + 1) o' H1 (by omega) (by omega) (by
            rw [hpl, List.nodup_append]
            exact ⟨hn, by simp, fun a ha b hb e => by simp at hb; subst hb; subst e; exact hnm ha⟩) (fun i hi => by
            rcases Nat.lt_succ_iff_lt_or_eq.mp hi with e | e
            · exact hs i e
            · rw [e]; exact ⟨x, hP⟩) (fun i h1 h2 => by
            rcases Nat.lt_succ_iff_lt_or_eq.mp h2 with e | e
            · exact hne i h1 e
            · rw [e, hP]; intro e2; exact hx (Option.some.inj e2)) (by rw [hpl]; simpa using q2)
          simp only [lit1, q1, e5, obs, oms, bin_add, bin_sub, bin_lss, bin_leq, bin_gtr, bin_geq, bin_eql, bin_neq, bin_eqlB, bin_neqB, un_not, cond_B, gd_B, gd_undef, gdH_B, gdH_undef, pickA_B, extractA_tup, lenA_sl, lenA_row, fldA_fp, fldA_ptr, fldA_rptr, List.getElem?_cons_zero, List.getElem?_cons_succ, decide_true, decide_false, if_true, if_false, Bool.true_eq_false, Bool.false_eq_true, Bool.not_true, Bool.not_false]
          rw [hP1] at hnext
          cases hfx : f x with
          | none => rw [hfx] at hnext; simpa using hnext
          | some y => rw [hfx] at hnext; simpa using hnext

theorem loop32 {f : Int → Option Int} (hf8 : ∀ n v, f n = some v → 0 ≤ v ∧ v < 8) {id : Nat} {kvs : List (Kv Int)} {cl : Nat} (hf : ∀ n, aget kvs n = (f n).map fun v => I v) : ∀ (c t : Nat) (H : Heap), 8 - t = c → t ≤ 8 → Cx H [(id, mI kvs cl)] [] →
    (∃ zs n tg, ringFrom f c = some zs ∧ L38_32 [.mp id, I t] [] H = some ([V n tg zs, B true, I 0], [])) ∨ (ringFrom f c = none ∧ L38_32 [.mp id, I t] [] H = some ([.p nilS, B false, I 0], [])) := by
  intro c
  induction c with
  | zero =>
    intro t H hc ht h
    have : t = 8 := by omega
    subst this
    right
    refine ⟨rfl, ?_⟩
    rw [L38_32_eq]
    have z : ¬ (((8 : Nat) : Int) < 8) := by omega
    simp only [bin_lss, z, obs, oms, bin_add, bin_sub, bin_lss, bin_leq, bin_gtr, bin_geq, bin_eql, bin_neq, bin_eqlB, bin_neqB, un_not, cond_B, gd_B, gd_undef, gdH_B, gdH_undef, pickA_B, extractA_tup, lenA_sl, lenA_row, fldA_fp, fldA_ptr, fldA_rptr, List.getElem?_cons_zero, List.getElem?_cons_succ, decide_true, decide_false, if_true, if_false, Bool.true_eq_false, Bool.false_eq_true, Bool.not_true, Bool.not_false]
    rfl
  | succ c ih =>
    intro t H hc ht h
    have hlt : (t : Int) < 8 := by omega
    have htc : 8 - (c + 1) = t := by omega
    have hm : H[id]? = some (mI kvs cl) := h.at (by simp)
    have e5 := map_look2 key_int (z := I 0) hm (t : Int)
    rw [hf] at e5
    have hP1 : P f t 1 = f t := rfl
    have w := way38 hf8 (t := t) (by omega) hf _ 1 (.p (.sl (some false) true 1 [Ia t])) H rfl (by omega) (by simp [pl]) (fun i hi => by
      have : i = 0 := by omega
      subst this
      exact ⟨t, rfl⟩) (fun i h1 h2 => by omega) (h.newLit (sz := 1) (m := 1) (cs := [Ia t]) rfl)
    have hgo : L38_32 [.mp id, I t] [] H = L38_40 [.mp id, I t, .p (.sl (some false) true 1 [Ia t]), (match P f t 1 with | some x => I x | none => I 0), B (P f t 1).isSome, I t] [] H := by
      rw [L38_32_eq, hP1]
      simp only [bin_lss, hlt, lit1, e5, obs, oms, bin_add, bin_sub, bin_lss, bin_leq, bin_gtr, bin_geq, bin_eql, bin_neq, bin_eqlB, bin_neqB, un_not, cond_B, gd_B, gd_undef, gdH_B, gdH_undef, pickA_B, extractA_tup, lenA_sl, lenA_row, fldA_fp, fldA_ptr, fldA_rptr, List.getElem?_cons_zero, List.getElem?_cons_succ, decide_true, decide_false, if_true, if_false, Bool.true_eq_false, Bool.false_eq_true, Bool.not_true, Bool.not_false]
      cases f t <;> rfl
    rw [hgo, ringFrom, htc]
    rcases w with ⟨m, hr, n, tg, e⟩ | ⟨hno, H', e, c'⟩
    · left
      exact ⟨_, n, tg, by rw [ringAt_some hr]; rfl, e⟩
    · rw [ringAt_none hno, e]
      exact ih (t + 1) H' (by omega) (by omega) c'

noncomputable def ring (l : List Dw) : Option (List Int) := if errR l = 0 then ringFrom (nf l) 8 else none
theorem call38 (lo : List Nat) (H : Heap) : ∃ n t2, callA cfg O 38 [L nl tg l] lo H = some (.tup [V n t2 ((ring l).getD []), B (ring l).isSome, I (errR l)], H) := by
  unfold ring
  by_cases hl : 8 < l.length
  · have e2 : errR l = 2 := by unfold errR; rw [if_pos hl]
    have z : ¬ ((2 : Int) = 0) := by omega
    rw [e2, if_neg z]
    refine ⟨some true, true, callA_args (H' := []) (rs := [_, _, _]) rfl rfl ?_ rfl⟩
    rw [f38_eq]
    simp only [lenA_sl, bin_gtr, obs, cond_B]
    rw [if_pos (by simp <;> omega)]
    rfl
  · have e0 : errR l = errF [] l := by unfold errR; rw [if_neg hl]
    have hC : Cx ([] ++ [mI [] 0]) [(0, mI [] 0)] [] := (Cx.nil []).newObj (mI [] 0) rfl
    have key : O.ent 38 [L nl tg l] [] [] = L38_12 [.mp 0, L nl tg l, I l.length, I (0 : Nat)] [] ([] ++ [mI [] 0]) := by
      rw [f38_eq]
      have hm : mkMap [] = (.mp 0, [] ++ [mI [] 0]) := rfl
      simp only [lenA_sl, bin_gtr, obs, cond_B, hm]
      rw [if_neg (by simp <;> omega)]
      rfl
    rcases loop38 (nl := nl) (tg := tg) (l := l) (by omega) _ 0 _ [] 0 rfl (by omega) hC WfM.nil (fun n => by simp [aget_nil, nf]) with ⟨h1, h2⟩ | ⟨h1, H', kvs', cl', h2, c', hf⟩
    · simp only [List.take_zero, List.drop_zero] at h1 h2
      rw [e0, if_neg h1]
      exact ⟨some true, true, callA_args (H' := []) (rs := [_, _, _]) rfl rfl (key.trans h2) rfl⟩
    · simp only [List.take_zero, List.drop_zero] at h1 h2
      rw [e0, if_pos h1, h1]
      rcases loop32 (fun n v hv => nf_range (errF_zero l [] h1) hv) hf 8 0 H' rfl (by omega) c' with ⟨zs, n, tg, q1, q2⟩ | ⟨q1, q2⟩
      · rw [q1]
        exact ⟨n, tg, callA_args (H' := []) (rs := [_, _, _]) rfl rfl (key.trans (h2.trans q2)) rfl⟩
      · rw [q1]
        exact ⟨some true, true, callA_args (H' := []) (rs := [_, _, _]) rfl rfl (key.trans (h2.trans q2)) rfl⟩

end
end Lk
end Go.Proofs.Ytangmjeafnkfaaa
