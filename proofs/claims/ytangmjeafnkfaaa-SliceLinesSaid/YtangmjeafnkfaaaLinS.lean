import Derived.Test.YtangmjeafnkfaaaRowS
import Derived.Test.YtangmjeafnkfaaaESliceLines
import Derived.Test.YtangmjeafnkfaaaAm27
set_option linter.unusedVariables false
set_option linter.unusedSimpArgs false
namespace Go.Proofs.Ytangmjeafnkfaaa
open Go Go.AM
namespace Lin

abbrev Dl := A_DLet
abbrev dd : Dl := (0, 0, 0, 0)
abbrev L (nl : Option Bool) (tg : Bool) (l : List Dl) : AV := Rw enc_DLet nl tg l
def ag (e : Dl) : AV := .agg ((enc_DLet e).map .p)
def bx (e : Dl) : AObj := .box ((enc_DLet e).map .p)
section
variable {nl : Option Bool} {tg : Bool} {l : List Dl}
theorem idxD {k : Nat} (h : k < l.length) : idxA 4 (L nl tg l) (I k) = some (.fp (l.flatMap enc_DLet) (k * 4)) := idxR h
theorem f0 {k : Nat} (h : k < l.length) (H : Heap) : ld false 1 (.fp (l.flatMap enc_DLet) (k * 4 + 0)) H = some (I l[k].1) := fldR len_DLet h (by omega) H
theorem f1 {k : Nat} (h : k < l.length) (H : Heap) : ld false 1 (.fp (l.flatMap enc_DLet) (k * 4 + 1)) H = some (I l[k].2.1) := fldR len_DLet h (by omega) H
theorem f2 {k : Nat} (h : k < l.length) (H : Heap) : ld false 1 (.fp (l.flatMap enc_DLet) (k * 4 + 2)) H = some (I l[k].2.2.1) := fldR len_DLet h (by omega) H
theorem f3 {k : Nat} (h : k < l.length) (H : Heap) : ld false 1 (.fp (l.flatMap enc_DLet) (k * 4 + 3)) H = some (I l[k].2.2.2) := fldR len_DLet h (by omega) H
theorem ldE {k : Nat} (h : k < l.length) (H : Heap) : ld true 4 (.fp (l.flatMap enc_DLet) (k * 4)) H = some (ag l[k]) := ldR len_DLet h H
theorem boxE (H : Heap) : boxO [] [(I 0), (I 0), (I 0), (I 0)] H = some (.ptr H.length 0, H ++ [.box ((List.replicate 4 (Ia 0)).map .p)]) := boxO_p (List.replicate 4 (Ia 0)) H
theorem boxAg (e : Dl) (H : Heap) : boxO [] (AV.cells (ag e)) H = some (.ptr H.length 0, H ++ [bx e]) := boxO_p (enc_DLet e) H
theorem stE (e : Dl) (lo : List Nat) (H : Heap) : stA 4 (.ptr H.length 0) (ag e) lo (H ++ [.box ((List.replicate 4 (Ia 0)).map .p)]) = some (H ++ [bx e]) :=
  stA_new (n := 4) rfl (len_DLet e) (by omega)
theorem ldB {H : Heap} {id : Nat} {e : Dl} (h : H[id]? = some (bx e)) {j : Nat} : ld false 1 (.ptr id j) H = ((enc_DLet e)[j]?).map .p := by
  rw [ld_box (xs := (enc_DLet e).map .p) h, List.getElem?_map]
theorem ldB0 {H : Heap} {id : Nat} {e : Dl} (h : H[id]? = some (bx e)) : ld false 1 (.ptr id (0 + 0)) H = some (I e.1) := ldB h
theorem ldB1 {H : Heap} {id : Nat} {e : Dl} (h : H[id]? = some (bx e)) : ld false 1 (.ptr id (0 + 1)) H = some (I e.2.1) := ldB h
theorem ldB2 {H : Heap} {id : Nat} {e : Dl} (h : H[id]? = some (bx e)) : ld false 1 (.ptr id (0 + 2)) H = some (I e.2.2.1) := ldB h
theorem ldB3 {H : Heap} {id : Nat} {e : Dl} (h : H[id]? = some (bx e)) : ld false 1 (.ptr id (0 + 3)) H = some (I e.2.2.2) := ldB h
theorem ldBE {H : Heap} {id : Nat} {e : Dl} (h : H[id]? = some (bx e)) : ld true 4 (.ptr id 0) H = some (ag e) := by
  rw [ldAgg_box (xs := (enc_DLet e).map .p) h (by simp [len_DLet]) (by simp [len_DLet])]
  rw [List.drop_zero, List.take_of_length_le (by simp [len_DLet])]
  rfl
theorem new_at (H : Heap) (o : AObj) : (H ++ [o])[H.length]? = some o := by simp

/-! ### What is wrong -/
def opBad (e : Dl) : Bool := decide (e.2.1 < 0) || decide (3 < e.2.1)
def errD (l : List Dl) (a : Int) : Int := if 200 < l.length then 2 else if l.any opBad = true then 7 else if a < 0 ∨ (l.length : Int) ≤ a then 1 else 0

theorem call146 (e : Dl) (lo : List Nat) (H : Heap) : callV cfg O (.fn 146 [] []) [ag e] lo H = some (B (opBad e), H) := by
  show callA cfg O 146 [ag e] lo H = _
  refine callA_args (H' := [bx e]) (rs := [B (opBad e)]) rfl rfl ?_ rfl
  rw [f146_eq]
  have h : ([bx e] : Heap)[0]? = some (bx e) := rfl
  have b : boxO [] (AV.cells (ag e)) [] = some (.ptr 0 0, [bx e]) := boxAg e []
  unfold opBad
  simp only [b, obs, fldA_ptr, ldB1 h, bin_lss]
  by_cases g : e.2.1 < 0
  · simp only [g, obs, oms, bin_add, bin_sub, bin_lss, bin_leq, bin_gtr, bin_geq, bin_eql, bin_neq, bin_eqlB, bin_neqB, un_not, cond_B, gd_B, gd_undef, gdH_B, gdH_undef, pickA_B, extractA_tup, lenA_sl, lenA_row, fldA_fp, fldA_ptr, fldA_rptr, List.getElem?_cons_zero, List.getElem?_cons_succ, decide_true, decide_false, if_true, if_false, Bool.true_eq_false, Bool.false_eq_true, Bool.not_true, Bool.not_false]
    rfl
  · simp only [g, ldB1 h, obs, oms, bin_add, bin_sub, bin_lss, bin_leq, bin_gtr, bin_geq, bin_eql, bin_neq, bin_eqlB, bin_neqB, un_not, cond_B, gd_B, gd_undef, gdH_B, gdH_undef, pickA_B, extractA_tup, lenA_sl, lenA_row, fldA_fp, fldA_ptr, fldA_rptr, List.getElem?_cons_zero, List.getElem?_cons_succ, decide_true, decide_false, if_true, if_false, Bool.true_eq_false, Bool.false_eq_true, Bool.not_true, Bool.not_false]
    by_cases g2 : 3 < e.2.1 <;> simp only [g2, obs, oms, bin_add, bin_sub, bin_lss, bin_leq, bin_gtr, bin_geq, bin_eql, bin_neq, bin_eqlB, bin_neqB, un_not, cond_B, gd_B, gd_undef, gdH_B, gdH_undef, pickA_B, extractA_tup, lenA_sl, lenA_row, fldA_fp, fldA_ptr, fldA_rptr, List.getElem?_cons_zero, List.getElem?_cons_succ, decide_true, decide_false, if_true, if_false, Bool.true_eq_false, Bool.false_eq_true, Bool.not_true, Bool.not_false] <;> rfl

theorem loop155 (lo : List Nat) (H : Heap) (hl : l.length < 2 ^ 63) : ∀ (c i : Nat), l.length - i = c → i ≤ l.length → ∃ z : Int, L155_6 [L nl tg l, .fn 146 [] [], I l.length, I i] lo H = some ([I z], H) ∧ decide (0 ≤ z) = (l.drop i).any opBad := by
  intro c
  induction c with
  | zero =>
    intro i hc hi
    have : i = l.length := by omega
    subst this
    refine ⟨-1, ?_, by simp⟩
    rw [L155_6_eq]
    simp only [bin_lss, obs, cond_B]
    rw [if_neg (by simp)]
    rfl
  | succ c ih =>
    intro i hc hi
    have hi' : i < l.length := by omega
    obtain ⟨z, h1, h2⟩ := ih (i + 1) (by omega) (by omega)
    have hd : (l.drop i).any opBad = (opBad l[i] || (l.drop (i + 1)).any opBad) := by rw [List.drop_eq_getElem_cons hi', List.any_cons]
    rw [L155_6_eq, hd]
    simp only [bin_lss, obs, cond_B]
    rw [if_pos (by simp <;> omega)]
    simp only [idxD hi', ldE hi', call146, bin_add, obs, cond_B]
    rw [wrap_id (by omega), nxt]
    cases opBad l[i] with
    | true => exact ⟨i, rfl, by simp⟩
    | false => exact ⟨z, by simpa using h1, by simpa using h2⟩

theorem call118 (a : Int) (hl : l.length < 2 ^ 63) (lo : List Nat) (H : Heap) : callA cfg O 118 [L nl tg l, I a] lo H = some (I (errD l a), H) := by
  obtain ⟨z, h1, h2⟩ := loop155 (nl := nl) (tg := tg) [] [] hl _ 0 rfl (by omega)
  rw [List.drop_zero] at h2
  have h155 : ∀ H, callA cfg O 155 [L nl tg l, .fn 146 [] []] [] H = some (I z, H) := fun H => by
    refine callA_args (H' := []) (rs := [I z]) rfl rfl ?_ rfl
    rw [f155_eq]
    simp only [lenA_sl, obs]
    exact h1
  have h145 : ∀ H, callA cfg O 145 [L nl tg l, .fn 146 [] []] [] H = some (B (l.any opBad), H) := fun H => by
    refine callA_args (H' := []) (rs := [B (l.any opBad)]) rfl rfl ?_ rfl
    rw [f145_eq]
    simp only [h155, obs, bin_geq, h2]
    rfl
  refine callA_args (H' := []) (rs := [I (errD l a)]) rfl rfl ?_ rfl
  rw [f118_eq]
  unfold errD
  simp only [lenA_sl, obs, bin_gtr, cond_B, h145]
  by_cases hl : 200 < l.length
  · rw [if_pos (by simp <;> omega), if_pos hl]
    rfl
  · rw [if_neg (by simp <;> omega), if_neg hl]
    cases hb : l.any opBad with
    | true => rfl
    | false =>
      simp only [obs, oms, bin_add, bin_sub, bin_lss, bin_leq, bin_gtr, bin_geq, bin_eql, bin_neq, bin_eqlB, bin_neqB, un_not, cond_B, gd_B, gd_undef, gdH_B, gdH_undef, pickA_B, extractA_tup, lenA_sl, lenA_row, fldA_fp, fldA_ptr, fldA_rptr, List.getElem?_cons_zero, List.getElem?_cons_succ, decide_true, decide_false, if_true, if_false, Bool.true_eq_false, Bool.false_eq_true, Bool.not_true, Bool.not_false]
      by_cases g : a < 0
      · simp only [g, true_or, obs, oms, bin_add, bin_sub, bin_lss, bin_leq, bin_gtr, bin_geq, bin_eql, bin_neq, bin_eqlB, bin_neqB, un_not, cond_B, gd_B, gd_undef, gdH_B, gdH_undef, pickA_B, extractA_tup, lenA_sl, lenA_row, fldA_fp, fldA_ptr, fldA_rptr, List.getElem?_cons_zero, List.getElem?_cons_succ, decide_true, decide_false, if_true, if_false, Bool.true_eq_false, Bool.false_eq_true, Bool.not_true, Bool.not_false]
        rfl
      · by_cases g2 : (l.length : Int) ≤ a
        · simp only [g, g2, or_true, obs, oms, bin_add, bin_sub, bin_lss, bin_leq, bin_gtr, bin_geq, bin_eql, bin_neq, bin_eqlB, bin_neqB, un_not, cond_B, gd_B, gd_undef, gdH_B, gdH_undef, pickA_B, extractA_tup, lenA_sl, lenA_row, fldA_fp, fldA_ptr, fldA_rptr, List.getElem?_cons_zero, List.getElem?_cons_succ, decide_true, decide_false, if_true, if_false, Bool.true_eq_false, Bool.false_eq_true, Bool.not_true, Bool.not_false]
          rfl
        · simp only [g, g2, or_self, obs, oms, bin_add, bin_sub, bin_lss, bin_leq, bin_gtr, bin_geq, bin_eql, bin_neq, bin_eqlB, bin_neqB, un_not, cond_B, gd_B, gd_undef, gdH_B, gdH_undef, pickA_B, extractA_tup, lenA_sl, lenA_row, fldA_fp, fldA_ptr, fldA_rptr, List.getElem?_cons_zero, List.getElem?_cons_succ, decide_true, decide_false, if_true, if_false, Bool.true_eq_false, Bool.false_eq_true, Bool.not_true, Bool.not_false]
          rfl

theorem btw (x : Int) : (!(decide (0 ≤ x) && decide (x ≤ 3))) = (decide (x < 0) || decide (3 < x)) := by
  by_cases h : x < 0
  · have : ¬ 0 ≤ x := by omega
    simp [h, this]
  · have h0 : 0 ≤ x := by omega
    by_cases h1 : 3 < x
    · have : ¬ x ≤ 3 := by omega
      simp [h1, this]
    · have : x ≤ 3 := by omega
      simp [h, h0, h1, this]

theorem loop54 (a : Int) (hl : l.length ≤ 200) (lo : List Nat) (H : Heap) : ∀ (c i : Nat), l.length - i = c → i ≤ l.length → L54_10 [L nl tg l, I a, I i] lo H = some ([I (if (l.drop i).any opBad = true then 7 else if a < 0 ∨ (l.length : Int) ≤ a then 1 else 0)], H) := by
  intro c
  induction c with
  | zero =>
    intro i hc hi
    have : i = l.length := by omega
    subst this
    rw [L54_10_eq, List.drop_length]
    simp only [lenA_sl, bin_lss, Int.lt_irrefl, bin_sub, obs, oms, bin_add, bin_sub, bin_lss, bin_leq, bin_gtr, bin_geq, bin_eql, bin_neq, bin_eqlB, bin_neqB, un_not, cond_B, gd_B, gd_undef, gdH_B, gdH_undef, pickA_B, extractA_tup, lenA_sl, lenA_row, fldA_fp, fldA_ptr, fldA_rptr, List.getElem?_cons_zero, List.getElem?_cons_succ, decide_true, decide_false, if_true, if_false, Bool.true_eq_false, Bool.false_eq_true, Bool.not_true, Bool.not_false]
    rw [wrap_id (by omega)]
    simp only [between_eq, obs, un_not, cond_B]
    by_cases g : a < 0 ∨ (l.length : Int) ≤ a
    · have : (!(decide (0 ≤ a) && decide (a ≤ (l.length : Int) - 1))) = true := by
        rcases g with g | g
        · have : ¬ 0 ≤ a := by omega
          simp [this]
        · have : ¬ a ≤ (l.length : Int) - 1 := by omega
          simp [this]
      rw [this]
      simp [g]
    · have h1 : 0 ≤ a := by omega
      have h2 : a ≤ (l.length : Int) - 1 := by omega
      simp [g, h1, h2]
  | succ c ih =>
    intro i hc hi
    have hi' : i < l.length := by omega
    have hd : (l.drop i).any opBad = (opBad l[i] || (l.drop (i + 1)).any opBad) := by rw [List.drop_eq_getElem_cons hi', List.any_cons]
    rw [L54_10_eq, hd]
    simp only [lenA_sl, bin_lss, obs, cond_B]
    rw [if_pos (by simp <;> omega)]
    simp only [idxD hi', fldA_fp, f1 hi', between_eq, bin_add, obs, un_not, cond_B, btw]
    rw [wrap_id (by omega), nxt, ih (i + 1) (by omega) (by omega)]
    show (if opBad l[i] = true then _ else _) = _
    cases opBad l[i] with
    | true => rfl
    | false => rfl

theorem call54 (a : Int) (lo : List Nat) (H : Heap) : callA cfg O 54 [L nl tg l, I a] lo H = some (I (errD l a), H) := by
  refine callA_args (H' := []) (rs := [I (errD l a)]) rfl rfl ?_ rfl
  rw [f54_eq]
  unfold errD
  simp only [lenA_sl, obs, bin_gtr, cond_B]
  by_cases hl : 200 < l.length
  · rw [if_pos (by simp <;> omega), if_pos hl]
    rfl
  · rw [if_neg (by simp <;> omega), if_neg hl]
    have := loop54 (nl := nl) (tg := tg) (l := l) a (by omega) [] [] _ 0 rfl (by omega)
    rw [List.drop_zero] at this
    exact this

theorem errD_zero {a : Int} (h : errD l a = 0) : l.length ≤ 200 ∧ l.any opBad = false ∧ ∃ n : Nat, a = n ∧ n < l.length := by
  unfold errD at h
  split at h
  · cases h
  · split at h
    · cases h
    · split at h
      · cases h
      · rename_i h1 h2 h3
        exact ⟨by omega, by simpa using h2, a.toNat, by omega, by omega⟩

/-! ### The last line ahead of a place that puts into a variable -/
def toAt (l : List Dl) (i : Nat) : Int := (l.getD i dd).1
theorem toAt_eq {i : Nat} (h : i < l.length) : toAt l i = l[i].1 := by simp [toAt, List.getD, h]
def lastI (l : List Dl) : Nat → Int → Option Nat
  | 0, _ => none
  | i + 1, n => if toAt l i = n then some i else lastI l i n
theorem lastI_lt : ∀ (i : Nat) (n : Int) (k : Nat), lastI l i n = some k → k < i := by
  intro i
  induction i with
  | zero => intro n k h; cases h
  | succ i ih =>
    intro n k h
    rw [lastI] at h
    split at h
    · cases h; omega
    · have := ih n k h; omega
def lv : Option Nat → Int
  | none => -1
  | some k => k

theorem loop121 (n : Int) (lo : List Nat) (H : Heap) (hl : l.length < 2 ^ 63) : ∀ (i : Nat), i ≤ l.length → L121_6 [L nl tg l, I n, I ((i : Int) - 1)] lo H = some ([I (lv (lastI l i n))], H) := by
  intro i
  induction i with
  | zero =>
    intro hi
    rw [L121_6_eq]
    rfl
  | succ i ih =>
    intro hi
    have hi' : i < l.length := by omega
    rw [L121_6_eq, lastI, toAt_eq hi', show (((i + 1 : Nat) : Int) - 1) = (i : Int) by omega]
    have g : (0 : Int) ≤ i := by omega
    simp only [bin_geq, g, idxD hi', fldA_fp, f0 hi', bin_eql, bin_sub, obs, oms, bin_add, bin_sub, bin_lss, bin_leq, bin_gtr, bin_geq, bin_eql, bin_neq, bin_eqlB, bin_neqB, un_not, cond_B, gd_B, gd_undef, gdH_B, gdH_undef, pickA_B, extractA_tup, lenA_sl, lenA_row, fldA_fp, fldA_ptr, fldA_rptr, List.getElem?_cons_zero, List.getElem?_cons_succ, decide_true, decide_false, if_true, if_false, Bool.true_eq_false, Bool.false_eq_true, Bool.not_true, Bool.not_false]
    rw [wrap_id (by omega), ih (by omega)]
    by_cases h : l[i].1 = n
    · simp only [h, obs, oms, bin_add, bin_sub, bin_lss, bin_leq, bin_gtr, bin_geq, bin_eql, bin_neq, bin_eqlB, bin_neqB, un_not, cond_B, gd_B, gd_undef, gdH_B, gdH_undef, pickA_B, extractA_tup, lenA_sl, lenA_row, fldA_fp, fldA_ptr, fldA_rptr, List.getElem?_cons_zero, List.getElem?_cons_succ, decide_true, decide_false, if_true, if_false, Bool.true_eq_false, Bool.false_eq_true, Bool.not_true, Bool.not_false]
      rfl
    · simp only [h, obs, oms, bin_add, bin_sub, bin_lss, bin_leq, bin_gtr, bin_geq, bin_eql, bin_neq, bin_eqlB, bin_neqB, un_not, cond_B, gd_B, gd_undef, gdH_B, gdH_undef, pickA_B, extractA_tup, lenA_sl, lenA_row, fldA_fp, fldA_ptr, fldA_rptr, List.getElem?_cons_zero, List.getElem?_cons_succ, decide_true, decide_false, if_true, if_false, Bool.true_eq_false, Bool.false_eq_true, Bool.not_true, Bool.not_false]

theorem call121 {i : Nat} (hi : i ≤ l.length) (hl : l.length < 2 ^ 63) (n : Int) (lo : List Nat) (H : Heap) : callA cfg O 121 [L nl tg l, I i, I n] lo H = some (I (lv (lastI l i n)), H) := by
  refine callA_args (H' := []) (rs := [I _]) rfl rfl ?_ rfl
  rw [f121_eq]
  simp only [bin_sub, obs]
  rw [wrap_id (by omega)]
  exact loop121 n [] [] hl i hi

/-! ### What the lines put -/
def opv (o a b A : Int) : Int := if o = 0 then IntKind.i64.wrap (a + b) else if o = 1 then IntKind.i64.wrap (a - b) else if o = 2 then IntKind.i64.wrap (a * b) else A
def lk (vs : List Int) : Option Nat → Int
  | none => 0
  | some k => vs.getD k 0
def stepV (l : List Dl) (vs : List Int) (i : Nat) : Int := opv (l.getD i dd).2.1 (lk vs (lastI l i (l.getD i dd).2.2.1)) (lk vs (lastI l i (l.getD i dd).2.2.2)) (l.getD i dd).2.2.1
def vals (l : List Dl) : Nat → List Int
  | 0 => []
  | i + 1 => vals l i ++ [stepV l (vals l i) i]
theorem vals_len : ∀ i, (vals l i).length = i := by
  intro i
  induction i with
  | zero => rfl
  | succ i ih => simp [vals, ih]
theorem stepV_eq {vs : List Int} {i : Nat} (h : i < l.length) : stepV l vs i = opv l[i].2.1 (lk vs (lastI l i l[i].2.2.1)) (lk vs (lastI l i l[i].2.2.2)) l[i].2.2.1 := by
  have : l.getD i dd = l[i] := by simp [List.getD, h]
  unfold stepV
  rw [this]

/-- What the variables hold ahead of a line. -/
def mf (l : List Dl) (i : Nat) (n : Int) : Option AV := (lastI l i n).map fun k => I ((vals l i).getD k 0)
theorem mf_get (i : Nat) (n : Int) : (mf l i n).getD (I 0) = I (lk (vals l i) (lastI l i n)) := by
  unfold mf
  cases lastI l i n <;> rfl
theorem mf_succ (i : Nat) (n : Int) : mf l (i + 1) n = if n = toAt l i then some (I (stepV l (vals l i) i)) else mf l i n := by
  unfold mf
  rw [lastI]
  by_cases h : toAt l i = n
  · subst h
    rw [if_pos rfl, if_pos rfl]
    simp only [Option.map_some, vals]
    rw [List.getD_eq_getElem?_getD, List.getElem?_append_right (by rw [vals_len]; omega), vals_len]
    simp
  · rw [if_neg h, if_neg (fun e => h e.symm)]
    cases hk : lastI l i n with
    | none => rfl
    | some k =>
      have := lastI_lt i n k hk
      simp only [Option.map_some, vals]
      rw [List.getD_eq_getElem?_getD, List.getElem?_append_left (by rw [vals_len]; omega), ← List.getD_eq_getElem?_getD]

abbrev mI (kvs : List (Kv Int)) (c : Nat) : AObj := mapObj (fun n : Int => I n) kvs c

theorem ok_ints (lo : List Nat) (id : Nat) (a b : Int) : okLevels lo id [I a, I b] = true := okLevels_p lo id [Ia a, Ia b]

/-- One line is done. -/
theorem call119 {i : Nat} (hi : i < l.length) {id c : Nat} {kvs : List (Kv Int)} {H : Heap} (h : Cx H [(id, mI kvs c)] []) (hw : WfM kvs c) (hf : ∀ n, aget kvs n = mf l i n) (lo : List Nat) :
    ∃ H' kvs' c', callA cfg O 119 [.mp id, ag l[i]] lo H = some (.tup [], H') ∧ Cx H' [(id, mI kvs' c')] [] ∧ WfM kvs' c' ∧ ∀ n, aget kvs' n = mf l (i + 1) n := by
  have h1 := h.push [bx l[i]]
  have hb := new_at H (bx l[i])
  have hm : (H ++ [bx l[i]])[id]? = some (mI kvs c) := h1.at (by simp)
  have fin : ∀ v, v = stepV l (vals l i) i → ∃ H' kvs' c', L119_23 [.mp id, .ptr H.length 0, I v] lo (H ++ [bx l[i]]) = some ([], H') ∧ Cx H' [(id, mI kvs' c')] [] ∧ WfM kvs' c' ∧ ∀ n, aget kvs' n = mf l (i + 1) n := by
    intro v hv
    refine ⟨_, _, _, ?_, h1.setObj (by simp) rfl, hw.put l[i].1 (I v), fun n => ?_⟩
    · rw [L119_23_eq]
      simp only [fldA_ptr, ldB0 hb, obs]
      have e := map_put key_int hm hw l[i].1 (v := I v) (lo := lo) (ok_ints lo id _ _)
      simp only [e, oms, obs]
      rfl
    · rw [aget_put, hf, mf_succ, toAt_eq hi, hv]
  have key : ∃ H' kvs' c', O.ent 119 [.mp id, ag l[i]] lo H = some ([], H') ∧ Cx H' [(id, mI kvs' c')] [] ∧ WfM kvs' c' ∧ ∀ n, aget kvs' n = mf l (i + 1) n := by
    have e1 := map_look key_int (z := I 0) hm l[i].2.2.1
    have e2 := map_look key_int (z := I 0) hm l[i].2.2.2
    rw [hf, mf_get] at e1 e2
    have hs := stepV_eq (l := l) (vs := vals l i) hi
    unfold opv at hs
    rw [f119_eq]
    simp only [boxAg, fldA_ptr, ldB2 hb, ldB3 hb, ldB1 hb, e1, e2, bin_eql, obs, cond_B]
    by_cases g0 : l[i].2.1 = 0
    · rw [if_pos g0] at hs
      simp only [g0, obs, oms, bin_add, bin_sub, bin_lss, bin_leq, bin_gtr, bin_geq, bin_eql, bin_neq, bin_eqlB, bin_neqB, un_not, cond_B, gd_B, gd_undef, gdH_B, gdH_undef, pickA_B, extractA_tup, lenA_sl, lenA_row, fldA_fp, fldA_ptr, fldA_rptr, List.getElem?_cons_zero, List.getElem?_cons_succ, decide_true, decide_false, if_true, if_false, Bool.true_eq_false, Bool.false_eq_true, Bool.not_true, Bool.not_false]
      exact fin _ hs.symm
    · rw [if_neg g0] at hs
      by_cases g1 : l[i].2.1 = 1
      · rw [if_pos g1] at hs
        have z : ¬ ((1 : Int) = 0) := by omega
        simp only [g1, z, obs, oms, bin_add, bin_sub, bin_lss, bin_leq, bin_gtr, bin_geq, bin_eql, bin_neq, bin_eqlB, bin_neqB, un_not, cond_B, gd_B, gd_undef, gdH_B, gdH_undef, pickA_B, extractA_tup, lenA_sl, lenA_row, fldA_fp, fldA_ptr, fldA_rptr, List.getElem?_cons_zero, List.getElem?_cons_succ, decide_true, decide_false, if_true, if_false, Bool.true_eq_false, Bool.false_eq_true, Bool.not_true, Bool.not_false]
        exact fin _ hs.symm
      · rw [if_neg g1] at hs
        by_cases g2 : l[i].2.1 = 2
        · rw [if_pos g2] at hs
          have z : ¬ ((2 : Int) = 0) := by omega
          have z1 : ¬ ((2 : Int) = 1) := by omega
          simp only [g2, z, z1, bin_mul, obs, oms, bin_add, bin_sub, bin_lss, bin_leq, bin_gtr, bin_geq, bin_eql, bin_neq, bin_eqlB, bin_neqB, un_not, cond_B, gd_B, gd_undef, gdH_B, gdH_undef, pickA_B, extractA_tup, lenA_sl, lenA_row, fldA_fp, fldA_ptr, fldA_rptr, List.getElem?_cons_zero, List.getElem?_cons_succ, decide_true, decide_false, if_true, if_false, Bool.true_eq_false, Bool.false_eq_true, Bool.not_true, Bool.not_false]
          exact fin _ hs.symm
        · rw [if_neg g2] at hs
          simp only [g0, g1, g2, ldB2 hb, obs, oms, bin_add, bin_sub, bin_lss, bin_leq, bin_gtr, bin_geq, bin_eql, bin_neq, bin_eqlB, bin_neqB, un_not, cond_B, gd_B, gd_undef, gdH_B, gdH_undef, pickA_B, extractA_tup, lenA_sl, lenA_row, fldA_fp, fldA_ptr, fldA_rptr, List.getElem?_cons_zero, List.getElem?_cons_succ, decide_true, decide_false, if_true, if_false, Bool.true_eq_false, Bool.false_eq_true, Bool.not_true, Bool.not_false]
          exact fin _ hs.symm
  obtain ⟨H', kvs', c', e, k⟩ := key
  exact ⟨H', kvs', c', callA_keep (rs := []) rfl e, k⟩

theorem loop52 {a : Nat} (ha : a < l.length) (hl : l.length ≤ 200) {t2 : Bool} {id : Nat} (lo : List Nat) : ∀ (c i : Nat) (H : Heap) (kvs : List (Kv Int)) (cl : Nat), a + 1 - i = c → i ≤ a + 1 → Cx H [(id, mI kvs cl)] [] → WfM kvs cl → (∀ n, aget kvs n = mf l i n) →
    ∃ H', L52_14 [L nl tg l, I a, .mp id, L nl t2 (l.take (a + 1)), I (a + 1 : Nat), I i] lo H = some ([I ((vals l (a + 1)).getD a 0), I 0], H') := by
  intro c
  have hlen : (l.take (a + 1)).length = a + 1 := by simp; omega
  induction c with
  | zero =>
    intro i H kvs cl hc hi h hw hf
    have : i = a + 1 := by omega
    subst this
    refine ⟨H, ?_⟩
    have hm : H[id]? = some (mI kvs cl) := h.at (by simp)
    have e1 := map_look key_int (z := I 0) hm l[a].1
    have e2 : lastI l (a + 1) l[a].1 = some a := by rw [lastI, toAt_eq ha, if_pos rfl]
    rw [hf, mf_get, e2] at e1
    rw [L52_14_eq]
    simp only [bin_lss, Int.lt_irrefl, idxD ha, fldA_fp, f0 ha, e1, obs, oms, bin_add, bin_sub, bin_lss, bin_leq, bin_gtr, bin_geq, bin_eql, bin_neq, bin_eqlB, bin_neqB, un_not, cond_B, gd_B, gd_undef, gdH_B, gdH_undef, pickA_B, extractA_tup, lenA_sl, lenA_row, fldA_fp, fldA_ptr, fldA_rptr, List.getElem?_cons_zero, List.getElem?_cons_succ, decide_true, decide_false, if_true, if_false, Bool.true_eq_false, Bool.false_eq_true, Bool.not_true, Bool.not_false]
    rfl
  | succ c ih =>
    intro i H kvs cl hc hi h hw hf
    have hi' : i < (l.take (a + 1)).length := by omega
    have hi2 : i < l.length := by omega
    have he : (l.take (a + 1))[i] = l[i] := by simp
    have hlt : (i : Int) < (a + 1 : Nat) := by omega
    have hb := new_at H (bx l[i])
    obtain ⟨H', kvs', c', e, h', hw', hf'⟩ := call119 hi2 (h.push [bx l[i]]) hw hf lo
    obtain ⟨H2, e2⟩ := ih (i + 1) H' kvs' c' (by omega) (by omega) h' hw' hf'
    refine ⟨H2, ?_⟩
    rw [L52_14_eq]
    simp only [bin_lss, hlt, idxD hi', ldE hi', he, boxE, stE, ldBE hb, e, bin_add, obs, oms, bin_add, bin_sub, bin_lss, bin_leq, bin_gtr, bin_geq, bin_eql, bin_neq, bin_eqlB, bin_neqB, un_not, cond_B, gd_B, gd_undef, gdH_B, gdH_undef, pickA_B, extractA_tup, lenA_sl, lenA_row, fldA_fp, fldA_ptr, fldA_rptr, List.getElem?_cons_zero, List.getElem?_cons_succ, decide_true, decide_false, if_true, if_false, Bool.true_eq_false, Bool.false_eq_true, Bool.not_true, Bool.not_false]
    rw [wrap_id (by omega), nxt]
    exact e2

def runV (l : List Dl) (a : Int) : Int := if errD l a = 0 then (vals l (a.toNat + 1)).getD a.toNat 0 else 0
theorem call52 (a : Int) (hl : l.length < 2 ^ 63) (lo : List Nat) (H : Heap) : callA cfg O 52 [L nl tg l, I a] lo H = some (.tup [I (runV l a), I (errD l a)], H) := by
  unfold runV
  by_cases he : errD l a = 0
  · obtain ⟨h1, h2, n, rfl, hn⟩ := errD_zero he
    rw [if_pos he]
    have hC : Cx ([] ++ [mI [] 0]) [(0, mI [] 0)] [] := (Cx.nil []).newObj (mI [] 0) rfl
    obtain ⟨H', e⟩ := loop52 (nl := nl) (tg := tg) hn h1 (t2 := tg && decide (((n + 1 : Nat) : Int) = l.length)) [] _ 0 _ [] 0 rfl (by omega) hC WfM.nil (fun n => by simp [mf, lastI, aget_nil])
    refine callA_args (H' := H') (rs := [_, _]) rfl rfl ?_ rfl
    rw [f52_eq]
    have hlen : (l.take (n + 1)).length = n + 1 := by simp; omega
    simp only [call118 (nl := nl) (tg := tg) (l := l) n hl, he, bin_neq, bin_add, obs, oms, bin_add, bin_sub, bin_lss, bin_leq, bin_gtr, bin_geq, bin_eql, bin_neq, bin_eqlB, bin_neqB, un_not, cond_B, gd_B, gd_undef, gdH_B, gdH_undef, pickA_B, extractA_tup, lenA_sl, lenA_row, fldA_fp, fldA_ptr, fldA_rptr, List.getElem?_cons_zero, List.getElem?_cons_succ, decide_true, decide_false, if_true, if_false, Bool.true_eq_false, Bool.false_eq_true, Bool.not_true, Bool.not_false]
    rw [wrap_id (by omega), nxt]
    have hm : mkMap [] = (.mp 0, [] ++ [mI [] 0]) := rfl
    simp only [hm, cutR_hi len_DLet (show n + 1 ≤ l.length by omega), obs, lenA_sl, hlen, Int.toNat_natCast]
    exact e
  · rw [if_neg he]
    refine callA_args (H' := []) (rs := [_, _]) rfl rfl ?_ rfl
    rw [f52_eq]
    simp only [call118 (nl := nl) (tg := tg) (l := l) a hl, he, bin_neq, obs, oms, bin_add, bin_sub, bin_lss, bin_leq, bin_gtr, bin_geq, bin_eql, bin_neq, bin_eqlB, bin_neqB, un_not, cond_B, gd_B, gd_undef, gdH_B, gdH_undef, pickA_B, extractA_tup, lenA_sl, lenA_row, fldA_fp, fldA_ptr, fldA_rptr, List.getElem?_cons_zero, List.getElem?_cons_succ, decide_true, decide_false, if_true, if_false, Bool.true_eq_false, Bool.false_eq_true, Bool.not_true, Bool.not_false]
    rfl

/-! ### The same by a list -/
def row55 (l : List Dl) (n i : Nat) : List Int := vals l i ++ List.replicate (n - i) 0
theorem row55_len {n i : Nat} (h : i ≤ n) : (row55 l n i).length = n := by simp [row55, vals_len]; omega
theorem row55_get {n i k : Nat} (h : k < i) (hi : i ≤ n) : ((row55 l n i).map Ia)[k]? = some (Ia ((vals l i).getD k 0)) := by
  rw [List.getElem?_map, row55, List.getElem?_append_left (by rw [vals_len]; omega), List.getElem?_eq_getElem (by rw [vals_len]; omega), Option.map_some, List.getD_eq_getElem?_getD, List.getElem?_eq_getElem (by rw [vals_len]; omega)]
  rfl
theorem row55_set {n i : Nat} (h : i < n) : ((row55 l n i).map Ia).set i (Ia (stepV l (vals l i) i)) = (row55 l n (i + 1)).map Ia := by
  rw [← List.map_set]
  congr 1
  unfold row55
  rw [List.set_append_right _ _ (by rw [vals_len]; omega), vals_len, Nat.sub_self, show n - i = (n - (i + 1)) + 1 by omega, List.replicate_succ, List.set_cons_zero, vals]
  simp

theorem loop55 {a : Nat} (ha : a < l.length) (hl : l.length ≤ 200) {id g : Nat} (lo : List Nat) : ∀ (c i : Nat) (H : Heap), a + 1 - i = c → i ≤ a + 1 → Cx H [] [(.row id g 0 (a + 1), 1, a + 1, (row55 l (a + 1) i).map Ia)] →
    ∃ H', L55_8 [L nl tg l, I a, .row id g 0 (a + 1), I i] lo H = some ([I ((vals l (a + 1)).getD a 0)], H') := by
  intro c
  induction c with
  | zero =>
    intro i H hc hi h
    have : i = a + 1 := by omega
    subst this
    obtain ⟨e1, e2, _, _⟩ := Cx.cell [] h (j := a) (by omega)
    refine ⟨H, ?_⟩
    rw [row55_get (by omega) (by omega)] at e2
    have g1 : ¬ ((a + 1 : Nat) : Int) ≤ a := by omega
    rw [L55_8_eq]
    simp only [bin_leq, g1, e1, e2, obs, oms, bin_add, bin_sub, bin_lss, bin_leq, bin_gtr, bin_geq, bin_eql, bin_neq, bin_eqlB, bin_neqB, un_not, cond_B, gd_B, gd_undef, gdH_B, gdH_undef, pickA_B, extractA_tup, lenA_sl, lenA_row, fldA_fp, fldA_ptr, fldA_rptr, List.getElem?_cons_zero, List.getElem?_cons_succ, decide_true, decide_false, if_true, if_false, Bool.true_eq_false, Bool.false_eq_true, Bool.not_true, Bool.not_false]
    rfl
  | succ c ih =>
    intro i H hc hi h
    have hi' : i < l.length := by omega
    have g1 : (i : Int) ≤ a := by omega
    obtain ⟨e1, e2, _, e4⟩ := Cx.cell [] h (j := i) (by omega)
    obtain ⟨s1, s2⟩ := e4 (Ia (stepV l (vals l i) i)) lo
    rw [row55_set (by omega)] at s1 s2
    obtain ⟨H', e⟩ := ih (i + 1) _ (by omega) (by omega) s2
    have look : ∀ n, (if 0 ≤ lv (lastI l i n) then ∃ k, lastI l i n = some k ∧ idxA 1 (.row id g 0 (a + 1)) (I (lv (lastI l i n))) = some (.rptr id g k) ∧ ld false 1 (.rptr id g k) H = some (I (lk (vals l i) (lastI l i n))) else lk (vals l i) (lastI l i n) = 0) := by
      intro n
      cases hk : lastI l i n with
      | none => rfl
      | some k =>
        have hlt := lastI_lt i n k hk
        obtain ⟨q1, q2, _, _⟩ := Cx.cell [] h (j := k) (by omega)
        rw [row55_get hlt (by omega)] at q2
        have : (0 : Int) ≤ lv (some k) := by simp [lv]
        rw [if_pos this]
        exact ⟨k, rfl, q1, q2⟩
    have st : ∀ v, v = stepV l (vals l i) i → (((idxA 1 (.row id g 0 (a + 1)) (I i)).bind fun x6 => ((stA 1 x6 (I v) lo H).map fun H' => (undefA, H')).bind fun r7 => L55_11 [L nl tg l, I a, .row id g 0 (a + 1), I i] lo r7.2) = some ([I ((vals l (a + 1)).getD a 0)], H')) := by
      intro v hv
      subst hv
      simp only [e1, obs, s1, oms]
      rw [L55_11_eq]
      simp only [bin_add, obs]
      rw [wrap_id (by omega), nxt]
      exact e
    refine ⟨H', ?_⟩
    have t27 : L55_27 [L nl tg l, I a, .row id g 0 (a + 1), I i, I (lk (vals l i) (lastI l i l[i].2.2.1)), I (lk (vals l i) (lastI l i l[i].2.2.2))] lo H = some ([I ((vals l (a + 1)).getD a 0)], H') := by
      have hs := stepV_eq (l := l) (vs := vals l i) hi'
      unfold opv at hs
      rw [L55_27_eq]
      simp only [idxD hi', fldA_fp, f1 hi', f2 hi', bin_eql, obs, cond_B]
      by_cases g0 : l[i].2.1 = 0
      · rw [if_pos g0] at hs
        simp only [g0, bin_add, decide_true, if_true, obs]
        exact st _ hs.symm
      · rw [if_neg g0] at hs
        by_cases g1 : l[i].2.1 = 1
        · rw [if_pos g1] at hs
          have z : ¬ ((1 : Int) = 0) := by omega
          simp only [g1, z, bin_sub, decide_true, decide_false, Bool.false_eq_true, if_false, if_true, obs]
          exact st _ hs.symm
        · rw [if_neg g1] at hs
          by_cases g2 : l[i].2.1 = 2
          · rw [if_pos g2] at hs
            have z : ¬ ((2 : Int) = 0) := by omega
            have z1 : ¬ ((2 : Int) = 1) := by omega
            simp only [g2, z, z1, bin_mul, decide_true, decide_false, Bool.false_eq_true, if_false, if_true, obs]
            exact st _ hs.symm
          · rw [if_neg g2] at hs
            simp only [g0, g1, g2, decide_false, Bool.false_eq_true, if_false]
            exact st _ hs.symm
    have t21 : L55_21 [L nl tg l, I a, .row id g 0 (a + 1), I i, I (lk (vals l i) (lastI l i l[i].2.2.1)), I 0] lo H = some ([I ((vals l (a + 1)).getD a 0)], H') := by
      have hk := look l[i].2.2.2
      rw [L55_21_eq]
      simp only [idxD hi', fldA_fp, f3 hi', call121 (nl := nl) (tg := tg) (l := l) (i := i) (by omega) (by omega), bin_geq, obs, cond_B]
      by_cases g : 0 ≤ lv (lastI l i l[i].2.2.2)
      · rw [if_pos g] at hk
        obtain ⟨k, _, q1, q2⟩ := hk
        simp only [g, decide_true, if_true, q1, q2, obs]
        exact t27
      · rw [if_neg g] at hk
        rw [hk] at t27
        simp only [g, decide_false, Bool.false_eq_true, if_false]
        exact t27
    have hk := look l[i].2.2.1
    rw [L55_8_eq]
    simp only [bin_leq, g1, idxD hi', fldA_fp, f2 hi', call121 (nl := nl) (tg := tg) (l := l) (i := i) (by omega) (by omega), bin_geq, decide_true, if_true, obs, cond_B]
    by_cases g : 0 ≤ lv (lastI l i l[i].2.2.1)
    · rw [if_pos g] at hk
      obtain ⟨k, _, q1, q2⟩ := hk
      simp only [g, decide_true, if_true, q1, q2, obs]
      exact t21
    · rw [if_neg g] at hk
      rw [hk] at t21
      simp only [g, decide_false, Bool.false_eq_true, if_false]
      exact t21

theorem call55 {a : Nat} (ha : a < l.length) (hl : l.length ≤ 200) (lo : List Nat) (H : Heap) : callA cfg O 55 [L nl tg l, I a] lo H = some (I ((vals l (a + 1)).getD a 0), H) := by
  have hC : Cx ([] ++ [.row 0 1 ((row55 l (a + 1) 0).map Ia)]) [] [(.row 0 0 0 (a + 1), 1, a + 1, (row55 l (a + 1) 0).map Ia)] := (Cx.nil []).newRow (sz := 1) (m := a + 1) (by simp [row55, vals])
  obtain ⟨H', e⟩ := loop55 (nl := nl) (tg := tg) ha hl [] _ 0 _ rfl (by omega) hC
  refine callA_args (H' := H') (rs := [_]) rfl rfl ?_ rfl
  rw [f55_eq]
  simp only [bin_add, obs]
  rw [wrap_id (by omega), nxt]
  have hm : mkRow 1 8 [(.v (.int .i64 0))] (I (a + 1 : Nat)) (I (a + 1 : Nat)) [] = some (.row 0 0 0 (a + 1), [] ++ [.row 0 1 ((row55 l (a + 1) 0).map Ia)]) := by
    simp only [mkRow, asI, obs]
    rw [if_pos ⟨by omega, by omega, by simp only [room]; omega⟩]
    simp [zeros_one, row55, vals]
  simp only [hm, obs]
  exact e

end
end Lin
end Go.Proofs.Ytangmjeafnkfaaa
