import Derived.Test.YtcgahlekjfemfaaERowsMerges
import Derived.Test.YtcgahlekjfemfaaTy
import Derived.Test.YtcgahlekjfemfaaAm27
set_option linter.unusedVariables false
set_option linter.unusedSimpArgs false
namespace Go.Proofs.Ytcgahlekjfemfaa
open Go Go.AM
namespace Rm
abbrev E := A_Event
abbrev enc := enc_Event
theorem hE (p : E) : (enc p).length = 12 := rfl
def key (p : E) : Int := p.2.1
theorem enc1 (p : E) : (enc p)[1]? = some (Ia (key p)) := rfl
abbrev av (p : E) : AV := .agg ((enc p).map .p)

/-! ### byStep -/
theorem cmp_ent (a b : Int) : O.ent 71 [I a, I b] [] [] = some ([I (if a < b then -1 else if b < a then 1 else 0)], []) := by
  have n1 : ∀ c : Int, callA cfg O 92 [I c] [] [] = some (B false, []) := fun c => by
    refine callA_pure (xs := [Ia c]) (H' := []) (rs := [B false]) rfl ?_ rfl
    show O.ent 92 [I c] [] [] = _
    rw [f92_eq]
    simp only [obs, oms, bin_add, bin_sub, bin_lss, bin_leq, bin_gtr, bin_geq, bin_eql, bin_neq, bin_eqlB, bin_neqB, un_not, cond_B, gd_B, gd_undef, gdH_B, gdH_undef, pickA_B, extractA_tup, lenA_sl, lenA_row, fldA_fp, fldA_ptr, fldA_rptr, List.getElem?_cons_zero, List.getElem?_cons_succ, decide_true, decide_false, if_true, if_false, Bool.true_eq_false, Bool.false_eq_true, Bool.not_true, Bool.not_false, leave0_B]
  rw [f71_eq]
  simp only [n1, obs, oms, bin_add, bin_sub, bin_lss, bin_leq, bin_gtr, bin_geq, bin_eql, bin_neq, bin_eqlB, bin_neqB, un_not, cond_B, gd_B, gd_undef, gdH_B, gdH_undef, pickA_B, extractA_tup, lenA_sl, lenA_row, fldA_fp, fldA_ptr, fldA_rptr, List.getElem?_cons_zero, List.getElem?_cons_succ, decide_true, decide_false, if_true, if_false, Bool.true_eq_false, Bool.false_eq_true, Bool.not_true, Bool.not_false]
  by_cases h1 : a < b
  · simp only [h1, obs, oms, bin_add, bin_sub, bin_lss, bin_leq, bin_gtr, bin_geq, bin_eql, bin_neq, bin_eqlB, bin_neqB, un_not, cond_B, gd_B, gd_undef, gdH_B, gdH_undef, pickA_B, extractA_tup, lenA_sl, lenA_row, fldA_fp, fldA_ptr, fldA_rptr, List.getElem?_cons_zero, List.getElem?_cons_succ, decide_true, decide_false, if_true, if_false, Bool.true_eq_false, Bool.false_eq_true, Bool.not_true, Bool.not_false, leave0_I]
  · by_cases h2 : b < a
    · simp only [h1, h2, obs, oms, bin_add, bin_sub, bin_lss, bin_leq, bin_gtr, bin_geq, bin_eql, bin_neq, bin_eqlB, bin_neqB, un_not, cond_B, gd_B, gd_undef, gdH_B, gdH_undef, pickA_B, extractA_tup, lenA_sl, lenA_row, fldA_fp, fldA_ptr, fldA_rptr, List.getElem?_cons_zero, List.getElem?_cons_succ, decide_true, decide_false, if_true, if_false, Bool.true_eq_false, Bool.false_eq_true, Bool.not_true, Bool.not_false, leave0_I]
    · simp only [h1, h2, obs, oms, bin_add, bin_sub, bin_lss, bin_leq, bin_gtr, bin_geq, bin_eql, bin_neq, bin_eqlB, bin_neqB, un_not, cond_B, gd_B, gd_undef, gdH_B, gdH_undef, pickA_B, extractA_tup, lenA_sl, lenA_row, fldA_fp, fldA_ptr, fldA_rptr, List.getElem?_cons_zero, List.getElem?_cons_succ, decide_true, decide_false, if_true, if_false, Bool.true_eq_false, Bool.false_eq_true, Bool.not_true, Bool.not_false, leave0_I]

def cmpK (x y : E) : Int := if key x < key y then -1 else if key y < key x then 1 else 0
theorem cmpK_neg (x y : E) : decide (cmpK x y < 0) = decide (key x < key y) := by
  unfold cmpK
  by_cases h1 : key x < key y
  · simp [h1]
  · by_cases h2 : key y < key x <;> simp [h1, h2]

abbrev cl : AV := .fn 64 [] []
theorem pureLs (H : Heap) : ∀ xs : List PV, pureLeaves H (xs.map .p) = some (xs.map .p, false) := by
  intro xs
  induction xs with
  | nil => rfl
  | cons x xs ih => simp [pureLeaves, pureLeaf, ih]
theorem callCmp (x y : E) (lo : List Nat) (H : Heap) : callV cfg O cl [av x, av y] lo H = some (I (cmpK x y), H) := by
  show callA cfg O 64 [av x, av y] lo H = _
  refine callA_args (H' := []) (rs := [I (cmpK x y)]) rfl ?_ ?_ rfl
  · simp only [pureArgs, pureArg, pureLs, oms, obs, Bool.or_false]
  · rw [f64_eq]
    have b1 : boxO [] (AV.cells (av x)) [] = some (.ptr 0 0, [.box ((enc x).map .p)]) := boxO_p _ []
    have b2 : boxO [] (AV.cells (av y)) [.box ((enc x).map .p)] = some (.ptr 1 0, [.box ((enc x).map .p), .box ((enc y).map .p)]) := boxO_p _ _
    have l1 : ld false 1 (.ptr 0 (0 + 1)) [.box ((enc x).map .p), .box ((enc y).map .p)] = some (I (key x)) := by rw [ld_box (xs := (enc x).map .p) rfl]; rfl
    have l2 : ld false 1 (.ptr 1 (0 + 1)) [.box ((enc x).map .p), .box ((enc y).map .p)] = some (I (key y)) := by rw [ld_box (xs := (enc y).map .p) rfl]; rfl
    have c71 : callA cfg O 71 [I (key x), I (key y)] [] [.box ((enc x).map .p), .box ((enc y).map .p)] = some (I (cmpK x y), [.box ((enc x).map .p), .box ((enc y).map .p)]) := callA_pure (xs := [Ia (key x), Ia (key y)]) rfl (cmp_ent _ _) rfl
    simp only [b1, b2, obs, oms, bin_add, bin_sub, bin_lss, bin_leq, bin_gtr, bin_geq, bin_eql, bin_neq, bin_eqlB, bin_neqB, un_not, cond_B, gd_B, gd_undef, gdH_B, gdH_undef, pickA_B, extractA_tup, lenA_sl, lenA_row, fldA_fp, fldA_ptr, fldA_rptr, List.getElem?_cons_zero, List.getElem?_cons_succ, decide_true, decide_false, if_true, if_false, Bool.true_eq_false, Bool.false_eq_true, Bool.not_true, Bool.not_false, l1, l2, c71, leave0_I]

/-! ### A row of events -/
section
variable {G : Heap} {id g : Nat} {lo : List Nat}
def Hp (G : Heap) (id g : Nat) (es : List E) : Heap := G.set id (.row g 12 (es.flatMap enc))
theorem hp_at (hG : id < G.length) (es : List E) : (Hp G id g es)[id]? = some (.row g 12 (es.flatMap enc)) := by unfold Hp; rw [List.getElem?_set_self hG]
theorem hp_set (es es' : List E) : (Hp G id g es).set id (.row g 12 (es'.flatMap enc)) = Hp G id g es' := by unfold Hp; rw [List.set_set]

abbrev R (id g n : Nat) : AV := .row id g 0 n
theorem rix {n : Nat} {k : Nat} (h : k < n) : idxA 12 (R id g n) (I k) = some (.rptr id g (k * 12)) := by
  have := idxA_row (sz := 12) (id := id) (g := g) (off := 0) (n := n) (j := (k : Int)) (by omega)
  simpa using this
theorem rld (hG : id < G.length) {es : List E} {k : Nat} (h : k < es.length) : ld true 12 (.rptr id g (k * 12)) (Hp G id g es) = some (av es[k]) := by
  have hl : (es.flatMap enc).length = es.length * 12 := rows_length hE es
  simp only [ld, hp_at hG es, partP, if_true]
  rw [if_pos (by omega), rows_part hE (List.getElem?_eq_getElem h)]
theorem toPVs_p (H : Heap) : ∀ xs : List PV, toPVs H (xs.map .p) = some (xs, H) := by
  intro xs
  induction xs with
  | nil => rfl
  | cons x xs ih => simp only [List.map_cons, toPVs, toPV, obs, ih, oms]
theorem flat_set (es : List E) (k : Nat) (x : E) (h : k < es.length) : splice (es.flatMap enc) (k * 12) (enc x) = (es.set k x).flatMap enc := by
  have hl : (es.flatMap enc).length = es.length * 12 := rows_length hE es
  rw [splice_take _ _ _ (by rw [hl, hE]; omega), hE]
  have e1 : (es.flatMap enc).take (k * 12) = (es.take k).flatMap enc := by
    have := List.take_append_drop k es
    conv => lhs; rw [← this, List.flatMap_append]
    rw [List.take_append_of_le_length (by rw [rows_length hE, List.length_take]; omega), List.take_of_length_le (by rw [rows_length hE, List.length_take]; omega)]
  have e2 : (es.flatMap enc).drop (k * 12 + 12) = (es.drop (k + 1)).flatMap enc := by rw [show k * 12 + 12 = (k + 1) * 12 by omega, rows_drop hE]
  rw [e1, e2, List.set_eq_take_append_cons_drop, if_pos h, List.flatMap_append, List.flatMap_cons]
  simp
theorem rst (hG : id < G.length) {es : List E} {k : Nat} (x : E) (h : k < es.length) : stA 12 (.rptr id g (k * 12)) (av x) lo (Hp G id g es) = some (Hp G id g (es.set k x)) := by
  have hl : (es.flatMap enc).length = es.length * 12 := rows_length hE es
  simp only [stA, hp_at hG es]
  have hc : (av x).cells.length = 12 := rfl
  rw [if_pos (by simp only [true_and, hc]; omega)]
  simp only [AV.cells, toPVs_p, obs, hp_at hG es]
  simp only [and_self, if_true, flat_set es k x h, hp_set]

/-- Two elements change places. -/
def swp (es : List E) (i j : Nat) : List E := match es[i]?, es[j]? with | some x, some y => (es.set i y).set j x | _, _ => es
theorem swp_eq {es : List E} {i j : Nat} (hi : i < es.length) (hj : j < es.length) : swp es i j = (es.set i es[j]).set j es[i] := by
  unfold swp
  rw [List.getElem?_eq_getElem hi, List.getElem?_eq_getElem hj]
theorem swp_at (P : List E) (x y : E) (Q S : List E) : swp (P ++ x :: (Q ++ y :: S)) P.length (P.length + 1 + Q.length) = P ++ y :: (Q ++ x :: S) := by
  rw [swp_eq (by simp) (by simp; omega)]
  have e1 : (P ++ x :: (Q ++ y :: S))[P.length]'(by simp) = x := by simp
  have e2 : (P ++ x :: (Q ++ y :: S))[P.length + 1 + Q.length]'(by simp; omega) = y := by
    rw [List.getElem_append_right (by omega)]
    simp [show P.length + 1 + Q.length - P.length = Q.length + 1 by omega]
  rw [e1, e2, List.set_append_right _ _ (Nat.le_refl _), Nat.sub_self, List.set_cons_zero, List.set_append_right _ _ (by omega), show P.length + 1 + Q.length - P.length = Q.length + 1 by omega, List.set_cons_succ, List.set_append_right _ _ (Nat.le_refl _), Nat.sub_self, List.set_cons_zero]
theorem swp_len (es : List E) (i j : Nat) : (swp es i j).length = es.length := by
  unfold swp
  split <;> simp

/-! ### swapRange, rotate -/
theorem swapLoop (hG : id < G.length) {P M Q : List E} : ∀ (c : Nat) (X1 X2 Y1 Y2 : List E) (k n : Nat), X2.length = c → Y2.length = c → X1.length = Y1.length → k = X1.length → n = X1.length + c → (P ++ X1 ++ X2 ++ M ++ Y1 ++ Y2 ++ Q).length < 2 ^ 40 →
    L143_4 [R id g (P ++ X1 ++ X2 ++ M ++ Y1 ++ Y2 ++ Q).length, I P.length, I (P.length + n + M.length : Nat), I n, I k] lo (Hp G id g (P ++ Y1 ++ X2 ++ M ++ X1 ++ Y2 ++ Q)) = some ([], Hp G id g (P ++ (Y1 ++ Y2) ++ M ++ (X1 ++ X2) ++ Q)) := by
  intro c
  induction c with
  | zero =>
    intro X1 X2 Y1 Y2 k n h1 h2 h3 hk hn hl
    have : X2 = [] := List.length_eq_zero_iff.mp h1
    have : Y2 = [] := List.length_eq_zero_iff.mp h2
    subst_vars
    rw [L143_4_eq]
    simp only [obs, oms, bin_add, bin_sub, bin_lss, bin_leq, bin_gtr, bin_geq, bin_eql, bin_neq, bin_eqlB, bin_neqB, un_not, cond_B, gd_B, gd_undef, gdH_B, gdH_undef, pickA_B, extractA_tup, lenA_sl, lenA_row, fldA_fp, fldA_ptr, fldA_rptr, List.getElem?_cons_zero, List.getElem?_cons_succ, decide_true, decide_false, if_true, if_false, Bool.true_eq_false, Bool.false_eq_true, Bool.not_true, Bool.not_false]
    rw [if_neg (by simp)]
    simp [leave]
  | succ c ih =>
    intro X1 X2 Y1 Y2 k n h1 h2 h3 hk hn hl
    cases X2 with
    | nil => simp at h1
    | cons x X2 =>
      cases Y2 with
      | nil => simp at h2
      | cons y Y2 =>
        simp only [List.length_cons] at h1 h2
        subst hk hn
        have hes : (P ++ Y1 ++ (x :: X2) ++ M ++ X1 ++ (y :: Y2) ++ Q) = (P ++ Y1) ++ x :: ((X2 ++ M ++ X1) ++ y :: (Y2 ++ Q)) := by simp
        have hlen : (P ++ X1 ++ (x :: X2) ++ M ++ Y1 ++ (y :: Y2) ++ Q).length = ((P ++ Y1) ++ x :: ((X2 ++ M ++ X1) ++ y :: (Y2 ++ Q))).length := by simp; omega
        have hl2 : (P ++ X1 ++ (x :: X2) ++ M ++ Y1 ++ (y :: Y2) ++ Q).length = P.length + X1.length + X2.length + 1 + M.length + Y1.length + Y2.length + 1 + Q.length := by simp; omega
        have hnext := ih (X1 ++ [x]) X2 (Y1 ++ [y]) Y2 (X1.length + 1) (X1.length + (c + 1)) (by omega) (by omega) (by simp [h3]) (by simp) (by simp; omega) (by simp at hl ⊢; omega)
        rw [hes]
        generalize hw : (P ++ Y1) ++ x :: ((X2 ++ M ++ X1) ++ y :: (Y2 ++ Q)) = es at *
        have hlE : es.length = P.length + X1.length + X2.length + 1 + M.length + Y1.length + Y2.length + 1 + Q.length := by omega
        have hi : P.length + X1.length < es.length := by omega
        have hj : P.length + (X1.length + (c + 1)) + M.length + X1.length < es.length := by omega
        have hsw : swp es (P.length + X1.length) (P.length + (X1.length + (c + 1)) + M.length + X1.length) = P ++ (Y1 ++ [y]) ++ X2 ++ M ++ (X1 ++ [x]) ++ Y2 ++ Q := by
          have := swp_at (P ++ Y1) x y (X2 ++ M ++ X1) (Y2 ++ Q)
          rw [hw] at this
          rw [show P.length + X1.length = (P ++ Y1).length by simp [h3], show P.length + (X1.length + (c + 1)) + M.length + X1.length = (P ++ Y1).length + 1 + (X2 ++ M ++ X1).length by simp; omega, this]
          simp
        rw [swp_eq hi hj] at hsw
        rw [L143_4_eq]
        simp only [obs, oms, bin_add, bin_sub, bin_lss, bin_leq, bin_gtr, bin_geq, bin_eql, bin_neq, bin_eqlB, bin_neqB, un_not, cond_B, gd_B, gd_undef, gdH_B, gdH_undef, pickA_B, extractA_tup, lenA_sl, lenA_row, fldA_fp, fldA_ptr, fldA_rptr, List.getElem?_cons_zero, List.getElem?_cons_succ, decide_true, decide_false, if_true, if_false, Bool.true_eq_false, Bool.false_eq_true, Bool.not_true, Bool.not_false]
        rw [if_pos (by simp; omega), wrap_id (by omega), wrap_id (by omega), wrap_id (by omega)]
        rw [show ((P.length : Int) + (X1.length : Int)) = ((P.length + X1.length : Nat) : Int) by omega, show (((P.length + (X1.length + (c + 1)) + M.length : Nat) : Int) + (X1.length : Int)) = ((P.length + (X1.length + (c + 1)) + M.length + X1.length : Nat) : Int) by omega]
        rw [hlen]
        simp only [rix hi, rix hj, obs, rld hG hi, rld hG hj, rst hG _ hi, oms]
        rw [rst hG (es := es.set (P.length + X1.length) es[P.length + (X1.length + (c + 1)) + M.length + X1.length]) _ (by simpa using hj)]
        simp only [obs, oms]
        rw [hsw, nxt]
        have e3 : (P ++ (X1 ++ [x]) ++ X2 ++ M ++ (Y1 ++ [y]) ++ Y2 ++ Q).length = es.length := by simp; omega
        rw [e3] at hnext
        rw [hnext]
        simp
end
end Rm
end Go.Proofs.Ytcgahlekjfemfaa
