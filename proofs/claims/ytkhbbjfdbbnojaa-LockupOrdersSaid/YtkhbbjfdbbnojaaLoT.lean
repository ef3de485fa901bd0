import Derived.Test.YtkhbbjfdbbnojaaLoS
set_option linter.unusedVariables false
set_option linter.unusedSimpArgs false
namespace Go.Proofs.Ytkhbbjfdbbnojaa
open Go Go.AM
namespace Lo

/-! ### Two pairs compared -/
def cmp1 (a b : Int) : Int := if a < b then -1 else if b < a then 1 else 0
def cmpP (x y : P2) : Int := if cmp1 x.1 y.1 = 0 then cmp1 x.2 y.2 else cmp1 x.1 y.1

theorem call119 (a b : Int) (lo : List Nat) (H : Heap) : callA cfg O 119 [I a, I b] lo H = some (I (cmp1 a b), H) := by
  have n1 : ∀ c : Int, callA cfg O 150 [I c] [] [] = some (B false, []) := fun c => by
    refine callA_pure (xs := [Ia c]) (H' := []) (rs := [B false]) rfl ?_ rfl
    show O.ent 150 [I c] [] [] = _
    rw [f150_eq]
    simp only [obs, oms, bin_add, bin_sub, bin_lss, bin_leq, bin_gtr, bin_geq, bin_eql, bin_neq, bin_eqlB, bin_neqB, un_not, cond_B, gd_B, gd_undef, gdH_B, gdH_undef, pickA_B, extractA_tup, lenA_sl, lenA_row, fldA_fp, fldA_ptr, fldA_rptr, List.getElem?_cons_zero, List.getElem?_cons_succ, decide_true, decide_false, if_true, if_false, Bool.true_eq_false, Bool.false_eq_true, Bool.not_true, Bool.not_false]
    rfl
  refine callA_pure (xs := [Ia a, Ia b]) (H' := []) (rs := [I (cmp1 a b)]) rfl ?_ rfl
  show O.ent 119 [I a, I b] [] [] = _
  rw [f119_eq]
  unfold cmp1
  simp only [n1, obs, oms, bin_add, bin_sub, bin_lss, bin_leq, bin_gtr, bin_geq, bin_eql, bin_neq, bin_eqlB, bin_neqB, un_not, cond_B, gd_B, gd_undef, gdH_B, gdH_undef, pickA_B, extractA_tup, lenA_sl, lenA_row, fldA_fp, fldA_ptr, fldA_rptr, List.getElem?_cons_zero, List.getElem?_cons_succ, decide_true, decide_false, if_true, if_false, Bool.true_eq_false, Bool.false_eq_true, Bool.not_true, Bool.not_false]
  by_cases h1 : a < b
  · simp only [h1, obs, oms, bin_add, bin_sub, bin_lss, bin_leq, bin_gtr, bin_geq, bin_eql, bin_neq, bin_eqlB, bin_neqB, un_not, cond_B, gd_B, gd_undef, gdH_B, gdH_undef, pickA_B, extractA_tup, lenA_sl, lenA_row, fldA_fp, fldA_ptr, fldA_rptr, List.getElem?_cons_zero, List.getElem?_cons_succ, decide_true, decide_false, if_true, if_false, Bool.true_eq_false, Bool.false_eq_true, Bool.not_true, Bool.not_false]; rfl
  · by_cases h2 : b < a
    · simp only [h1, h2, obs, oms, bin_add, bin_sub, bin_lss, bin_leq, bin_gtr, bin_geq, bin_eql, bin_neq, bin_eqlB, bin_neqB, un_not, cond_B, gd_B, gd_undef, gdH_B, gdH_undef, pickA_B, extractA_tup, lenA_sl, lenA_row, fldA_fp, fldA_ptr, fldA_rptr, List.getElem?_cons_zero, List.getElem?_cons_succ, decide_true, decide_false, if_true, if_false, Bool.true_eq_false, Bool.false_eq_true, Bool.not_true, Bool.not_false]; rfl
    · simp only [h1, h2, obs, oms, bin_add, bin_sub, bin_lss, bin_leq, bin_gtr, bin_geq, bin_eql, bin_neq, bin_eqlB, bin_neqB, un_not, cond_B, gd_B, gd_undef, gdH_B, gdH_undef, pickA_B, extractA_tup, lenA_sl, lenA_row, fldA_fp, fldA_ptr, fldA_rptr, List.getElem?_cons_zero, List.getElem?_cons_succ, decide_true, decide_false, if_true, if_false, Bool.true_eq_false, Bool.false_eq_true, Bool.not_true, Bool.not_false]; rfl

theorem call118 (a b : Int) (nl : Option Bool) (tg : Bool) (lo : List Nat) (H : Heap) : callA cfg O 118 [.p (.sl nl tg 2 [Ia a, Ia b])] lo H = some (I (if a = 0 then b else a), H) := by
  refine callA_pure (xs := [.sl nl tg 2 [Ia a, Ia b]]) (H' := []) (rs := [I (if a = 0 then b else a)]) rfl ?_ rfl
  show O.ent 118 [V nl tg [a, b]] [] [] = _
  have i0 := idxV (nl := nl) (tg := tg) (zs := [a, b]) (k := 0) (by simp)
  have i1 := idxV (nl := nl) (tg := tg) (zs := [a, b]) (k := 1) (by simp)
  have l0 := fun H => ldV (zs := [a, b]) (k := 0) (by simp) H
  have l1 := fun H => ldV (zs := [a, b]) (k := 1) (by simp) H
  rw [f118_eq]
  have h1 : (0 : Int) < (([a, b] : List Int).length : Nat) := by simp
  have h2 : (1 : Int) < (([a, b] : List Int).length : Nat) := by simp
  have h3 : ¬ (2 : Int) < (([a, b] : List Int).length : Nat) := by simp
  have w1 : IntKind.i64.wrap (0 + 1) = 1 := rfl
  have w2 : IntKind.i64.wrap (1 + 1) = 2 := rfl
  rw [show ((0 : Nat) : Int) = 0 from rfl] at i0
  rw [show ((1 : Nat) : Int) = 1 from rfl] at i1
  simp only [lenA_sl, obs]
  rw [L118_8_eq]
  by_cases ha : a = 0
  · subst ha
    simp only [h1, i0, l0, w1, List.getElem_cons_zero, obs, oms, bin_add, bin_sub, bin_lss, bin_leq, bin_gtr, bin_geq, bin_eql, bin_neq, bin_eqlB, bin_neqB, un_not, cond_B, gd_B, gd_undef, gdH_B, gdH_undef, pickA_B, extractA_tup, lenA_sl, lenA_row, fldA_fp, fldA_ptr, fldA_rptr, List.getElem?_cons_zero, List.getElem?_cons_succ, decide_true, decide_false, if_true, if_false, Bool.true_eq_false, Bool.false_eq_true, Bool.not_true, Bool.not_false]
    rw [L118_8_eq]
    by_cases hb : b = 0
    · subst hb
      simp only [h2, i1, l1, w2, List.getElem_cons_zero, List.getElem_cons_succ, obs, oms, bin_add, bin_sub, bin_lss, bin_leq, bin_gtr, bin_geq, bin_eql, bin_neq, bin_eqlB, bin_neqB, un_not, cond_B, gd_B, gd_undef, gdH_B, gdH_undef, pickA_B, extractA_tup, lenA_sl, lenA_row, fldA_fp, fldA_ptr, fldA_rptr, List.getElem?_cons_zero, List.getElem?_cons_succ, decide_true, decide_false, if_true, if_false, Bool.true_eq_false, Bool.false_eq_true, Bool.not_true, Bool.not_false]
      rw [L118_8_eq]
      simp only [h3, obs, oms, bin_add, bin_sub, bin_lss, bin_leq, bin_gtr, bin_geq, bin_eql, bin_neq, bin_eqlB, bin_neqB, un_not, cond_B, gd_B, gd_undef, gdH_B, gdH_undef, pickA_B, extractA_tup, lenA_sl, lenA_row, fldA_fp, fldA_ptr, fldA_rptr, List.getElem?_cons_zero, List.getElem?_cons_succ, decide_true, decide_false, if_true, if_false, Bool.true_eq_false, Bool.false_eq_true, Bool.not_true, Bool.not_false]
      rfl
    · simp only [h2, i1, l1, List.getElem_cons_zero, List.getElem_cons_succ, hb, obs, oms, bin_add, bin_sub, bin_lss, bin_leq, bin_gtr, bin_geq, bin_eql, bin_neq, bin_eqlB, bin_neqB, un_not, cond_B, gd_B, gd_undef, gdH_B, gdH_undef, pickA_B, extractA_tup, lenA_sl, lenA_row, fldA_fp, fldA_ptr, fldA_rptr, List.getElem?_cons_zero, List.getElem?_cons_succ, decide_true, decide_false, if_true, if_false, Bool.true_eq_false, Bool.false_eq_true, Bool.not_true, Bool.not_false]
      rfl
  · simp only [h1, i0, l0, List.getElem_cons_zero, ha, obs, oms, bin_add, bin_sub, bin_lss, bin_leq, bin_gtr, bin_geq, bin_eql, bin_neq, bin_eqlB, bin_neqB, un_not, cond_B, gd_B, gd_undef, gdH_B, gdH_undef, pickA_B, extractA_tup, lenA_sl, lenA_row, fldA_fp, fldA_ptr, fldA_rptr, List.getElem?_cons_zero, List.getElem?_cons_succ, decide_true, decide_false, if_true, if_false, Bool.true_eq_false, Bool.false_eq_true, Bool.not_true, Bool.not_false]
    rfl

theorem pureLs (H : Heap) : ∀ xs : List PV, pureLeaves H (xs.map .p) = some (xs.map .p, false) := by
  intro xs
  induction xs with
  | nil => rfl
  | cons x xs ih => simp [pureLeaves, pureLeaf, ih]

theorem callCmp (x y : P2) (lo : List Nat) (H : Heap) : callV cfg O (.fn 123 [] []) [avP x, avP y] lo H = some (I (cmpP x y), H) := by
  show callA cfg O 123 [avP x, avP y] lo H = _
  refine callA_args (H' := []) (rs := [I (cmpP x y)]) rfl ?_ ?_ rfl
  · simp only [pureArgs, pureArg, avP, pureLs, oms, obs, Bool.or_false]
  · rw [f123_eq]
    have b1 : boxO [] (AV.cells (avP x)) [] = some (.ptr 0 0, [.box ((encP x).map .p)]) := boxO_p _ []
    have b2 : boxO [] (AV.cells (avP y)) [.box ((encP x).map .p)] = some (.ptr 1 0, [.box ((encP x).map .p), .box ((encP y).map .p)]) := boxO_p _ _
    have l1 : ld false 1 (.ptr 0 (0 + 0)) [.box ((encP x).map .p), .box ((encP y).map .p)] = some (I x.1) := by rw [ld_box (xs := (encP x).map .p) rfl]; rfl
    have l2 : ld false 1 (.ptr 1 (0 + 0)) [.box ((encP x).map .p), .box ((encP y).map .p)] = some (I y.1) := by rw [ld_box (xs := (encP y).map .p) rfl]; rfl
    have l3 : ld false 1 (.ptr 0 (0 + 1)) [.box ((encP x).map .p), .box ((encP y).map .p)] = some (I x.2) := by rw [ld_box (xs := (encP x).map .p) rfl]; rfl
    have l4 : ld false 1 (.ptr 1 (0 + 1)) [.box ((encP x).map .p), .box ((encP y).map .p)] = some (I y.2) := by rw [ld_box (xs := (encP y).map .p) rfl]; rfl
    have hlit : ∀ (a b : Int) (H : Heap), litA false 1 [I a, I b] H = some (.p (.sl (some false) true 2 [Ia a, Ia b]), H) := fun _ _ _ => rfl
    simp only [b1, b2, l1, l2, l3, l4, call119, hlit, call118, obs, oms, bin_add, bin_sub, bin_lss, bin_leq, bin_gtr, bin_geq, bin_eql, bin_neq, bin_eqlB, bin_neqB, un_not, cond_B, gd_B, gd_undef, gdH_B, gdH_undef, pickA_B, extractA_tup, lenA_sl, lenA_row, fldA_fp, fldA_ptr, fldA_rptr, List.getElem?_cons_zero, List.getElem?_cons_succ, decide_true, decide_false, if_true, if_false, Bool.true_eq_false, Bool.false_eq_true, Bool.not_true, Bool.not_false]
    rfl

theorem cmp1_neg (a b : Int) : cmp1 a b < 0 ↔ a < b := by
  unfold cmp1
  by_cases h1 : a < b
  · simp [h1]
  · by_cases h2 : b < a <;> simp [h1, h2]
theorem cmp1_zero (a b : Int) : cmp1 a b = 0 ↔ a = b := by
  unfold cmp1
  by_cases h1 : a < b
  · simp [h1]; omega
  · by_cases h2 : b < a
    · simp [h1, h2]; omega
    · simp [h1, h2]; omega
theorem cmpP_neg (x y : P2) : cmpP x y < 0 ↔ plt x y := by
  unfold cmpP plt
  by_cases h : x.1 = y.1
  · rw [if_pos ((cmp1_zero _ _).mpr h), cmp1_neg]
    simp only [h, Int.lt_irrefl, false_or, true_and]
  · rw [if_neg (fun e => h ((cmp1_zero _ _).mp e)), cmp1_neg]
    simp only [h, false_and, or_false]

open Go.Sort in
theorem swoP : SWO fun x y : P2 => decide (cmpP x y < 0) := by
  refine ⟨fun x => ?_, fun x y z h1 h2 => ?_, fun x y z h1 h2 => ?_⟩
  · simp only [decide_eq_false_iff_not, cmpP_neg]
    exact plt_irr x
  · simp only [decide_eq_true_eq, cmpP_neg] at *
    exact plt_trans h1 h2
  · simp only [decide_eq_false_iff_not, cmpP_neg] at *
    unfold plt at *
    omega

theorem ent122 (cl : AV) (o : AV) (lo : List Nat) (G : Heap) : O.ent 122 [o, cl] lo G = extRun cfg O (.sort true 2) [o, cl] G := by
  rw [O_ent]
  rfl

end Lo
end Go.Proofs.Ytkhbbjfdbbnojaa
