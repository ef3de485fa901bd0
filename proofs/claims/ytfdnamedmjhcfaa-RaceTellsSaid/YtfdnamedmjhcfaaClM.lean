import Derived.Test.YtfdnamedmjhcfaaERaceTells
import Derived.Test.YtfdnamedmjhcfaaTy
import Derived.Test.YtfdnamedmjhcfaaAm32
import Derived.Test.YtfdnamedmjhcfaaAm29
set_option linter.unusedVariables false
set_option linter.unusedSimpArgs false
namespace Go.Proofs.Ytfdnamedmjhcfaa
open Go Go.AM
namespace Cl

abbrev E := A_Event
abbrev enc := enc_Event
theorem hE (p : E) : (enc p).length = 12 := rfl
def avE (e : E) : AV := .agg ((enc e).map .p)
abbrev bxE (e : E) : AObj := .box ((enc e).map .p)
def z0 : E := (0, 0, 0, 0, 0, 0, 0, 0, (0, 0), (0, 0))
def Kn (l : List E) (i : Nat) : Int := (l.getD i z0).1
def Th (l : List E) (i : Nat) : Int := (l.getD i z0).2.2.1
def Ea (l : List E) (i : Nat) : Int := (l.getD i z0).2.2.2.2.2.2.1

section
variable {l : List E} {nl : Option Bool} {tg : Bool}
theorem getl {i : Nat} (h : i < l.length) : l[i] = l.getD i z0 := by simp [List.getD_eq_getElem?_getD, h]
theorem idxE {i : Nat} (h : i < l.length) : idxA 12 (Rw enc nl tg l) (I i) = some (.fp (l.flatMap enc) (i * 12)) := idxR h
theorem fK {i : Nat} (h : i < l.length) (H : Heap) : ld false 1 (.fp (l.flatMap enc) (i * 12 + 0)) H = some (I (Kn l i)) := by rw [fldR hE h (by omega)]; unfold Kn; rw [← getl h]; rfl
theorem fT {i : Nat} (h : i < l.length) (H : Heap) : ld false 1 (.fp (l.flatMap enc) (i * 12 + 2)) H = some (I (Th l i)) := by rw [fldR hE h (by omega)]; unfold Th; rw [← getl h]; rfl
theorem fA {i : Nat} (h : i < l.length) (H : Heap) : ld false 1 (.fp (l.flatMap enc) (i * 12 + 6)) H = some (I (Ea l i)) := by rw [fldR hE h (by omega)]; unfold Ea; rw [← getl h]; rfl
theorem ldEv {i : Nat} (h : i < l.length) (H : Heap) : ld true 12 (.fp (l.flatMap enc) (i * 12)) H = some (avE (l.getD i z0)) := by rw [ldR hE h, getl h]; rfl
theorem ldFv {i : Nat} (h : i < l.length) : ldF true 12 (.fp (l.flatMap enc) (i * 12)) = some (avE (l.getD i z0)) := ldEv h []
theorem bK {H : Heap} {id i : Nat} (h : H[id]? = some (bxE (l.getD i z0))) : ld false 1 (.ptr id (0 + 0)) H = some (I (Kn l i)) := by rw [ld_box h]; rfl
theorem bT {H : Heap} {id i : Nat} (h : H[id]? = some (bxE (l.getD i z0))) : ld false 1 (.ptr id (0 + 2)) H = some (I (Th l i)) := by rw [ld_box h]; rfl
theorem bA {H : Heap} {id i : Nat} (h : H[id]? = some (bxE (l.getD i z0))) : ld false 1 (.ptr id (0 + 6)) H = some (I (Ea l i)) := by rw [ld_box h]; rfl

/-! ### Which event leads to which -/
def NX (l : List E) (i j : Nat) : Prop := Th l i = Th l j ∧ ∀ k, i < k → k < j → Th l k ≠ Th l j
def SP (l : List E) (i j : Nat) : Prop := (Kn l i = 11 ∧ Ea l i = Th l j) ∧ ∀ k, i < k → k < j → Th l k ≠ Th l j
def OV (l : List E) (i j : Nat) : Prop := ((Kn l i = 17 ∧ Kn l j = 12) ∧ Ea l j = Th l i) ∧ ∀ k, i < k → k < j → ¬ (Kn l k = 17 ∧ Th l k = Th l i)
def FR (l : List E) (i j : Nat) : Prop := ((Kn l i = 14 ∧ Kn l j = 13) ∧ Ea l i = Ea l j) ∧ ∀ k, i < k → k < j → ¬ (Kn l k = 13 ∧ Ea l k = Ea l i)
def ED (l : List E) (i j : Nat) : Prop := i < j ∧ (NX l i j ∨ SP l i j ∨ OV l i j ∨ FR l i j)

theorem ball_step {Q : Nat → Prop} {k j : Nat} (h : k < j) : (∀ q, k ≤ q → q < j → Q q) ↔ Q k ∧ ∀ q, k + 1 ≤ q → q < j → Q q := by
  constructor
  · intro hq; exact ⟨hq k (Nat.le_refl _) h, fun q h1 h2 => hq q (by omega) h2⟩
  · intro ⟨h1, h2⟩ q h3 h4
    by_cases e : q = k
    · subst e; exact h1
    · exact h2 q (by omega) h4

open Classical in
noncomputable def dec (p : Prop) : Bool := decide p
theorem dec_iff {p : Prop} : dec p = true ↔ p := by unfold dec; simp
theorem dec_congr {p q : Prop} (h : p ↔ q) : dec p = dec q := by
  rw [Bool.eq_iff_iff, dec_iff, dec_iff]; exact h

theorem loop74 {i j pa pb : Nat} (hi : i < l.length) (hj : j < l.length) (hb : l.length < 2 ^ 40) : ∀ (c k : Nat) (b1 b2 b3 b4 : Bool) (H : Heap), j - k = c → k ≤ j → H[pa]? = some (bxE (l.getD i z0)) → H[pb]? = some (bxE (l.getD j z0)) →
    L22_20 [Rw enc nl tg l, I j, .ptr pa 0, .ptr pb 0, B b1, B b2, B b3, B b4, I k] [] H = some ([B (dec ((b1 = true ∧ ∀ q, k ≤ q → q < j → Th l q ≠ Th l j) ∨ (b2 = true ∧ ∀ q, k ≤ q → q < j → Th l q ≠ Th l j) ∨
      (b3 = true ∧ ∀ q, k ≤ q → q < j → ¬ (Kn l q = 17 ∧ Th l q = Th l i)) ∨ (b4 = true ∧ ∀ q, k ≤ q → q < j → ¬ (Kn l q = 13 ∧ Ea l q = Ea l i))))], []) := by
  intro c
  induction c with
  | zero =>
    intro k b1 b2 b3 b4 H hc hk ha hb'
    have : k = j := by omega
    subst this
    have hv : ∀ (Q : Nat → Prop), (∀ q, k ≤ q → q < k → Q q) ↔ True := fun Q => ⟨fun _ => trivial, fun _ q h1 h2 => by omega⟩
    rw [L22_20_eq]
    have e : dec ((b1 = true ∧ ∀ q, k ≤ q → q < k → Th l q ≠ Th l k) ∨ (b2 = true ∧ ∀ q, k ≤ q → q < k → Th l q ≠ Th l k) ∨
      (b3 = true ∧ ∀ q, k ≤ q → q < k → ¬ (Kn l q = 17 ∧ Th l q = Th l i)) ∨ (b4 = true ∧ ∀ q, k ≤ q → q < k → ¬ (Kn l q = 13 ∧ Ea l q = Ea l i))) = (b1 || b2 || b3 || b4) := by
      rw [Bool.eq_iff_iff, dec_iff]
      simp only [hv, and_true, Bool.or_eq_true]
      simp only [or_assoc]
    rw [e]
    simp only [Int.lt_irrefl, obs, oms, bin_add, bin_sub, bin_lss, bin_leq, bin_gtr, bin_geq, bin_eql, bin_neq, bin_eqlB, bin_neqB, un_not, cond_B, gd_B, gd_undef, gdH_B, gdH_undef, pickA_B, extractA_tup, lenA_sl, lenA_row, fldA_fp, fldA_ptr, fldA_rptr, List.getElem?_cons_zero, List.getElem?_cons_succ, decide_true, decide_false, if_true, if_false, Bool.true_eq_false, Bool.false_eq_true, Bool.not_true, Bool.not_false]
    cases b1 <;> cases b2 <;> cases b3 <;> cases b4 <;> rfl
  | succ c ih =>
    intro k b1 b2 b3 b4 H hc hk ha hb'
    have hkj : k < j := by omega
    have hkl : k < l.length := by omega
    have hlt : (k : Int) < j := by omega
    have hw : IntKind.i64.wrap ((k : Int) + 1) = ((k + 1 : Nat) : Int) := by rw [wrap_id (by omega), nxt]
    have ih' := fun b1 b2 b3 b4 => ih (k + 1) b1 b2 b3 b4 H (by omega) (by omega) ha hb'
    have fin : L22_20 [Rw enc nl tg l, I j, .ptr pa 0, .ptr pb 0, B b1, B b2, B b3, B b4, I k] [] H =
        L22_20 [Rw enc nl tg l, I j, .ptr pa 0, .ptr pb 0, B (if Th l k = Th l j then false else b1), B (if Th l k = Th l j then false else b2), B (if Kn l k = 17 ∧ Th l k = Th l i then false else b3), B (if Kn l k = 13 ∧ Ea l k = Ea l i then false else b4), I ((k + 1 : Nat) : Int)] [] H := by
      have s33 : ∀ x1 x2 x3 : Bool, L22_33 [Rw enc nl tg l, I j, .ptr pa 0, .ptr pb 0, B x1, B x2, B x3, B b4, I k] [] H = L22_20 [Rw enc nl tg l, I j, .ptr pa 0, .ptr pb 0, B x1, B x2, B x3, B (if Kn l k = 13 ∧ Ea l k = Ea l i then false else b4), I ((k + 1 : Nat) : Int)] [] H := by
        intro x1 x2 x3
        rw [L22_33_eq]
        by_cases e1 : Kn l k = 13
        · by_cases e2 : Ea l k = Ea l i
          · rw [if_pos ⟨e1, e2⟩]
            simp only [idxE hkl, fldA_ptr, fK hkl, fA hkl, bA ha, e1, e2, L22_23_eq, hw, obs, oms, bin_add, bin_sub, bin_lss, bin_leq, bin_gtr, bin_geq, bin_eql, bin_neq, bin_eqlB, bin_neqB, un_not, cond_B, gd_B, gd_undef, gdH_B, gdH_undef, pickA_B, extractA_tup, lenA_sl, lenA_row, fldA_fp, fldA_ptr, fldA_rptr, List.getElem?_cons_zero, List.getElem?_cons_succ, decide_true, decide_false, if_true, if_false, Bool.true_eq_false, Bool.false_eq_true, Bool.not_true, Bool.not_false]
          · rw [if_neg (fun h => e2 h.2)]
            simp only [idxE hkl, fldA_ptr, fK hkl, fA hkl, bA ha, e1, e2, L22_23_eq, hw, obs, oms, bin_add, bin_sub, bin_lss, bin_leq, bin_gtr, bin_geq, bin_eql, bin_neq, bin_eqlB, bin_neqB, un_not, cond_B, gd_B, gd_undef, gdH_B, gdH_undef, pickA_B, extractA_tup, lenA_sl, lenA_row, fldA_fp, fldA_ptr, fldA_rptr, List.getElem?_cons_zero, List.getElem?_cons_succ, decide_true, decide_false, if_true, if_false, Bool.true_eq_false, Bool.false_eq_true, Bool.not_true, Bool.not_false]
        · rw [if_neg (fun h => e1 h.1)]
          simp only [idxE hkl, fldA_ptr, fK hkl, e1, L22_23_eq, hw, obs, oms, bin_add, bin_sub, bin_lss, bin_leq, bin_gtr, bin_geq, bin_eql, bin_neq, bin_eqlB, bin_neqB, un_not, cond_B, gd_B, gd_undef, gdH_B, gdH_undef, pickA_B, extractA_tup, lenA_sl, lenA_row, fldA_fp, fldA_ptr, fldA_rptr, List.getElem?_cons_zero, List.getElem?_cons_succ, decide_true, decide_false, if_true, if_false, Bool.true_eq_false, Bool.false_eq_true, Bool.not_true, Bool.not_false]
      have s29 : ∀ x1 x2 : Bool, L22_29 [Rw enc nl tg l, I j, .ptr pa 0, .ptr pb 0, B x1, B x2, B b3, B b4, I k] [] H = L22_20 [Rw enc nl tg l, I j, .ptr pa 0, .ptr pb 0, B x1, B x2, B (if Kn l k = 17 ∧ Th l k = Th l i then false else b3), B (if Kn l k = 13 ∧ Ea l k = Ea l i then false else b4), I ((k + 1 : Nat) : Int)] [] H := by
        intro x1 x2
        rw [L22_29_eq]
        by_cases e1 : Kn l k = 17
        · by_cases e2 : Th l k = Th l i
          · rw [if_pos ⟨e1, e2⟩, ← s33]
            simp only [idxE hkl, fldA_ptr, fK hkl, fT hkl, bT ha, e1, e2, obs, oms, bin_add, bin_sub, bin_lss, bin_leq, bin_gtr, bin_geq, bin_eql, bin_neq, bin_eqlB, bin_neqB, un_not, cond_B, gd_B, gd_undef, gdH_B, gdH_undef, pickA_B, extractA_tup, lenA_sl, lenA_row, fldA_fp, fldA_ptr, fldA_rptr, List.getElem?_cons_zero, List.getElem?_cons_succ, decide_true, decide_false, if_true, if_false, Bool.true_eq_false, Bool.false_eq_true, Bool.not_true, Bool.not_false]
          · rw [if_neg (fun h => e2 h.2), ← s33]
            simp only [idxE hkl, fldA_ptr, fK hkl, fT hkl, bT ha, e1, e2, obs, oms, bin_add, bin_sub, bin_lss, bin_leq, bin_gtr, bin_geq, bin_eql, bin_neq, bin_eqlB, bin_neqB, un_not, cond_B, gd_B, gd_undef, gdH_B, gdH_undef, pickA_B, extractA_tup, lenA_sl, lenA_row, fldA_fp, fldA_ptr, fldA_rptr, List.getElem?_cons_zero, List.getElem?_cons_succ, decide_true, decide_false, if_true, if_false, Bool.true_eq_false, Bool.false_eq_true, Bool.not_true, Bool.not_false]
        · rw [if_neg (fun h => e1 h.1), ← s33]
          simp only [idxE hkl, fldA_ptr, fK hkl, e1, obs, oms, bin_add, bin_sub, bin_lss, bin_leq, bin_gtr, bin_geq, bin_eql, bin_neq, bin_eqlB, bin_neqB, un_not, cond_B, gd_B, gd_undef, gdH_B, gdH_undef, pickA_B, extractA_tup, lenA_sl, lenA_row, fldA_fp, fldA_ptr, fldA_rptr, List.getElem?_cons_zero, List.getElem?_cons_succ, decide_true, decide_false, if_true, if_false, Bool.true_eq_false, Bool.false_eq_true, Bool.not_true, Bool.not_false]
      rw [L22_20_eq]
      by_cases e1 : Th l k = Th l j
      · rw [if_pos e1, if_pos e1, ← s29]
        simp only [hlt, idxE hkl, fldA_ptr, fT hkl, bT hb', e1, obs, oms, bin_add, bin_sub, bin_lss, bin_leq, bin_gtr, bin_geq, bin_eql, bin_neq, bin_eqlB, bin_neqB, un_not, cond_B, gd_B, gd_undef, gdH_B, gdH_undef, pickA_B, extractA_tup, lenA_sl, lenA_row, fldA_fp, fldA_ptr, fldA_rptr, List.getElem?_cons_zero, List.getElem?_cons_succ, decide_true, decide_false, if_true, if_false, Bool.true_eq_false, Bool.false_eq_true, Bool.not_true, Bool.not_false]
      · rw [if_neg e1, if_neg e1, ← s29]
        simp only [hlt, idxE hkl, fldA_ptr, fT hkl, bT hb', e1, obs, oms, bin_add, bin_sub, bin_lss, bin_leq, bin_gtr, bin_geq, bin_eql, bin_neq, bin_eqlB, bin_neqB, un_not, cond_B, gd_B, gd_undef, gdH_B, gdH_undef, pickA_B, extractA_tup, lenA_sl, lenA_row, fldA_fp, fldA_ptr, fldA_rptr, List.getElem?_cons_zero, List.getElem?_cons_succ, decide_true, decide_false, if_true, if_false, Bool.true_eq_false, Bool.false_eq_true, Bool.not_true, Bool.not_false]
    rw [fin, ih']
    congr 4
    apply dec_congr
    have cut : ∀ (b : Bool) (Q : Nat → Prop) (R : Prop) (hd : Decidable R) (hR : R ↔ ¬ Q k), ((if R then false else b) = true ∧ ∀ q, k + 1 ≤ q → q < j → Q q) ↔ (b = true ∧ ∀ q, k ≤ q → q < j → Q q) := by
      intro b Q R hd hR
      rw [ball_step hkj]
      by_cases hr : R
      · rw [if_pos hr]
        exact ⟨fun h => (by cases h.1), fun h => (hR.mp hr h.2.1).elim⟩
      · rw [if_neg hr]
        have : Q k := Classical.byContradiction fun h => hr (hR.mpr h)
        exact ⟨fun h => ⟨h.1, this, h.2⟩, fun h => ⟨h.1, h.2.2⟩⟩
    rw [cut b1 (fun q => Th l q ≠ Th l j) (Th l k = Th l j) _ (by simp), cut b2 (fun q => Th l q ≠ Th l j) (Th l k = Th l j) _ (by simp),
      cut b3 (fun q => ¬ (Kn l q = 17 ∧ Th l q = Th l i)) (Kn l k = 17 ∧ Th l k = Th l i) _ (by simp), cut b4 (fun q => ¬ (Kn l q = 13 ∧ Ea l q = Ea l i)) (Kn l k = 13 ∧ Ea l k = Ea l i) _ (by simp)]

theorem fill0 (cs : List PV) (h : 0 < cs.length) : fillA 2 0 (cs.map .p) ([] ++ List.replicate 2 AObj.hole) = some (.ptr 0 0, [.box (cs.map .p), .hole]) := by
  have hp : pvCells (cs.map .p) = some cs := by
    induction cs with
    | nil => rfl
    | cons x cs ih =>
      by_cases hc : cs = []
      · subst hc; rfl
      · simp only [List.map_cons, pvCells, ih (List.length_pos_iff.mpr hc), oms]
  unfold fillA
  simp only [hp, List.nil_append]
  simp [List.replicate, h, holeAt]
theorem fill1 (cs : List PV) (h : 0 < cs.length) (o : AObj) : fillA 2 1 (cs.map .p) [o, .hole] = some (.ptr 1 0, [o, .box (cs.map .p)]) := by
  have hp : pvCells (cs.map .p) = some cs := by
    induction cs with
    | nil => rfl
    | cons x cs ih =>
      by_cases hc : cs = []
      · subst hc; rfl
      · simp only [List.map_cons, pvCells, ih (List.length_pos_iff.mpr hc), oms]
  unfold fillA
  simp only [hp]
  simp [h, holeAt]

theorem ent74 {i j : Nat} (hi : i < l.length) (hj : j < l.length) (hb : l.length < 2 ^ 40) : O.ent 22 [Rw enc nl tg l, I i, I j] [] [] = some ([B (dec (ED l i j))], []) := by
  rw [f22_eq]
  by_cases hij : j ≤ i
  · have e : dec (ED l i j) = false := by
      cases h : dec (ED l i j) with
      | false => rfl
      | true => have := (dec_iff.mp h).1; omega
    rw [e]
    have h1 : (j : Int) ≤ i := by omega
    simp only [h1, obs, oms, bin_add, bin_sub, bin_lss, bin_leq, bin_gtr, bin_geq, bin_eql, bin_neq, bin_eqlB, bin_neqB, un_not, cond_B, gd_B, gd_undef, gdH_B, gdH_undef, pickA_B, extractA_tup, lenA_sl, lenA_row, fldA_fp, fldA_ptr, fldA_rptr, List.getElem?_cons_zero, List.getElem?_cons_succ, decide_true, decide_false, if_true, if_false, Bool.true_eq_false, Bool.false_eq_true, Bool.not_true, Bool.not_false]
    rfl
  · have h1 : ¬ (j : Int) ≤ i := by omega
    have z12 : ([(I 0), (I 0), (I 0), (I 0), (I 0), (I 0), (I 0), (I 0), (I 0), (I 0), (I 0), (I 0)] : List AV) = (List.replicate 12 (Ia 0)).map .p := rfl
    have f0 := fill0 (List.replicate 12 (Ia 0)) (by simp)
    have f1 := fill1 (List.replicate 12 (Ia 0)) (by simp) (.box ((List.replicate 12 (Ia 0)).map .p))
    have s0 : ∀ o : AObj, stA 12 (.ptr 0 0) (avE (l.getD i z0)) [] [.box ((List.replicate 12 (Ia 0)).map .p), o] = some [bxE (l.getD i z0), o] := fun o => by
      rw [avE, stA_box (n := 12) (off := 0) (y := .agg ((enc (l.getD i z0)).map .p)) (xs := (List.replicate 12 (Ia 0)).map .p) rfl rfl (by simp) (leaves_p _) (okLevels_p [] _ _) (by simp)]
      simp only [AV.cells]
      rw [splice_all (by simp [hE])]
      rfl
    have s1 : ∀ o : AObj, stA 12 (.ptr 1 0) (avE (l.getD j z0)) [] [o, .box ((List.replicate 12 (Ia 0)).map .p)] = some [o, bxE (l.getD j z0)] := fun o => by
      rw [avE, stA_box (n := 12) (off := 0) (y := .agg ((enc (l.getD j z0)).map .p)) (xs := (List.replicate 12 (Ia 0)).map .p) rfl rfl (by simp) (leaves_p _) (okLevels_p [] _ _) (by simp)]
      simp only [AV.cells]
      rw [splice_all (by simp [hE])]
      rfl
    have ha : ([bxE (l.getD i z0), bxE (l.getD j z0)] : Heap)[0]? = some (bxE (l.getD i z0)) := rfl
    have hb' : ([bxE (l.getD i z0), bxE (l.getD j z0)] : Heap)[1]? = some (bxE (l.getD j z0)) := rfl
    have hw : IntKind.i64.wrap ((i : Int) + 1) = ((i + 1 : Nat) : Int) := by rw [wrap_id (by omega), nxt]
    have hl := loop74 (nl := nl) (tg := tg) (pa := 0) (pb := 1) hi hj hb (j - (i + 1)) (i + 1) (decide (Th l i = Th l j)) (decide (Kn l i = 11) && decide (Ea l i = Th l j)) (decide (Kn l i = 17) && decide (Kn l j = 12) && decide (Ea l j = Th l i)) (decide (Kn l i = 14) && decide (Kn l j = 13) && decide (Ea l i = Ea l j)) [bxE (l.getD i z0), bxE (l.getD j z0)] rfl (by omega) ha hb'
    have e : dec (ED l i j) = dec (((decide (Th l i = Th l j)) = true ∧ ∀ q, i + 1 ≤ q → q < j → Th l q ≠ Th l j) ∨ ((decide (Kn l i = 11) && decide (Ea l i = Th l j)) = true ∧ ∀ q, i + 1 ≤ q → q < j → Th l q ≠ Th l j) ∨
      ((decide (Kn l i = 17) && decide (Kn l j = 12) && decide (Ea l j = Th l i)) = true ∧ ∀ q, i + 1 ≤ q → q < j → ¬ (Kn l q = 17 ∧ Th l q = Th l i)) ∨ ((decide (Kn l i = 14) && decide (Kn l j = 13) && decide (Ea l i = Ea l j)) = true ∧ ∀ q, i + 1 ≤ q → q < j → ¬ (Kn l q = 13 ∧ Ea l q = Ea l i))) := by
      apply dec_congr
      unfold ED NX SP OV FR
      have hij' : i < j := by omega
      simp only [hij', true_and, decide_eq_true_eq, Bool.and_eq_true]
      exact Iff.rfl
    rw [e, ← hl]
    simp only [h1, idxE hi, idxE hj, ldEv hi, ldEv hj, ldFv hi, ldFv hj, z12, f0, f1, s0, s1, fldA_ptr, bT ha, bT hb', bK ha, bK hb', bA ha, bA hb', hw, obs, oms, bin_add, bin_sub, bin_lss, bin_leq, bin_gtr, bin_geq, bin_eql, bin_neq, bin_eqlB, bin_neqB, un_not, cond_B, gd_B, gd_undef, gdH_B, gdH_undef, pickA_B, extractA_tup, lenA_sl, lenA_row, fldA_fp, fldA_ptr, fldA_rptr, List.getElem?_cons_zero, List.getElem?_cons_succ, decide_true, decide_false, if_true, if_false, Bool.true_eq_false, Bool.false_eq_true, Bool.not_true, Bool.not_false]
    by_cases a1 : Kn l i = 11
    · by_cases a2 : Kn l i = 17
      · omega
      · by_cases a3 : Kn l i = 14
        · omega
        · simp only [a1, bA ha, bA hb', bT ha, bT hb', bK ha, bK hb', hw, obs, oms, bin_add, bin_sub, bin_lss, bin_leq, bin_gtr, bin_geq, bin_eql, bin_neq, bin_eqlB, bin_neqB, un_not, cond_B, gd_B, gd_undef, gdH_B, gdH_undef, pickA_B, extractA_tup, lenA_sl, lenA_row, fldA_fp, fldA_ptr, fldA_rptr, List.getElem?_cons_zero, List.getElem?_cons_succ, decide_true, decide_false, if_true, if_false, Bool.true_eq_false, Bool.false_eq_true, Bool.not_true, Bool.not_false]
          rfl
    · by_cases a2 : Kn l i = 17
      · by_cases a3 : Kn l j = 12
        · simp only [a1, a2, a3, bA ha, bA hb', bT ha, bT hb', bK ha, bK hb', hw, obs, oms, bin_add, bin_sub, bin_lss, bin_leq, bin_gtr, bin_geq, bin_eql, bin_neq, bin_eqlB, bin_neqB, un_not, cond_B, gd_B, gd_undef, gdH_B, gdH_undef, pickA_B, extractA_tup, lenA_sl, lenA_row, fldA_fp, fldA_ptr, fldA_rptr, List.getElem?_cons_zero, List.getElem?_cons_succ, decide_true, decide_false, if_true, if_false, Bool.true_eq_false, Bool.false_eq_true, Bool.not_true, Bool.not_false]
          rfl
        · simp only [a1, a2, a3, bA ha, bA hb', bT ha, bT hb', bK ha, bK hb', hw, obs, oms, bin_add, bin_sub, bin_lss, bin_leq, bin_gtr, bin_geq, bin_eql, bin_neq, bin_eqlB, bin_neqB, un_not, cond_B, gd_B, gd_undef, gdH_B, gdH_undef, pickA_B, extractA_tup, lenA_sl, lenA_row, fldA_fp, fldA_ptr, fldA_rptr, List.getElem?_cons_zero, List.getElem?_cons_succ, decide_true, decide_false, if_true, if_false, Bool.true_eq_false, Bool.false_eq_true, Bool.not_true, Bool.not_false]
          rfl
      · by_cases a3 : Kn l i = 14
        · by_cases a4 : Kn l j = 13
          · simp only [a1, a2, a3, a4, bA ha, bA hb', bT ha, bT hb', bK ha, bK hb', hw, obs, oms, bin_add, bin_sub, bin_lss, bin_leq, bin_gtr, bin_geq, bin_eql, bin_neq, bin_eqlB, bin_neqB, un_not, cond_B, gd_B, gd_undef, gdH_B, gdH_undef, pickA_B, extractA_tup, lenA_sl, lenA_row, fldA_fp, fldA_ptr, fldA_rptr, List.getElem?_cons_zero, List.getElem?_cons_succ, decide_true, decide_false, if_true, if_false, Bool.true_eq_false, Bool.false_eq_true, Bool.not_true, Bool.not_false]
            rfl
          · simp only [a1, a2, a3, a4, bA ha, bA hb', bT ha, bT hb', bK ha, bK hb', hw, obs, oms, bin_add, bin_sub, bin_lss, bin_leq, bin_gtr, bin_geq, bin_eql, bin_neq, bin_eqlB, bin_neqB, un_not, cond_B, gd_B, gd_undef, gdH_B, gdH_undef, pickA_B, extractA_tup, lenA_sl, lenA_row, fldA_fp, fldA_ptr, fldA_rptr, List.getElem?_cons_zero, List.getElem?_cons_succ, decide_true, decide_false, if_true, if_false, Bool.true_eq_false, Bool.false_eq_true, Bool.not_true, Bool.not_false]
            rfl
        · simp only [a1, a2, a3, bA ha, bA hb', bT ha, bT hb', bK ha, bK hb', hw, obs, oms, bin_add, bin_sub, bin_lss, bin_leq, bin_gtr, bin_geq, bin_eql, bin_neq, bin_eqlB, bin_neqB, un_not, cond_B, gd_B, gd_undef, gdH_B, gdH_undef, pickA_B, extractA_tup, lenA_sl, lenA_row, fldA_fp, fldA_ptr, fldA_rptr, List.getElem?_cons_zero, List.getElem?_cons_succ, decide_true, decide_false, if_true, if_false, Bool.true_eq_false, Bool.false_eq_true, Bool.not_true, Bool.not_false]
          rfl
end
end Cl
end Go.Proofs.Ytfdnamedmjhcfaa

set_option linter.unusedVariables false
set_option linter.unusedSimpArgs false
namespace Go.Proofs.Ytfdnamedmjhcfaa
open Go Go.AM
namespace Cl

abbrev P2 := Int × Int
def encP (p : P2) : List PV := [Ia p.1, Ia p.2]
theorem len2 (p : P2) : (encP p).length = 2 := rfl
abbrev mI (kvs : List (Kv Int)) (c : Nat) : AObj := mapObj (fun n : Int => I n) kvs c
abbrev oP (o : AV) (out : List P2) : Ll := (o, 2, out.length, out.flatMap encP)

/-- The weaver's own place. -/
abbrev ownW (o : AV) (k0 : List (Kv Int)) (c0 : Nat) (sp : List (En Int)) (c1 : Nat) (k2 : List (Kv Int)) (c2 : Nat) (fr : List (En Int)) (c3 : Nat) (X : List (Nat × AObj)) : List (Nat × AObj) :=
  (4, .box [.mp 0, .mp 1, .mp 2, .mp 3, o]) :: (0, mI k0 c0) :: (1, mI (kvE sp) c1) :: (2, mI k2 c2) :: (3, mI (kvE fr) c3) :: X

/-- A row under way: none yet, or one of its own. -/
def Ro (o : AV) (out : List P2) : Prop := (o = .p nilS ∧ out = []) ∨ ∃ id g, o = .row id g 0 out.length ∧ 0 < out.length

structure WS (X : List (Nat × AObj)) (H : Heap) (o : AV) (out : List P2) (k0 : List (Kv Int)) (c0 : Nat) (sp : List (En Int)) (c1 : Nat) (k2 : List (Kv Int)) (c2 : Nat) (fr : List (En Int)) (c3 : Nat) : Prop where
  cx : Cx H (ownW o k0 c0 sp c1 k2 c2 fr c3 X) (oP o out :: (llE sp ++ llE fr))
  w0 : WfM k0 c0
  w1 : WfM (kvE sp) c1
  w2 : WfM k2 c2
  w3 : WfM (kvE fr) c3
  ids : ∀ q ∈ X, 5 ≤ q.1
  ro : Ro o out

theorem Lst.ldI {o : AV} {H : Heap} {m : Nat} {zs : List Int} (h : Lst 1 o H m (zs.map Ia)) {i : Nat} (hi : i < zs.length) (hm : m = zs.length) : ∃ p, idxA 1 o (I i) = some p ∧ ld false 1 p H = some (I zs[i]) := by
  obtain ⟨hl, ⟨nl, rfl, h1⟩ | ⟨id, g, rfl, ho⟩⟩ := h
  · subst hm
    exact ⟨_, idxV hi, ldV hi H⟩
  · refine ⟨_, rowI (by omega), ?_⟩
    rw [ld_row ho]
    simp [hi]

section
variable {X : List (Nat × AObj)} {H : Heap} {o : AV} {out : List P2} {k0 k2 : List (Kv Int)} {c0 c1 c2 c3 : Nat} {sp fr : List (En Int)}

theorem ent183 (h : WS X H o out k0 c0 sp c1 k2 c2 fr c3) (hn : out.length < 2 ^ 30) (i j : Int) :
    ∃ H' o', O.ent 53 [.ptr 4 0, I i, I j] [] H = some ([], H') ∧ WS X H' o' (out ++ [(i, j)]) k0 c0 sp c1 k2 c2 fr c3 := by
  have hb : H[4]? = some (.box [.mp 0, .mp 1, .mp 2, .mp 3, o]) := h.cx.at (by simp)
  have hlit : litA false 2 [.agg [I i, I j]] H = some (.p (.sl (some false) true 1 (encP (i, j))), H) := rfl
  have hcl : cellsA 2 (.p (.sl (some false) true 1 (encP (i, j)))) H = some (1, encP (i, j)) := rfl
  obtain ⟨o', H1, ea, h2, id', g', eo⟩ := Cx.app (bytes := 16) (y := .p (.sl (some false) true 1 (encP (i, j)))) [] h.cx hcl rfl (by omega) (by simp only [room]; omega)
  have hb1 : H1[4]? = some (.box [.mp 0, .mp 1, .mp 2, .mp 3, o]) := h2.at (by simp)
  have hc : o'.cells = [o'] := by rw [eo]; rfl
  have hst : stA 1 (.ptr 4 (0 + 4)) o' [] H1 = some (H1.set 4 (.box [.mp 0, .mp 1, .mp 2, .mp 3, o'])) := by
    rw [stA_box (n := 1) (off := 0 + 4) (y := o') (lo := []) hb1 (by rw [hc]; rfl) (by simp) (by rw [hc, eo]; rfl) rfl (by simp), hc]
    rfl
  refine ⟨H1.set 4 (.box [.mp 0, .mp 1, .mp 2, .mp 3, o']), o', ?_, ?_, h.w0, h.w1, h.w2, h.w3, h.ids, .inr ⟨id', g', by rw [eo]; simp, by simp⟩⟩
  · have hld : ld false 1 (.ptr 4 (0 + 4)) H = some o := by rw [ld_box hb]; rfl
    have hbld : buildA [(I 0), (I 0)] [(0, 1, I i), (1, 1, I j)] = some (.agg [I i, I j]) := rfl
    have nilP : nilCheckA (.ptr 4 0) = some (.ptr 4 0) := rfl
    rw [f53_eq]
    simp only [nilP, fldA_ptr, hld, hbld, hlit, ea, hst, obs, oms]
    rfl
  · have h3 := h2.setBox (fun q hq => by
      simp only [List.mem_cons] at hq
      rcases hq with e | e | e | e | e
      · rw [e]; simp
      · rw [e]; simp
      · rw [e]; simp
      · rw [e]; simp
      · have := h.ids q e; omega) [.mp 0, .mp 1, .mp 2, .mp 3, o']
    have e2 : oP o' (out ++ [(i, j)]) = (o', 2, out.length + 1, out.flatMap encP ++ encP (i, j)) := by simp
    rw [e2]
    exact h3

theorem m183 : cfg.mode 53 = 1 := rfl
theorem m184 : cfg.mode 54 = 1 := rfl

theorem ent184 {zs : List Int} {oz : AV} (hz : (oz, 1, zs.length, zs.map Ia) ∈ llE sp ++ llE fr ∨ (oz = .p nilS ∧ zs = [])) (hzl : zs.length < 2 ^ 20) (j : Int) (h : WS X H o out k0 c0 sp c1 k2 c2 fr c3) (hn : out.length + zs.length < 2 ^ 30) :
    ∃ H' o', O.ent 54 [.ptr 4 0, oz, I j] [] H = some ([], H') ∧ WS X H' o' (out ++ zs.map fun z => (z, j)) k0 c0 sp c1 k2 c2 fr c3 := by
  have hL : ∀ {H : Heap} {o : AV} {out : List P2}, WS X H o out k0 c0 sp c1 k2 c2 fr c3 → Lst 1 oz H zs.length (zs.map Ia) := by
    intro H o out h
    rcases hz with hz | ⟨rfl, rfl⟩
    · exact h.cx.lst _ (List.mem_cons_of_mem _ hz)
    · exact Lst.nil 1 H
  have go : ∀ (t i : Nat) (H : Heap) (o : AV), zs.length - i = t → i ≤ zs.length → WS X H o (out ++ (zs.take i).map fun z => (z, j)) k0 c0 sp c1 k2 c2 fr c3 →
      ∃ H' o', L54_4 [.ptr 4 0, I j, oz, I zs.length, I i] [] H = some ([], H') ∧ WS X H' o' (out ++ zs.map fun z => (z, j)) k0 c0 sp c1 k2 c2 fr c3 := by
    intro t
    induction t with
    | zero =>
      intro i H o ht hi h
      have : i = zs.length := by omega
      subst this
      rw [List.take_length] at h
      refine ⟨H, o, ?_, h⟩
      rw [L54_4_eq]
      simp only [Int.lt_irrefl, obs, oms, bin_add, bin_sub, bin_lss, bin_leq, bin_gtr, bin_geq, bin_eql, bin_neq, bin_eqlB, bin_neqB, un_not, cond_B, gd_B, gd_undef, gdH_B, gdH_undef, pickA_B, extractA_tup, lenA_sl, lenA_row, fldA_fp, fldA_ptr, fldA_rptr, List.getElem?_cons_zero, List.getElem?_cons_succ, decide_true, decide_false, if_true, if_false, Bool.true_eq_false, Bool.false_eq_true, Bool.not_true, Bool.not_false]
      rfl
    | succ t ih =>
      intro i H o ht hi h
      have hi' : i < zs.length := by omega
      have hlt : (i : Int) < zs.length := by omega
      obtain ⟨p, e1, e2⟩ := Lst.ldI (hL h) hi' rfl
      obtain ⟨H1, o1, e3, h1⟩ := ent183 h (by simp; omega) zs[i] j
      have c183 : callA cfg O 53 [.ptr 4 0, I zs[i], I j] [] H = _ := callA_keep m183 e3
      have e4 : (out ++ (zs.take i).map fun z => (z, j)) ++ [(zs[i], j)] = out ++ (zs.take (i + 1)).map fun z => (z, j) := by
        rw [List.take_add_one, List.getElem?_eq_getElem hi', List.map_append, List.append_assoc]
        rfl
      rw [e4] at h1
      obtain ⟨H2, o2, e5, h2⟩ := ih (i + 1) H1 o1 (by omega) (by omega) h1
      refine ⟨H2, o2, ?_, h2⟩
      rw [L54_4_eq]
      simp only [hlt, e1, e2, c183, obs, oms, bin_add, bin_sub, bin_lss, bin_leq, bin_gtr, bin_geq, bin_eql, bin_neq, bin_eqlB, bin_neqB, un_not, cond_B, gd_B, gd_undef, gdH_B, gdH_undef, pickA_B, extractA_tup, lenA_sl, lenA_row, fldA_fp, fldA_ptr, fldA_rptr, List.getElem?_cons_zero, List.getElem?_cons_succ, decide_true, decide_false, if_true, if_false, Bool.true_eq_false, Bool.false_eq_true, Bool.not_true, Bool.not_false]
      rw [wrap_id (by omega), nxt]
      exact e5
  obtain ⟨H', o', e, h'⟩ := go zs.length 0 H o (by omega) (by omega) (by simpa using h)
  refine ⟨H', o', ?_, h'⟩
  rw [f54_eq]
  simp only [(hL h).len, obs]
  exact e

/-- What a place holds: places, if any. -/
def Ag (kvs : List (Kv Int)) (la : Int → Option Int) : Prop := ∀ t, aget kvs t = (la t).map fun n => I n

theorem Ag.put {kvs : List (Kv Int)} {la : Int → Option Int} (h : Ag kvs la) (k n : Int) (c : Nat) : Ag (aput kvs k (I n) c) (fun t => if t = k then some n else la t) := by
  intro t
  rw [aget_put]
  by_cases e : t = k
  · simp only [e, if_true, Option.map_some]
  · simp only [e, if_false]; exact h t

theorem WS.putLast (h : WS X H o out k0 c0 sp c1 k2 c2 fr c3) (t n : Int) : ∃ H' c0', mapUpdA .int (.mp 0) (I t) (I n) [] H = some H' ∧ WS X H' o out (aput k0 t (I n) c0) c0' sp c1 k2 c2 fr c3 := by
  have h1 : Cx H ((0, mI k0 c0) :: (4, .box [.mp 0, .mp 1, .mp 2, .mp 3, o]) :: (1, mI (kvE sp) c1) :: (2, mI k2 c2) :: (3, mI (kvE fr) c3) :: X) (oP o out :: (llE sp ++ llE fr)) :=
    h.cx.mono (fun q hq => by simp only [List.mem_cons] at hq ⊢; rcases hq with e | e | e | e | e | e <;> simp [e]) (List.Sublist.refl _)
  obtain ⟨c', H', e, h2, h3⟩ := h1.mapPut key_int (fun q hq => by
    simp only [List.mem_cons] at hq
    rcases hq with e | e | e | e | e
    · rw [e]; simp
    · rw [e]; simp
    · rw [e]; simp
    · rw [e]; simp
    · have := h.ids q e; omega) h.w0 t (v := I n) (lo := []) rfl
  exact ⟨H', c', e, h2.mono (fun q hq => by simp only [List.mem_cons] at hq ⊢; rcases hq with e | e | e | e | e | e <;> simp [e]) (List.Sublist.refl _), h3, h.w1, h.w2, h.w3, h.ids, h.ro⟩

theorem WS.putOver (h : WS X H o out k0 c0 sp c1 k2 c2 fr c3) (t n : Int) : ∃ H' c2', mapUpdA .int (.mp 2) (I t) (I n) [] H = some H' ∧ WS X H' o out k0 c0 sp c1 (aput k2 t (I n) c2) c2' fr c3 := by
  have h1 : Cx H ((2, mI k2 c2) :: (4, .box [.mp 0, .mp 1, .mp 2, .mp 3, o]) :: (0, mI k0 c0) :: (1, mI (kvE sp) c1) :: (3, mI (kvE fr) c3) :: X) (oP o out :: (llE sp ++ llE fr)) :=
    h.cx.mono (fun q hq => by simp only [List.mem_cons] at hq ⊢; rcases hq with e | e | e | e | e | e <;> simp [e]) (List.Sublist.refl _)
  obtain ⟨c', H', e, h2, h3⟩ := h1.mapPut key_int (fun q hq => by
    simp only [List.mem_cons] at hq
    rcases hq with e | e | e | e | e
    · rw [e]; simp
    · rw [e]; simp
    · rw [e]; simp
    · rw [e]; simp
    · have := h.ids q e; omega) h.w2 t (v := I n) (lo := []) rfl
  exact ⟨H', c', e, h2.mono (fun q hq => by simp only [List.mem_cons] at hq ⊢; rcases hq with e | e | e | e | e | e <;> simp [e]) (List.Sublist.refl _), h.w0, h.w1, h3, h.w3, h.ids, h.ro⟩

theorem WS.sp1 (h : WS X H o out k0 c0 sp c1 k2 c2 fr c3) : Cx H ((1, mI (kvE sp) c1) :: (4, .box [.mp 0, .mp 1, .mp 2, .mp 3, o]) :: (0, mI k0 c0) :: (2, mI k2 c2) :: (3, mI (kvE fr) c3) :: X) ([oP o out] ++ llE sp ++ llE fr) ∧ ∀ q ∈ ((4, .box [.mp 0, .mp 1, .mp 2, .mp 3, o]) :: (0, mI k0 c0) :: (2, mI k2 c2) :: (3, mI (kvE fr) c3) :: X : List (Nat × AObj)), q.1 ≠ 1 := by
  refine ⟨h.cx.mono (fun q hq => by simp only [List.mem_cons] at hq ⊢; rcases hq with e | e | e | e | e | e <;> simp [e]) (List.Sublist.refl _), fun q hq => ?_⟩
  simp only [List.mem_cons] at hq
  rcases hq with e | e | e | e | e
  · rw [e]; simp
  · rw [e]; simp
  · rw [e]; simp
  · rw [e]; simp
  · have := h.ids q e; omega
theorem WS.ofSp {sp' : List (En Int)} {c1' : Nat} {H' : Heap} (h : WS X H o out k0 c0 sp c1 k2 c2 fr c3) (h2 : Cx H' ((1, mI (kvE sp') c1') :: (4, .box [.mp 0, .mp 1, .mp 2, .mp 3, o]) :: (0, mI k0 c0) :: (2, mI k2 c2) :: (3, mI (kvE fr) c3) :: X) ([oP o out] ++ llE sp' ++ llE fr)) (hw : WfM (kvE sp') c1') : WS X H' o out k0 c0 sp' c1' k2 c2 fr c3 :=
  ⟨h2.mono (fun q hq => by simp only [List.mem_cons] at hq ⊢; rcases hq with e | e | e | e | e | e <;> simp [e]) (List.Sublist.refl _), h.w0, hw, h.w2, h.w3, h.ids, h.ro⟩
theorem WS.fr1 (h : WS X H o out k0 c0 sp c1 k2 c2 fr c3) : Cx H ((3, mI (kvE fr) c3) :: (4, .box [.mp 0, .mp 1, .mp 2, .mp 3, o]) :: (0, mI k0 c0) :: (1, mI (kvE sp) c1) :: (2, mI k2 c2) :: X) ((oP o out :: llE sp) ++ llE fr ++ []) ∧ ∀ q ∈ ((4, .box [.mp 0, .mp 1, .mp 2, .mp 3, o]) :: (0, mI k0 c0) :: (1, mI (kvE sp) c1) :: (2, mI k2 c2) :: X : List (Nat × AObj)), q.1 ≠ 3 := by
  refine ⟨h.cx.mono (fun q hq => by simp only [List.mem_cons] at hq ⊢; rcases hq with e | e | e | e | e | e <;> simp [e]) (by simp), fun q hq => ?_⟩
  simp only [List.mem_cons] at hq
  rcases hq with e | e | e | e | e
  · rw [e]; simp
  · rw [e]; simp
  · rw [e]; simp
  · rw [e]; simp
  · have := h.ids q e; omega
theorem WS.ofFr {fr' : List (En Int)} {c3' : Nat} {H' : Heap} (h : WS X H o out k0 c0 sp c1 k2 c2 fr c3) (h2 : Cx H' ((3, mI (kvE fr') c3') :: (4, .box [.mp 0, .mp 1, .mp 2, .mp 3, o]) :: (0, mI k0 c0) :: (1, mI (kvE sp) c1) :: (2, mI k2 c2) :: X) ((oP o out :: llE sp) ++ llE fr' ++ [])) (hw : WfM (kvE fr') c3') : WS X H' o out k0 c0 sp c1 k2 c2 fr' c3' :=
  ⟨h2.mono (fun q hq => by simp only [List.mem_cons] at hq ⊢; rcases hq with e | e | e | e | e | e <;> simp [e]) (by simp), h.w0, h.w1, h.w2, hw, h.ids, h.ro⟩
end
end Cl
end Go.Proofs.Ytfdnamedmjhcfaa

set_option linter.unusedVariables false
set_option linter.unusedSimpArgs false
namespace Go.Proofs.Ytfdnamedmjhcfaa
open Go Go.AM
namespace Cl

def opt1 (x : Option Int) (j : Int) : List P2 := match x with | some i => [(i, j)] | none => []

section
variable {X : List (Nat × AObj)} {H : Heap} {o : AV} {out : List P2} {k0 k2 : List (Kv Int)} {c0 c1 c2 c3 : Nat} {sp fr : List (En Int)}

theorem WS.push (h : WS X H o out k0 c0 sp c1 k2 c2 fr c3) (e : E) (hl : 5 ≤ H.length) : WS ((H.length, bxE e) :: X) (H ++ [bxE e]) o out k0 c0 sp c1 k2 c2 fr c3 := by
  refine ⟨?_, h.w0, h.w1, h.w2, h.w3, fun q hq => ?_, h.ro⟩
  · refine (h.cx.newObj (bxE e) rfl).mono (fun q hq => ?_) (List.Sublist.refl _)
    simp only [List.mem_cons] at hq ⊢
    rcases hq with e | e | e | e | e | e | e <;> simp [e]
  · rcases List.mem_cons.mp hq with e | e
    · rw [e]; exact hl
    · exact h.ids q e

theorem WS.five (h : WS X H o out k0 c0 sp c1 k2 c2 fr c3) : 5 ≤ H.length := by
  have := getElem?_lt (h.cx.at (id := 4) (o := .box [.mp 0, .mp 1, .mp 2, .mp 3, o]) (by simp))
  omega

theorem WS.ldm (h : WS X H o out k0 c0 sp c1 k2 c2 fr c3) : ld false 1 (.ptr 4 (0 + 0)) H = some (.mp 0) ∧ ld false 1 (.ptr 4 (0 + 1)) H = some (.mp 1) ∧ ld false 1 (.ptr 4 (0 + 2)) H = some (.mp 2) ∧ ld false 1 (.ptr 4 (0 + 3)) H = some (.mp 3) ∧ ld false 1 (.ptr 4 (0 + 4)) H = some o := by
  have hb : H[4]? = some (.box [.mp 0, .mp 1, .mp 2, .mp 3, o]) := h.cx.at (by simp)
  refine ⟨?_, ?_, ?_, ?_, ?_⟩ <;> (rw [ld_box hb]; rfl)

theorem nilP4 : nilCheckA (.ptr 4 0) = some (.ptr 4 0) := _root_.id rfl
theorem ex0 (a b : AV) : extractA (.tup [a, b]) 0 = some a := _root_.id rfl
theorem ex1 (a b : AV) : extractA (.tup [a, b]) 1 = some b := _root_.id rfl
theorem lv1 (lo : List Nat) (xs : List AV) (H : Heap) : leave 1 lo xs H = some (xs, H) := _root_.id rfl
theorem bKe {H : Heap} {id : Nat} {e : E} (h : H[id]? = some (bxE e)) : ld false 1 (.ptr id (0 + 0)) H = some (I e.1) := by rw [ld_box h]; rfl
theorem bTe {H : Heap} {id : Nat} {e : E} (h : H[id]? = some (bxE e)) : ld false 1 (.ptr id (0 + 2)) H = some (I e.2.2.1) := by rw [ld_box h]; rfl
theorem bAe {H : Heap} {id : Nat} {e : E} (h : H[id]? = some (bxE e)) : ld false 1 (.ptr id (0 + 6)) H = some (I e.2.2.2.2.2.2.1) := by rw [ld_box h]; rfl

/-- Look for one place, and tell the pair. -/
theorem lookOpt {m : Nat} {kvs : List (Kv Int)} {c : Nat} {la : Int → Option Int} (ho : H[m]? = some (mI kvs c)) (ha : Ag kvs la) (t : Int) : lookA .int (I 0) true (.mp m) (I t) H = some (.tup [I ((la t).getD 0), B (la t).isSome]) := by
  rw [map_look2 key_int ho, ha t, Option.isSome_map]
  cases la t <;> rfl

theorem ent156 (h : WS X H o out k0 c0 sp c1 k2 c2 fr c3) {la ov : Int → Option Int} (hla : Ag k0 la) (hov : Ag k2 ov) (hs : ∀ t, (cont sp t).length < 2 ^ 12) (hf : ∀ t, (cont fr t).length < 2 ^ 12) (hn : out.length < 2 ^ 28) (j : Int) (e : E) :
    ∃ X' H' o' k0' c0' sp' c1' k2' c2' fr' c3', O.ent 39 [.ptr 4 0, I j, avE e] [] H = some ([], H') ∧
      WS X' H' o' (out ++ opt1 (la e.2.2.1) j ++ ((cont sp e.2.2.1).map fun z => (z, j)) ++ (if e.1 = 12 then opt1 (ov e.2.2.2.2.2.2.1) j else if e.1 = 13 then (cont fr e.2.2.2.2.2.2.1).map fun z => (z, j) else [])) k0' c0' sp' c1' k2' c2' fr' c3' ∧
      Ag k0' (fun t => if t = e.2.2.1 then some j else la t) ∧ Ag k2' (fun t => if e.1 = 17 ∧ t = e.2.2.1 then some j else ov t) ∧
      (∀ t, cont sp' t = (if t = e.2.2.1 then [] else cont sp t) ++ if e.1 = 11 ∧ t = e.2.2.2.2.2.2.1 then [j] else []) ∧
      (∀ t, cont fr' t = (if e.1 = 13 ∧ t = e.2.2.2.2.2.2.1 then [] else cont fr t) ++ if e.1 = 14 ∧ t = e.2.2.2.2.2.2.1 then [j] else []) := by
  obtain ⟨K, r1, T, r3, r4, r5, A, r7⟩ := e
  generalize he : ((K, r1, T, r3, r4, r5, A, r7) : E) = e
  have eK : e.1 = K := by rw [← he]
  have eT : e.2.2.1 = T := by rw [← he]
  have eA : e.2.2.2.2.2.2.1 = A := by rw [← he]
  simp only [eK, eT, eA]
  have hp := h.push e h.five
  have hbx : boxO [] (AV.cells (avE e)) H = some (.ptr H.length 0, H ++ [bxE e]) := boxO_p _ H
  generalize hH0 : H ++ [bxE e] = H0 at hp
  generalize hX0 : (H.length, bxE e) :: X = X0 at hp
  generalize hpe : H.length = pe at *
  have gE : ∀ {H : Heap} {o out k0 c0 sp c1 k2 c2 fr c3}, WS X0 H o out k0 c0 sp c1 k2 c2 fr c3 → H[pe]? = some (bxE e) := fun h => h.cx.at (by rw [← hX0]; simp)
  have lT : ∀ {H : Heap} {o out k0 c0 sp c1 k2 c2 fr c3}, WS X0 H o out k0 c0 sp c1 k2 c2 fr c3 → ld false 1 (.ptr pe (0 + 2)) H = some (I T) := fun h => by rw [bTe (gE h), eT]
  have lA : ∀ {H : Heap} {o out k0 c0 sp c1 k2 c2 fr c3}, WS X0 H o out k0 c0 sp c1 k2 c2 fr c3 → ld false 1 (.ptr pe (0 + 6)) H = some (I A) := fun h => by rw [bAe (gE h), eA]
  have lK : ∀ {H : Heap} {o out k0 c0 sp c1 k2 c2 fr c3}, WS X0 H o out k0 c0 sp c1 k2 c2 fr c3 → ld false 1 (.ptr pe (0 + 0)) H = some (I K) := fun h => by rw [bKe (gE h), eK]
  -- from the second half on
  have tail : ∀ (H : Heap) (o : AV) (out : List P2), WS X0 H o out k0 c0 sp c1 k2 c2 fr c3 → out.length < 2 ^ 28 + 1 → ∃ X' H' o' k0' c0' sp' c1' k2' c2' fr' c3', L39_11 [.ptr 4 0, I j, .ptr pe 0] [] H = some ([], H') ∧
      WS X' H' o' (out ++ ((cont sp T).map fun z => (z, j)) ++ (if K = 12 then opt1 (ov A) j else if K = 13 then (cont fr A).map fun z => (z, j) else [])) k0' c0' sp' c1' k2' c2' fr' c3' ∧
      Ag k0' (fun t => if t = T then some j else la t) ∧ Ag k2' (fun t => if K = 17 ∧ t = T then some j else ov t) ∧
      (∀ t, cont sp' t = (if t = T then [] else cont sp t) ++ if K = 11 ∧ t = A then [j] else []) ∧
      (∀ t, cont fr' t = (if K = 13 ∧ t = A then [] else cont fr t) ++ if K = 14 ∧ t = A then [j] else []) := by
    intro H o out h hn
    obtain ⟨a0, a1, a2, a3, a4⟩ := h.ldm
    have hM1 : H[1]? = some (mI (kvE sp) c1) := h.cx.at (by simp)
    obtain ⟨oz, hl1, hz⟩ := mlLook key_int hM1 T
    obtain ⟨H1, o1, e184, h1⟩ := ent184 (zs := cont sp T) (oz := oz) (by
      rcases hz with hz | ⟨h1, h2⟩
      · exact .inl (List.mem_append_left _ hz)
      · exact .inr ⟨h1, h2⟩) (by have := hs T; omega) j h (by have := hs T; omega)
    have c184 : callA cfg O 54 [.ptr 4 0, oz, I j] [] H = _ := callA_keep m184 e184
    obtain ⟨b0, b1, b2, b3, b4⟩ := h1.ldm
    obtain ⟨hx1, hx2⟩ := h1.sp1
    obtain ⟨H2, sp', ed, hx3, hx4, hx5⟩ := mlDel key_int hx1 hx2 h1.w1 T
    have h2 := h1.ofSp hx3 hx4
    obtain ⟨d0, d1, d2, d3, d4⟩ := h2.ldm
    obtain ⟨H3, c0', eu, h3⟩ := h2.putLast T j
    obtain ⟨f0, f1, f2, f3, f4⟩ := h3.ldm
    have hla' := hla.put T j c0
    have hov0 : K ≠ 17 → Ag k2 (fun t => if K = 17 ∧ t = T then some j else ov t) := fun hk t => by
      show _ = Option.map _ (if K = 17 ∧ t = T then some j else ov t)
      rw [if_neg (fun h => hk h.1)]; exact hov t
    have hsp0 : K ≠ 11 → ∀ t, cont sp' t = (if t = T then [] else cont sp t) ++ if K = 11 ∧ t = A then [j] else [] := fun hk t => by
      rw [if_neg (c := K = 11 ∧ t = A) (fun h => hk h.1), List.append_nil]; exact hx5 t
    have hfr0 : K ≠ 13 → K ≠ 14 → ∀ t, cont fr t = (if K = 13 ∧ t = A then [] else cont fr t) ++ if K = 14 ∧ t = A then [j] else [] := fun hk hk2 t => by
      rw [if_neg (c := K = 13 ∧ t = A) (fun h => hk h.1), if_neg (c := K = 14 ∧ t = A) (fun h => hk2 h.1), List.append_nil]
    rw [L39_11_eq]
    by_cases k11 : K = 11
    · obtain ⟨hy1, hy2⟩ := h3.sp1
      obtain ⟨q, q', H4, H5, sp2, c12, p1, p2, p3, p4, p5, p6⟩ := mlApp key_int hy1 hy2 h3.w1 A j (by rw [hx5]; split <;> first | (have := hs A; omega) | simp)
      refine ⟨X0, H5, o1, _, c0', sp2, c12, k2, c2, fr, c3, ?_, ?_, hla', hov0 (by omega), fun t => ?_, hfr0 (by omega) (by omega)⟩
      · have hlit : litP 1 [I j] = some (.p (.sl (some false) true 1 [Ia j])) := rfl
        simp only [nilP4, fldA_ptr, a1, b1, d0, f1, lT h, lT h1, lT h2, lA h3, lK h3, ldS_ptr, hl1, c184, ed, eu, k11, p1, p2, p3, hlit, obs, oms, bin_add, bin_sub, bin_lss, bin_leq, bin_gtr, bin_geq, bin_eql, bin_neq, bin_eqlB, bin_neqB, un_not, cond_B, gd_B, gd_undef, gdH_B, gdH_undef, pickA_B, extractA_tup, lenA_sl, lenA_row, fldA_fp, fldA_ptr, fldA_rptr, List.getElem?_cons_zero, List.getElem?_cons_succ, decide_true, decide_false, if_true, if_false, Bool.true_eq_false, Bool.false_eq_true, Bool.not_true, Bool.not_false, lv1]
      · rw [if_neg (by omega), if_neg (by omega), List.append_nil]
        exact h3.ofSp p4 p5
      · rw [p6 t]
        by_cases ht : t = A
        · rw [if_pos (c := t = A) ht, if_pos (c := K = 11 ∧ t = A) ⟨k11, ht⟩, hx5 A, ht]
        · rw [if_neg (c := t = A) ht, if_neg (c := K = 11 ∧ t = A) (fun h => ht h.2), List.append_nil]; exact hx5 t
    by_cases k17 : K = 17
    · obtain ⟨H4, c2', p1, h4⟩ := h3.putOver T j
      refine ⟨X0, H4, o1, _, c0', sp', c1, AM.aput k2 T (I j) c2, c2', fr, c3, ?_, ?_, hla', ?_, hsp0 k11, hfr0 (by omega) (by omega)⟩
      · have n11 : ¬ (17 : Int) = 11 := by omega
        simp only [nilP4, fldA_ptr, a1, b1, d0, f2, lT h, lT h1, lT h2, lT h3, lA h3, lK h3, hl1, c184, ed, eu, k17, n11, p1, obs, oms, bin_add, bin_sub, bin_lss, bin_leq, bin_gtr, bin_geq, bin_eql, bin_neq, bin_eqlB, bin_neqB, un_not, cond_B, gd_B, gd_undef, gdH_B, gdH_undef, pickA_B, extractA_tup, lenA_sl, lenA_row, fldA_fp, fldA_ptr, fldA_rptr, List.getElem?_cons_zero, List.getElem?_cons_succ, decide_true, decide_false, if_true, if_false, Bool.true_eq_false, Bool.false_eq_true, Bool.not_true, Bool.not_false, lv1]
      · rw [if_neg (by omega), if_neg (by omega), List.append_nil]
        exact h4
      · have := hov.put T j c2
        intro t
        rw [this t]
        simp only [k17, true_and]
    by_cases k12 : K = 12
    · have hM2 : H3[2]? = some (mI k2 c2) := h3.cx.at (by simp)
      have hlo := lookOpt hM2 hov A
      have n11 : ¬ (12 : Int) = 11 := by omega
      have n17 : ¬ (12 : Int) = 17 := by omega
      cases hoA : ov A with
      | none =>
        rw [hoA] at hlo
        refine ⟨X0, H3, o1, _, c0', sp', c1, k2, c2, fr, c3, ?_, ?_, hla', hov0 k17, hsp0 k11, hfr0 (by omega) (by omega)⟩
        · simp only [nilP4, fldA_ptr, a1, b1, d0, f2, lT h, lT h1, lT h2, lT h3, lA h3, lK h3, hl1, c184, ed, eu, k12, n11, n17, hlo, ex0, ex1, Option.isSome_none, obs, oms, bin_add, bin_sub, bin_lss, bin_leq, bin_gtr, bin_geq, bin_eql, bin_neq, bin_eqlB, bin_neqB, un_not, cond_B, gd_B, gd_undef, gdH_B, gdH_undef, pickA_B, extractA_tup, lenA_sl, lenA_row, fldA_fp, fldA_ptr, fldA_rptr, List.getElem?_cons_zero, List.getElem?_cons_succ, decide_true, decide_false, if_true, if_false, Bool.true_eq_false, Bool.false_eq_true, Bool.not_true, Bool.not_false, lv1]
        · rw [if_pos k12]
          simp only [opt1, List.append_nil]
          exact h3
      | some i =>
        rw [hoA] at hlo
        obtain ⟨H4, o4, p1, h4⟩ := ent183 h3 (by have := hs T; simp; omega) i j
        have c183 : callA cfg O 53 [.ptr 4 0, I i, I j] [] H3 = _ := callA_keep m183 p1
        refine ⟨X0, H4, o4, _, c0', sp', c1, k2, c2, fr, c3, ?_, ?_, hla', hov0 k17, hsp0 k11, hfr0 (by omega) (by omega)⟩
        · simp only [nilP4, fldA_ptr, a1, b1, d0, f2, lT h, lT h1, lT h2, lT h3, lA h3, lK h3, hl1, c184, ed, eu, k12, n11, n17, hlo, ex0, ex1, Option.isSome_some, Option.getD_some, c183, obs, oms, bin_add, bin_sub, bin_lss, bin_leq, bin_gtr, bin_geq, bin_eql, bin_neq, bin_eqlB, bin_neqB, un_not, cond_B, gd_B, gd_undef, gdH_B, gdH_undef, pickA_B, extractA_tup, lenA_sl, lenA_row, fldA_fp, fldA_ptr, fldA_rptr, List.getElem?_cons_zero, List.getElem?_cons_succ, decide_true, decide_false, if_true, if_false, Bool.true_eq_false, Bool.false_eq_true, Bool.not_true, Bool.not_false, lv1]
        · rw [if_pos k12]
          exact h4
    by_cases k14 : K = 14
    · obtain ⟨hy1, hy2⟩ := h3.fr1
      obtain ⟨q, q', H4, H5, fr2, c32, p1, p2, p3, p4, p5, p6⟩ := mlApp key_int hy1 hy2 h3.w3 A j (by have := hf A; omega)
      have n11 : ¬ (14 : Int) = 11 := by omega
      have n17 : ¬ (14 : Int) = 17 := by omega
      have n12 : ¬ (14 : Int) = 12 := by omega
      refine ⟨X0, H5, o1, _, c0', sp', c1, k2, c2, fr2, c32, ?_, ?_, hla', hov0 k17, hsp0 k11, fun t => ?_⟩
      · have hlit : litP 1 [I j] = some (.p (.sl (some false) true 1 [Ia j])) := rfl
        simp only [nilP4, fldA_ptr, a1, b1, d0, f3, lT h, lT h1, lT h2, lT h3, lA h3, lK h3, ldS_ptr, hl1, c184, ed, eu, k14, n11, n17, n12, p1, p2, p3, hlit, obs, oms, bin_add, bin_sub, bin_lss, bin_leq, bin_gtr, bin_geq, bin_eql, bin_neq, bin_eqlB, bin_neqB, un_not, cond_B, gd_B, gd_undef, gdH_B, gdH_undef, pickA_B, extractA_tup, lenA_sl, lenA_row, fldA_fp, fldA_ptr, fldA_rptr, List.getElem?_cons_zero, List.getElem?_cons_succ, decide_true, decide_false, if_true, if_false, Bool.true_eq_false, Bool.false_eq_true, Bool.not_true, Bool.not_false, lv1]
      · rw [if_neg k12, if_neg (by omega), List.append_nil]
        exact h3.ofFr p4 p5
      · rw [p6 t, if_neg (c := K = 13 ∧ t = A) (fun h => by omega)]
        by_cases ht : t = A
        · rw [if_pos (c := t = A) ht, if_pos (c := K = 14 ∧ t = A) ⟨k14, ht⟩, ht]
        · rw [if_neg (c := t = A) ht, if_neg (c := K = 14 ∧ t = A) (fun h => ht h.2), List.append_nil]
    by_cases k13 : K = 13
    · have hM3 : H3[3]? = some (mI (kvE fr) c3) := h3.cx.at (by simp)
      obtain ⟨ow, hl3, hw⟩ := mlLook key_int hM3 A
      obtain ⟨H4, o4, p1, h4⟩ := ent184 (zs := cont fr A) (oz := ow) (by
        rcases hw with hw | ⟨h1, h2⟩
        · exact .inl (List.mem_append_right _ hw)
        · exact .inr ⟨h1, h2⟩) (by have := hf A; omega) j h3 (by have := hf A; have := hs T; simp; omega)
      have c184' : callA cfg O 54 [.ptr 4 0, ow, I j] [] H3 = _ := callA_keep m184 p1
      obtain ⟨g0, g1, g2, g3, g4⟩ := h4.ldm
      obtain ⟨hy1, hy2⟩ := h4.fr1
      obtain ⟨H5, fr', ed2, hx6, hx7, hx8⟩ := mlDel key_int hy1 hy2 h4.w3 A
      have n11 : ¬ (13 : Int) = 11 := by omega
      have n17 : ¬ (13 : Int) = 17 := by omega
      have n12 : ¬ (13 : Int) = 12 := by omega
      have n14 : ¬ (13 : Int) = 14 := by omega
      refine ⟨X0, H5, o4, _, c0', sp', c1, k2, c2, fr', c3, ?_, ?_, hla', hov0 k17, hsp0 k11, fun t => ?_⟩
      · simp only [nilP4, fldA_ptr, a1, b1, d0, f3, g3, lT h, lT h1, lT h2, lT h3, lA h3, lA h4, lK h3, ldS_ptr, hl1, c184, ed, eu, k13, n11, n17, n12, n14, hl3, c184', ed2, obs, oms, bin_add, bin_sub, bin_lss, bin_leq, bin_gtr, bin_geq, bin_eql, bin_neq, bin_eqlB, bin_neqB, un_not, cond_B, gd_B, gd_undef, gdH_B, gdH_undef, pickA_B, extractA_tup, lenA_sl, lenA_row, fldA_fp, fldA_ptr, fldA_rptr, List.getElem?_cons_zero, List.getElem?_cons_succ, decide_true, decide_false, if_true, if_false, Bool.true_eq_false, Bool.false_eq_true, Bool.not_true, Bool.not_false, lv1]
      · rw [if_neg k12, if_pos k13]
        exact h4.ofFr hx6 hx7
      · rw [hx8]
        simp [k13]
    · refine ⟨X0, H3, o1, _, c0', sp', c1, k2, c2, fr, c3, ?_, ?_, hla', hov0 k17, hsp0 k11, hfr0 k13 k14⟩
      · simp only [nilP4, fldA_ptr, a1, b1, d0, f3, lT h, lT h1, lT h2, lT h3, lA h3, lK h3, hl1, c184, ed, eu, k11, k17, k12, k14, k13, obs, oms, bin_add, bin_sub, bin_lss, bin_leq, bin_gtr, bin_geq, bin_eql, bin_neq, bin_eqlB, bin_neqB, un_not, cond_B, gd_B, gd_undef, gdH_B, gdH_undef, pickA_B, extractA_tup, lenA_sl, lenA_row, fldA_fp, fldA_ptr, fldA_rptr, List.getElem?_cons_zero, List.getElem?_cons_succ, decide_true, decide_false, if_true, if_false, Bool.true_eq_false, Bool.false_eq_true, Bool.not_true, Bool.not_false, lv1]
      · rw [if_neg k12, if_neg k13, List.append_nil]
        exact h3
  -- the first half
  obtain ⟨a0, a1, a2, a3, a4⟩ := hp.ldm
  have hM0 : H0[0]? = some (mI k0 c0) := hp.cx.at (by simp)
  have hlo := lookOpt hM0 hla T
  rw [f39_eq]
  cases hlT : la T with
  | none =>
    rw [hlT] at hlo
    obtain ⟨X', H', o', k0', c0', sp', c1', k2', c2', fr', c3', q1, q2, q3⟩ := tail H0 o out hp (by omega)
    refine ⟨X', H', o', k0', c0', sp', c1', k2', c2', fr', c3', ?_, ?_, q3⟩
    · simp only [hbx, hH0, nilP4, fldA_ptr, a0, lT hp, hlo, ex0, ex1, Option.isSome_none, obs, oms, bin_add, bin_sub, bin_lss, bin_leq, bin_gtr, bin_geq, bin_eql, bin_neq, bin_eqlB, bin_neqB, un_not, cond_B, gd_B, gd_undef, gdH_B, gdH_undef, pickA_B, extractA_tup, lenA_sl, lenA_row, fldA_fp, fldA_ptr, fldA_rptr, List.getElem?_cons_zero, List.getElem?_cons_succ, decide_true, decide_false, if_true, if_false, Bool.true_eq_false, Bool.false_eq_true, Bool.not_true, Bool.not_false, q1]
    · simp only [opt1, List.append_nil]; exact q2
  | some i =>
    rw [hlT] at hlo
    obtain ⟨H1, o1, p1, h1⟩ := ent183 hp (by omega) i j
    have c183 : callA cfg O 53 [.ptr 4 0, I i, I j] [] H0 = _ := callA_keep m183 p1
    obtain ⟨X', H', o', k0', c0', sp', c1', k2', c2', fr', c3', q1, q2, q3⟩ := tail H1 o1 (out ++ [(i, j)]) h1 (by simp; omega)
    refine ⟨X', H', o', k0', c0', sp', c1', k2', c2', fr', c3', ?_, ?_, q3⟩
    · simp only [hbx, hH0, nilP4, fldA_ptr, a0, lT hp, hlo, ex0, ex1, Option.isSome_some, Option.getD_some, c183, obs, oms, bin_add, bin_sub, bin_lss, bin_leq, bin_gtr, bin_geq, bin_eql, bin_neq, bin_eqlB, bin_neqB, un_not, cond_B, gd_B, gd_undef, gdH_B, gdH_undef, pickA_B, extractA_tup, lenA_sl, lenA_row, fldA_fp, fldA_ptr, fldA_rptr, List.getElem?_cons_zero, List.getElem?_cons_succ, decide_true, decide_false, if_true, if_false, Bool.true_eq_false, Bool.false_eq_true, Bool.not_true, Bool.not_false, q1]
    · exact q2
end
end Cl
end Go.Proofs.Ytfdnamedmjhcfaa

set_option linter.unusedVariables false
set_option linter.unusedSimpArgs false
namespace Go.Proofs.Ytfdnamedmjhcfaa
open Go Go.AM
namespace Cl

/-- The last place below j at which p holds. -/
def LastP (p : Nat → Prop) (j : Nat) (o : Option Int) : Prop := ∀ x, o = some x ↔ ∃ i : Nat, x = i ∧ i < j ∧ p i ∧ ∀ k, i < k → k < j → ¬ p k

theorem LastP.zero (p : Nat → Prop) : LastP p 0 none := fun x => ⟨fun h => (by cases h), fun ⟨i, _, h, _⟩ => by omega⟩
theorem LastP.step {p : Nat → Prop} {j : Nat} {o : Option Int} [Decidable (p j)] (h : LastP p j o) : LastP p (j + 1) (if p j then some (j : Int) else o) := by
  intro x
  by_cases hp : p j
  · rw [if_pos hp]
    constructor
    · intro e; cases e; exact ⟨j, rfl, by omega, hp, fun k h1 h2 => by omega⟩
    · rintro ⟨i, rfl, h1, h2, h3⟩
      by_cases e : i = j
      · rw [e]
      · exact (h3 j (by omega) (by omega) hp).elim
  · rw [if_neg hp, h x]
    constructor
    · rintro ⟨i, e, h1, h2, h3⟩
      refine ⟨i, e, by omega, h2, fun k h4 h5 => ?_⟩
      by_cases e2 : k = j
      · rw [e2]; exact hp
      · exact h3 k h4 (by omega)
    · rintro ⟨i, e, h1, h2, h3⟩
      have : i ≠ j := fun e2 => hp (e2 ▸ h2)
      exact ⟨i, e, by omega, h2, fun k h4 h5 => h3 k h4 (by omega)⟩

/-- The places that wait: a made each, and b has undone none since. -/
noncomputable def Wt (a b : Nat → Prop) (j : Nat) : List Int := flt (fun i => dec (a i ∧ ∀ k, i < k → k < j → ¬ b k)) j

theorem flt_none (n : Nat) : flt (fun _ => false) n = [] := by
  induction n with
  | zero => rfl
  | succ n ih => rw [flt_succ, ih]; rfl

theorem Wt_step {a b : Nat → Prop} {j : Nat} [Decidable (a j)] [Decidable (b j)] : Wt a b (j + 1) = (if b j then [] else Wt a b j) ++ if a j then [(j : Int)] else [] := by
  unfold Wt
  rw [flt_succ]
  congr 1
  · by_cases hb : b j
    · rw [if_pos hb, flt_congr (q := fun _ => false), flt_none]
      intro i hi
      cases h : dec (a i ∧ ∀ k, i < k → k < j + 1 → ¬ b k) with
      | false => rfl
      | true => exact ((dec_iff.mp h).2 j hi (by omega) hb).elim
    · rw [if_neg hb]
      refine flt_congr fun i hi => dec_congr ⟨fun h => ⟨h.1, fun k h1 h2 => h.2 k h1 (by omega)⟩, fun h => ⟨h.1, fun k h1 h2 => ?_⟩⟩
      by_cases e : k = j
      · rw [e]; exact hb
      · exact h.2 k h1 (by omega)
  · have e : dec (a j ∧ ∀ k, j < k → k < j + 1 → ¬ b k) = true ↔ a j := by
      rw [dec_iff]
      exact ⟨fun h => h.1, fun h => ⟨h, fun k h1 h2 => by omega⟩⟩
    by_cases ha : a j
    · rw [if_pos ha, if_pos (e.mpr ha)]
    · rw [if_neg ha, if_neg fun h => ha (e.mp h)]

theorem mem_flt {p : Nat → Bool} {n : Nat} {x : Int} : x ∈ flt p n ↔ ∃ i : Nat, x = i ∧ i < n ∧ p i = true := by
  unfold flt
  simp only [List.mem_map, List.mem_filter, List.mem_range]
  constructor
  · rintro ⟨i, ⟨h1, h2⟩, h3⟩; exact ⟨i, h3.symm, h1, h2⟩
  · rintro ⟨i, h3, h1, h2⟩; exact ⟨i, ⟨h1, h2⟩, h3.symm⟩
theorem mem_Wt {a b : Nat → Prop} {j : Nat} {x : Int} : x ∈ Wt a b j ↔ ∃ i : Nat, x = i ∧ i < j ∧ a i ∧ ∀ k, i < k → k < j → ¬ b k := by
  unfold Wt
  rw [mem_flt]
  simp only [dec_iff]

section
variable {l : List E}

/-- Where a weaver stands after j events. -/
structure IV (l : List E) (j : Nat) (la ov : Int → Option Int) (sp fr : List (En Int)) (out : List P2) : Prop where
  la : ∀ t, LastP (fun i => Th l i = t) j (la t)
  ov : ∀ t, LastP (fun i => Kn l i = 17 ∧ Th l i = t) j (ov t)
  sp : ∀ t, cont sp t = Wt (fun i => Kn l i = 11 ∧ Ea l i = t) (fun k => Th l k = t) j
  fr : ∀ t, cont fr t = Wt (fun i => Kn l i = 14 ∧ Ea l i = t) (fun k => Kn l k = 13 ∧ Ea l k = t) j
  mem : ∀ p : P2, p ∈ out ↔ ∃ i y : Nat, p = ((i : Int), (y : Int)) ∧ y < j ∧ ED l i y
  len : out.length ≤ j * 500

theorem mem_opt1 {o : Option Int} {p : Nat → Prop} {j : Nat} (h : LastP p j o) (q : P2) : q ∈ opt1 o j ↔ ∃ i : Nat, q = ((i : Int), (j : Int)) ∧ i < j ∧ p i ∧ ∀ k, i < k → k < j → ¬ p k := by
  cases o with
  | none =>
    simp only [opt1, List.not_mem_nil, false_iff]
    rintro ⟨i, _, h1⟩
    have := (h i).mpr ⟨i, rfl, h1⟩
    cases this
  | some x =>
    obtain ⟨i, rfl, h1⟩ := (h x).mp rfl
    simp only [opt1, List.mem_singleton]
    constructor
    · rintro rfl; exact ⟨i, rfl, h1⟩
    · rintro ⟨i', rfl, h2⟩
      have := (h i').mpr ⟨i', rfl, h2⟩
      cases this
      rfl
theorem Wt_len (a b : Nat → Prop) (j : Nat) : (Wt a b j).length ≤ j := flt_len _ _
theorem mem_wt1 {a b : Nat → Prop} {j : Nat} (q : P2) : q ∈ (Wt a b j).map (fun z => (z, (j : Int))) ↔ ∃ i : Nat, q = ((i : Int), (j : Int)) ∧ i < j ∧ a i ∧ ∀ k, i < k → k < j → ¬ b k := by
  simp only [List.mem_map, mem_Wt]
  constructor
  · rintro ⟨x, ⟨i, rfl, h⟩, rfl⟩; exact ⟨i, rfl, h⟩
  · rintro ⟨i, rfl, h⟩; exact ⟨i, ⟨i, rfl, h⟩, rfl⟩

theorem opt1_len (o : Option Int) (j : Int) : (opt1 o j).length ≤ 1 := by cases o <;> simp [opt1]

theorem IV.step {j : Nat} {la ov la' ov' : Int → Option Int} {sp fr sp' fr' : List (En Int)} {out : List P2} (h : IV l j la ov sp fr out) (hj : j < 200)
    (hla : la' = fun t => if t = Th l j then some (j : Int) else la t) (hov : ov' = fun t => if Kn l j = 17 ∧ t = Th l j then some (j : Int) else ov t)
    (hsp : ∀ t, cont sp' t = (if t = Th l j then [] else cont sp t) ++ if Kn l j = 11 ∧ t = Ea l j then [(j : Int)] else [])
    (hfr : ∀ t, cont fr' t = (if Kn l j = 13 ∧ t = Ea l j then [] else cont fr t) ++ if Kn l j = 14 ∧ t = Ea l j then [(j : Int)] else []) :
    IV l (j + 1) la' ov' sp' fr' (out ++ opt1 (la (Th l j)) j ++ ((cont sp (Th l j)).map fun z => (z, (j : Int))) ++ (if Kn l j = 12 then opt1 (ov (Ea l j)) j else if Kn l j = 13 then (cont fr (Ea l j)).map fun z => (z, (j : Int)) else [])) := by
  have sy : ∀ {a b : Int}, (a = b) = (b = a) := fun {a b} => propext ⟨Eq.symm, Eq.symm⟩
  refine ⟨fun t => ?_, fun t => ?_, fun t => ?_, fun t => ?_, fun p => ?_, ?_⟩
  · have := (h.la t).step
    rw [hla]
    simp only [sy (a := t)]
    exact this
  · have := (h.ov t).step
    rw [hov]
    simp only [sy (a := t)]
    exact this
  · rw [Wt_step, hsp, h.sp]
    simp only [sy (a := t)]
  · rw [Wt_step, hfr, h.fr]
    simp only [sy (a := t)]
  · have key : p ∈ opt1 (la (Th l j)) j ++ ((cont sp (Th l j)).map fun z => (z, (j : Int))) ++ (if Kn l j = 12 then opt1 (ov (Ea l j)) j else if Kn l j = 13 then (cont fr (Ea l j)).map fun z => (z, (j : Int)) else []) ↔ ∃ i : Nat, p = ((i : Int), (j : Int)) ∧ ED l i j := by
      have e1 := mem_opt1 (h.la (Th l j)) p
      have e2 : p ∈ (cont sp (Th l j)).map (fun z => (z, (j : Int))) ↔ ∃ i : Nat, p = ((i : Int), (j : Int)) ∧ i < j ∧ (Kn l i = 11 ∧ Ea l i = Th l j) ∧ ∀ k, i < k → k < j → ¬ Th l k = Th l j := by rw [h.sp]; exact mem_wt1 p
      have e3 : p ∈ (if Kn l j = 12 then opt1 (ov (Ea l j)) j else if Kn l j = 13 then (cont fr (Ea l j)).map fun z => (z, (j : Int)) else []) ↔ ∃ i : Nat, p = ((i : Int), (j : Int)) ∧ i < j ∧ (OV l i j ∨ FR l i j) := by
        by_cases k12 : Kn l j = 12
        · rw [if_pos k12, mem_opt1 (h.ov (Ea l j)) p]
          constructor
          · rintro ⟨i, e, h1, ⟨h2, h3⟩, h4⟩
            exact ⟨i, e, h1, .inl ⟨⟨⟨h2, k12⟩, h3.symm⟩, fun k h5 h6 h7 => h4 k h5 h6 ⟨h7.1, h7.2.trans h3⟩⟩⟩
          · rintro ⟨i, e, h1, ⟨⟨⟨h2, _⟩, h3⟩, h4⟩ | ⟨⟨⟨_, h5⟩, _⟩, _⟩⟩
            · exact ⟨i, e, h1, ⟨h2, h3.symm⟩, fun k h5 h6 h7 => h4 k h5 h6 ⟨h7.1, h7.2.trans h3⟩⟩
            · omega
        · rw [if_neg k12]
          by_cases k13 : Kn l j = 13
          · rw [if_pos k13, h.fr, mem_wt1]
            constructor
            · rintro ⟨i, e, h1, ⟨h2, h3⟩, h4⟩
              exact ⟨i, e, h1, .inr ⟨⟨⟨h2, k13⟩, h3⟩, fun k h5 h6 h7 => h4 k h5 h6 ⟨h7.1, h7.2.trans h3⟩⟩⟩
            · rintro ⟨i, e, h1, ⟨⟨⟨_, h2⟩, _⟩, _⟩ | ⟨⟨⟨h5, _⟩, h6⟩, h7⟩⟩
              · omega
              · exact ⟨i, e, h1, ⟨h5, h6⟩, fun k h8 h9 h10 => h7 k h8 h9 ⟨h10.1, h10.2.trans h6.symm⟩⟩
          · rw [if_neg k13]
            simp only [List.not_mem_nil, false_iff]
            rintro ⟨i, e, h1, ⟨⟨⟨_, h2⟩, _⟩, _⟩ | ⟨⟨⟨_, h2⟩, _⟩, _⟩⟩ <;> omega
      rw [List.mem_append, List.mem_append, e1, e2, e3]
      constructor
      · rintro ((⟨i, e, h1, h2, h3⟩ | ⟨i, e, h1, h2, h3⟩) | ⟨i, e, h1, h2⟩)
        · exact ⟨i, e, h1, .inl ⟨h2, h3⟩⟩
        · exact ⟨i, e, h1, .inr (.inl ⟨h2, h3⟩)⟩
        · exact ⟨i, e, h1, .inr (.inr h2)⟩
      · rintro ⟨i, e, h1, h2 | h2 | h2⟩
        · exact .inl (.inl ⟨i, e, h1, h2.1, h2.2⟩)
        · exact .inl (.inr ⟨i, e, h1, h2.1, h2.2⟩)
        · exact .inr ⟨i, e, h1, h2⟩
    rw [List.append_assoc, List.append_assoc, List.mem_append, ← List.append_assoc, key, h.mem]
    constructor
    · rintro (⟨i, y, e, h1, h2⟩ | ⟨i, e, h2⟩)
      · exact ⟨i, y, e, by omega, h2⟩
      · exact ⟨i, j, e, by omega, h2⟩
    · rintro ⟨i, y, e, h1, h2⟩
      by_cases hy : y = j
      · subst hy; exact .inr ⟨i, e, h2⟩
      · exact .inl ⟨i, y, e, by omega, h2⟩
  · have a1 := opt1_len (la (Th l j)) j
    have a2 : (cont sp (Th l j)).length ≤ j := by rw [h.sp]; exact flt_len _ _
    have a3 : (if Kn l j = 12 then opt1 (ov (Ea l j)) j else if Kn l j = 13 then (cont fr (Ea l j)).map fun z => (z, (j : Int)) else [] : List P2).length ≤ j + 1 := by
      split
      · have := opt1_len (ov (Ea l j)) j; omega
      · split
        · rw [List.length_map, h.fr]
          exact Nat.le_succ_of_le (flt_len _ _)
        · simp
    have a4 := h.len
    simp only [List.length_append, List.length_map]
    omega

theorem m156 : cfg.mode 39 = 1 := rfl

theorem loop128 {nl : Option Bool} {tg : Bool} (hl : l.length ≤ 200) : ∀ (c j : Nat) (X : List (Nat × AObj)) (H : Heap) (o : AV) (out : List P2) (k0 : List (Kv Int)) (c0 : Nat) (sp : List (En Int)) (c1 : Nat) (k2 : List (Kv Int)) (c2 : Nat) (fr : List (En Int)) (c3 : Nat) (la ov : Int → Option Int),
    l.length - j = c → j ≤ l.length → WS X H o out k0 c0 sp c1 k2 c2 fr c3 → Ag k0 la → Ag k2 ov → IV l j la ov sp fr out →
    ∃ X' H' o' out' k0' c0' sp' c1' k2' c2' fr' c3', L29_8 [.ptr 4 0, Rw enc nl tg l, I l.length, I j] [] H = L29_8 [.ptr 4 0, Rw enc nl tg l, I l.length, I l.length] [] H' ∧
      WS X' H' o' out' k0' c0' sp' c1' k2' c2' fr' c3' ∧ (∀ p : P2, p ∈ out' ↔ ∃ i y : Nat, p = ((i : Int), (y : Int)) ∧ y < l.length ∧ ED l i y) ∧ out'.length ≤ 100000 := by
  intro c
  induction c with
  | zero =>
    intro j X H o out k0 c0 sp c1 k2 c2 fr c3 la ov hc hj h hla hov hi
    have : j = l.length := by omega
    subst this
    exact ⟨X, H, o, out, k0, c0, sp, c1, k2, c2, fr, c3, rfl, h, hi.mem, by have := hi.len; omega⟩
  | succ c ih =>
    intro j X H o out k0 c0 sp c1 k2 c2 fr c3 la ov hc hj h hla hov hi
    have hj' : j < l.length := by omega
    have hlt : (j : Int) < l.length := by omega
    have hp := h.push (l.getD j z0) h.five
    obtain ⟨X1, H1, o1, k0', c0', sp', c1', k2', c2', fr', c3', e1, h1, h2, h3, h4, h5⟩ := ent156 hp hla hov
      (fun t => by rw [hi.sp]; exact Nat.lt_of_le_of_lt (flt_len _ _) (by omega)) (fun t => by rw [hi.fr]; exact Nat.lt_of_le_of_lt (flt_len _ _) (by omega)) (by have := hi.len; omega) (j : Int) (l.getD j z0)
    have hi' := hi.step (la' := fun t => if t = Th l j then some (j : Int) else la t) (ov' := fun t => if Kn l j = 17 ∧ t = Th l j then some (j : Int) else ov t) (by omega) rfl rfl h4 h5
    obtain ⟨X2, H2, o2, out2, k0'', c0'', sp'', c1'', k2'', c2'', fr'', c3'', e2, r⟩ := ih (j + 1) X1 H1 o1 _ k0' c0' sp' c1' k2' c2' fr' c3' _ _ (by omega) (by omega) h1 h2 h3 hi'
    refine ⟨X2, H2, o2, out2, k0'', c0'', sp'', c1'', k2'', c2'', fr'', c3'', ?_, r⟩
    rw [← e2, L29_8_eq]
    have c156 : callA cfg O 39 [.ptr 4 0, I j, avE (l.getD j z0)] [] (H ++ [bxE (l.getD j z0)]) = _ := callA_keep m156 e1
    have z12 : ([(I 0), (I 0), (I 0), (I 0), (I 0), (I 0), (I 0), (I 0), (I 0), (I 0), (I 0), (I 0)] : List AV) = (List.replicate 12 (Ia 0)).map .p := rfl
    have hs : stA 12 (.ptr H.length 0) (avE (l.getD j z0)) [] (H ++ [.box ((List.replicate 12 (Ia 0)).map .p)]) = some (H ++ [bxE (l.getD j z0)]) := stA_new rfl rfl (by omega)
    have hl2 : ld true 12 (.ptr H.length 0) (H ++ [bxE (l.getD j z0)]) = some (avE (l.getD j z0)) := ldEA rfl (by omega)
    simp only [hlt, idxE hj', ldEv hj', z12, boxE, hs, hl2, c156, obs, oms, bin_add, bin_sub, bin_lss, bin_leq, bin_gtr, bin_geq, bin_eql, bin_neq, bin_eqlB, bin_neqB, un_not, cond_B, gd_B, gd_undef, gdH_B, gdH_undef, pickA_B, extractA_tup, lenA_sl, lenA_row, fldA_fp, fldA_ptr, fldA_rptr, List.getElem?_cons_zero, List.getElem?_cons_succ, decide_true, decide_false, if_true, if_false, Bool.true_eq_false, Bool.false_eq_true, Bool.not_true, Bool.not_false]
    rw [wrap_id (by omega), nxt]
end
end Cl
end Go.Proofs.Ytfdnamedmjhcfaa

set_option linter.unusedVariables false
set_option linter.unusedSimpArgs false
namespace Go.Proofs.Ytfdnamedmjhcfaa
open Go Go.AM
namespace Cl

/-! ### Neighbours alike are one -/
def ddf (p : P2) : List P2 → List P2
  | [] => []
  | y :: r => if y = p then ddf y r else y :: ddf y r
def dd : List P2 → List P2
  | [] => []
  | x :: r => x :: ddf x r
def plt (x y : P2) : Prop := x.2 < y.2 ∨ (x.2 = y.2 ∧ x.1 < y.1)
theorem plt_trans {x y z : P2} (h1 : plt x y) (h2 : plt y z) : plt x z := by unfold plt at *; omega
theorem plt_irr (x : P2) : ¬ plt x x := by unfold plt; omega
theorem plt_tri {x y : P2} (h1 : ¬ plt y x) (h2 : y ≠ x) : plt x y := by
  unfold plt at *
  have : ¬ (y.1 = x.1 ∧ y.2 = x.2) := fun h => h2 (Prod.ext h.1 h.2)
  omega

theorem ddf_snoc : ∀ (r : List P2) (p y : P2), ddf p (r ++ [y]) = ddf p r ++ if y = r.getLastD p then [] else [y] := by
  intro r
  induction r with
  | nil =>
    intro p y
    by_cases e : y = p <;> simp [ddf, e]
  | cons z r ih =>
    intro p y
    have e : (z :: r).getLastD p = r.getLastD z := by cases r <;> rfl
    rw [e, List.cons_append]
    unfold ddf
    rw [ih z y]
    split <;> rfl
theorem lastD_take : ∀ (r : List P2) (x : P2) (m : Nat), m ≤ r.length → (x :: r)[m]? = some ((r.take m).getLastD x) := by
  intro r
  induction r with
  | nil => intro x m h; have : m = 0 := by simpa using h
           subst this; rfl
  | cons z r ih =>
    intro x m h
    cases m with
    | zero => rfl
    | succ m =>
      have := ih z m (by simpa using h)
      rw [List.getElem?_cons_succ, this, List.take_succ_cons]
      cases r.take m <;> rfl
theorem dd_step {l : List P2} {m : Nat} (h0 : 0 < m) (h : m < l.length) : dd (l.take (m + 1)) = dd (l.take m) ++ if l[m] = l[m - 1] then [] else [l[m]] := by
  cases l with
  | nil => cases h
  | cons x r =>
    obtain ⟨m, rfl⟩ : ∃ k, m = k + 1 := ⟨m - 1, by omega⟩
    have hm : m < r.length := by simpa using h
    have h1 := lastD_take r x m (by omega)
    have h2 : (x :: r)[m + 1 - 1] = (r.take m).getLastD x := by
      have h3 : (x :: r)[m]'(by simp; omega) = (r.take m).getLastD x := by
        rw [List.getElem?_eq_getElem (by simp; omega)] at h1
        exact Option.some.inj h1
      exact h3
    rw [h2, List.take_succ_cons, List.take_succ_cons, List.take_add_one, List.getElem?_eq_getElem hm]
    simp only [dd, Option.toList_some, ddf_snoc, List.cons_append, List.getElem_cons_succ]
theorem dd_one {l : List P2} (h : 0 < l.length) : dd (l.take 1) = l.take 1 := by
  cases l with
  | nil => cases h
  | cons x r => rfl
theorem mem_ddf : ∀ (r : List P2) (p q : P2), q ∈ p :: ddf p r ↔ q ∈ p :: r := by
  intro r
  induction r with
  | nil => intro p q; rfl
  | cons y r ih =>
    intro p q
    unfold ddf
    split
    · rename_i e; subst e
      rw [ih y q]; simp
    · have := ih y q
      rw [List.mem_cons, this, ← List.mem_cons]
theorem mem_dd (l : List P2) (q : P2) : q ∈ dd l ↔ q ∈ l := by
  cases l with
  | nil => rfl
  | cons x r => exact mem_ddf r x q
theorem dd_sorted {l : List P2} (h : l.Pairwise fun x y => ¬ plt y x) : (dd l).Pairwise plt := by
  cases l with
  | nil => exact .nil
  | cons x r =>
    have key : ∀ (r : List P2) (x : P2), (x :: r).Pairwise (fun x y => ¬ plt y x) → (x :: ddf x r).Pairwise plt := by
      intro r
      induction r with
      | nil => intro x _; exact List.pairwise_singleton ..
      | cons y r ih =>
        intro x h
        obtain ⟨h1, h2⟩ := List.pairwise_cons.mp h
        have h3 := ih y h2
        unfold ddf
        split
        · rename_i e; subst e; exact h3
        · rename_i e
          have hxy := plt_tri (h1 y (by simp)) e
          refine List.pairwise_cons.mpr ⟨fun z hz => ?_, h3⟩
          rcases List.mem_cons.mp hz with e2 | e2
          · rw [e2]; exact hxy
          · exact plt_trans hxy ((List.pairwise_cons.mp h3).1 z e2)
    exact key r x h
theorem plt_uniq {l l' : List P2} (h : l.Pairwise plt) (h' : l'.Pairwise plt) (hm : ∀ p, p ∈ l ↔ p ∈ l') : l = l' := by
  have nd : ∀ {l : List P2}, l.Pairwise plt → l.Nodup := fun h => List.nodup_iff_pairwise_ne.mpr (List.Pairwise.imp (fun {a b} (h : plt a b) (e : a = b) => plt_irr a (by rw [← e] at h; exact h)) h)
  have hp : l.Perm l' := (List.perm_ext_iff_of_nodup (nd h) (nd h')).mpr hm
  exact hp.eq_of_pairwise (fun a b _ _ h1 h2 => (plt_irr a (plt_trans h1 h2)).elim) h h'

/-! ### Compact -/
section
variable {l : List P2} {id g : Nat} {H : Heap}
abbrev rP (l : List P2) (g : Nat) : AObj := .row g 2 (l.flatMap encP)
def avP (p : P2) : AV := .agg ((encP p).map .p)
theorem eqP (x y : P2) : bin .eql (.agg 2 [(0, .int), (1, .int)]) (avP x) (avP y) = some (B (decide (x = y))) := by
  have e : decide (x = y) = (decide (x.1 = y.1) && (decide (x.2 = y.2) && true)) := by
    rw [Bool.eq_iff_iff]; simp [Prod.ext_iff]
  rw [e]
  rfl
theorem neP (x y : P2) : bin .neq (.agg 2 [(0, .int), (1, .int)]) (avP x) (avP y) = some (B (!decide (x = y))) := by
  have e : decide (x = y) = (decide (x.1 = y.1) && (decide (x.2 = y.2) && true)) := by
    rw [Bool.eq_iff_iff]; simp [Prod.ext_iff]
  rw [e]
  rfl
theorem rP_ld (ho : H[id]? = some (rP l g)) {i : Nat} (h : i < l.length) : ld true 2 (.rptr id g (i * 2)) H = some (avP l[i]) := rowA len2 ho h
theorem rP_st (ho : H[id]? = some (rP l g)) {i : Nat} (h : i < l.length) (x : P2) (lo : List Nat) : stA 2 (.rptr id g (i * 2)) (avP x) lo H = some (H.set id (rP (l.set i x) g)) := by
  have hl : (l.flatMap encP).length = l.length * 2 := rows_length len2 l
  have hp : toPVs H (avP x).cells = some (encP x, H) := rfl
  simp only [stA, ho, hp, obs]
  rw [if_pos ⟨trivial, rfl, by rw [hl]; omega⟩, if_pos ⟨trivial, trivial⟩, flat_splice len2 l i x h]

theorem c124a (hn : l.length < 2 ^ 40) (ho : H[id]? = some (rP l g)) (lo : List Nat) {k : Nat} (hk : 0 < k) (hk2 : k < l.length) (hkd : dd (l.take k) = l.take k) (heq : l[k] = l[k - 1]'(by omega)) :
    ∀ (c q i : Nat) (H1 : Heap) (W : List P2), l.length - (k + q) = c → 0 < q → k + q ≤ l.length → i + 1 ≤ k + q → i < l.length → W = dd (l.take (k + q)) ++ l.drop i → (dd (l.take (k + q))).length = i → H1[id]? = some (rP W g) →
    ∃ H', L44_20 [.row id g 0 l.length, I i, .row id g (k * 2) (l.length - k), I q] lo H1 = some ([.row id g 0 (dd l).length], H') ∧ ∃ cs, H'[id]? = some (.row g 2 cs) ∧ cs.take ((dd l).length * 2) = (dd l).flatMap encP ∧ (dd l).length * 2 ≤ cs.length := by
  intro c
  induction c with
  | zero =>
    intro q i H1 W hc hq hkq hi hi2 hW hdi h1
    have e : k + q = l.length := by omega
    rw [e, List.take_length] at hW hdi
    have hWl : W.length = l.length := by rw [hW, List.length_append, hdi, List.length_drop]; omega
    have hlt : ¬ (q : Int) < ((l.length - k : Nat) : Int) := by omega
    rw [L44_20_eq]
    have hc1 : cutA 2 (.row id g 0 l.length) (some (I i)) none none H1 = some (.row id g (i * 2) (l.length - i)) := by
      simp only [cutA, bnd, asI, obs, h1]
      rw [if_pos ⟨trivial, by omega, by omega, by omega⟩]
      simp
    have hWf : (W.flatMap encP).length = l.length * 2 := by rw [rows_length len2, hWl]
    have hc2 : clearA 2 [(.v (.int .i64 0)), (.v (.int .i64 0))] (.row id g (i * 2) (l.length - i)) H1 = some (H1.set id (.row g 2 (splice (W.flatMap encP) (i * 2) (zerosA (l.length - i) [(.v (.int .i64 0)), (.v (.int .i64 0))])))) := by
      simp only [clearA, h1]
      rw [if_pos ⟨trivial, trivial, by rw [hWf]; omega⟩]
    have hset : (H1.set id (.row g 2 (splice (W.flatMap encP) (i * 2) (zerosA (l.length - i) [(.v (.int .i64 0)), (.v (.int .i64 0))]))))[id]? = some (.row g 2 (splice (W.flatMap encP) (i * 2) (zerosA (l.length - i) [(.v (.int .i64 0)), (.v (.int .i64 0))]))) := setAt h1
    generalize hsp : splice (W.flatMap encP) (i * 2) (zerosA (l.length - i) [(.v (.int .i64 0)), (.v (.int .i64 0))]) = cs at *
    have hc3 : cutA 2 (.row id g 0 l.length) none (some (I i)) none (H1.set id (.row g 2 cs)) = some (.row id g 0 i) := by
      rw [cutA_row_hi hset (by omega)]
      simp
    have hz : (zerosA (l.length - i) [(.v (.int .i64 0)), (.v (.int .i64 0))]).length = (l.length - i) * 2 := by
      simp [zerosA]
    refine ⟨H1.set id (.row g 2 cs), ?_, cs, hset, ?_, ?_⟩
    · rw [hdi]
      simp only [hlt, hc1, hc2, hc3, obs, oms, bin_add, bin_sub, bin_lss, bin_leq, bin_gtr, bin_geq, bin_eql, bin_neq, bin_eqlB, bin_neqB, un_not, cond_B, gd_B, gd_undef, gdH_B, gdH_undef, pickA_B, extractA_tup, lenA_sl, lenA_row, fldA_fp, fldA_ptr, fldA_rptr, List.getElem?_cons_zero, List.getElem?_cons_succ, decide_true, decide_false, if_true, if_false, Bool.true_eq_false, Bool.false_eq_true, Bool.not_true, Bool.not_false]
      rfl
    · rw [hdi, ← hsp, splice_take _ _ _ (by rw [hWf, hz]; omega), hW, List.flatMap_append]
      have hd2 : ((dd l).flatMap encP).length = i * 2 := by rw [rows_length len2, hdi]
      rw [List.append_assoc, List.take_append_of_le_length (by simp only [List.length_take, List.length_append, hd2]; omega), List.take_take, Nat.min_self, List.take_append_of_le_length (by omega), List.take_of_length_le (by omega)]
    · rw [hdi, ← hsp, splice_take _ _ _ (by rw [hWf, hz]; omega)]
      simp only [List.length_append, List.length_take, hWf, hz, List.length_drop]
      omega
  | succ c ih =>
    intro q i H1 W hc hq hkq hi hi2 hW hdi h1
    have hlt : (q : Int) < ((l.length - k : Nat) : Int) := by omega
    have hkl : k + q < l.length := by omega
    have hWl : W.length = l.length := by rw [hW, List.length_append, hdi, List.length_drop]; omega
    have hWg : ∀ t (ht : t < l.length), i ≤ t → W[t]'(by omega) = l[t] := by
      intro t ht hit
      simp only [hW]
      rw [List.getElem_append_right (by omega)]
      simp only [List.getElem_drop, hdi]
      congr 1
      omega
    have i1 : idxA 2 (.row id g (k * 2) (l.length - k)) (I q) = some (.rptr id g ((k + q) * 2)) := by
      rw [idxA_row (by omega)]
      simp only [Int.toNat_natCast, Nat.add_mul]
    have w1 : IntKind.i64.wrap ((q : Int) - 1) = ((q - 1 : Nat) : Int) := by rw [wrap_id (by omega)]; omega
    have i2 : idxA 2 (.row id g (k * 2) (l.length - k)) (I ((q - 1 : Nat) : Int)) = some (.rptr id g ((k + q - 1) * 2)) := by
      rw [idxA_row (by omega)]
      simp only [Int.toNat_natCast]
      rw [show k + q - 1 = k + (q - 1) by omega, Nat.add_mul]
    have l1 : ld true 2 (.rptr id g ((k + q) * 2)) H1 = some (avP (l[k + q]'hkl)) := by rw [rP_ld h1 (by omega), hWg _ (by omega) (by omega)]
    have l2 : ld true 2 (.rptr id g ((k + q - 1) * 2)) H1 = some (avP (l[k + q - 1]'(by omega))) := by rw [rP_ld h1 (by omega), hWg _ (by omega) (by omega)]
    have hds := dd_step (l := l) (m := k + q) (by omega) (by omega)
    have w2 : IntKind.i64.wrap ((q : Int) + 1) = ((q + 1 : Nat) : Int) := by rw [wrap_id (by omega), nxt]
    have w3 : IntKind.i64.wrap ((i : Int) + 1) = ((i + 1 : Nat) : Int) := by rw [wrap_id (by omega), nxt]
    have i3 : idxA 2 (.row id g 0 l.length) (I i) = some (.rptr id g (i * 2)) := rowI hi2
    rw [L44_20_eq]
    by_cases he : l[k + q]'hkl = l[k + q - 1]'(by omega)
    · rw [if_pos he, List.append_nil] at hds
      obtain ⟨H', e, r⟩ := ih (q + 1) i H1 W (by omega) (by omega) (by omega) (by omega) hi2 (by rw [← Nat.add_assoc, hds]; exact hW) (by rw [← Nat.add_assoc, hds]; exact hdi) h1
      refine ⟨H', ?_, r⟩
      simp only [hlt, i1, w1, i2, l1, l2, neP, he, L44_23_eq, w2, obs, oms, bin_add, bin_sub, bin_lss, bin_leq, bin_gtr, bin_geq, bin_eql, bin_neq, bin_eqlB, bin_neqB, un_not, cond_B, gd_B, gd_undef, gdH_B, gdH_undef, pickA_B, extractA_tup, lenA_sl, lenA_row, fldA_fp, fldA_ptr, fldA_rptr, List.getElem?_cons_zero, List.getElem?_cons_succ, decide_true, decide_false, if_true, if_false, Bool.true_eq_false, Bool.false_eq_true, Bool.not_true, Bool.not_false]
      exact e
    · rw [if_neg he] at hds
      have st := rP_st h1 (i := i) (by omega) (l[k + q]'hkl) lo
      have hset : W.set i (l[k + q]'hkl) = dd (l.take (k + q + 1)) ++ l.drop (i + 1) := by
        rw [hds, hW, List.set_append_right _ _ (by omega), hdi, Nat.sub_self, List.append_assoc]
        congr 1
        rw [List.drop_eq_getElem_cons hi2]
        rfl
      obtain ⟨H', e, r⟩ := ih (q + 1) (i + 1) (H1.set id (rP (W.set i (l[k + q]'hkl)) g)) _ (by omega) (by omega) (by omega) (by omega) (by omega) (by rw [← Nat.add_assoc]; exact hset) (by rw [← Nat.add_assoc, hds, List.length_append, hdi]; rfl) (setAt h1)
      refine ⟨H', ?_, r⟩
      simp only [hlt, i1, w1, i2, l1, l2, neP, he, i3, st, w3, L44_23_eq, w2, obs, oms, bin_add, bin_sub, bin_lss, bin_leq, bin_gtr, bin_geq, bin_eql, bin_neq, bin_eqlB, bin_neqB, un_not, cond_B, gd_B, gd_undef, gdH_B, gdH_undef, pickA_B, extractA_tup, lenA_sl, lenA_row, fldA_fp, fldA_ptr, fldA_rptr, List.getElem?_cons_zero, List.getElem?_cons_succ, decide_true, decide_false, if_true, if_false, Bool.true_eq_false, Bool.false_eq_true, Bool.not_true, Bool.not_false]
      exact e

theorem c124b (hn : l.length < 2 ^ 40) (ho : H[id]? = some (rP l g)) (lo : List Nat) : ∀ (c k : Nat), l.length - k = c → 0 < k → k ≤ l.length → dd (l.take k) = l.take k →
    ∃ H', L44_10 [.row id g 0 l.length, I k] lo H = some ([.row id g 0 (dd l).length], H') ∧ ∃ cs, H'[id]? = some (.row g 2 cs) ∧ cs.take ((dd l).length * 2) = (dd l).flatMap encP ∧ (dd l).length * 2 ≤ cs.length := by
  intro c
  have hl : (l.flatMap encP).length = l.length * 2 := rows_length len2 l
  induction c with
  | zero =>
    intro k hc hk hk2 hd
    have e : k = l.length := by omega
    subst e
    rw [List.take_length] at hd
    rw [L44_10_eq]
    refine ⟨H, ?_, _, ho, ?_, ?_⟩
    · simp only [Int.lt_irrefl, hd, obs, oms, bin_add, bin_sub, bin_lss, bin_leq, bin_gtr, bin_geq, bin_eql, bin_neq, bin_eqlB, bin_neqB, un_not, cond_B, gd_B, gd_undef, gdH_B, gdH_undef, pickA_B, extractA_tup, lenA_sl, lenA_row, fldA_fp, fldA_ptr, fldA_rptr, List.getElem?_cons_zero, List.getElem?_cons_succ, decide_true, decide_false, if_true, if_false, Bool.true_eq_false, Bool.false_eq_true, Bool.not_true, Bool.not_false]
      rfl
    · rw [hd, List.take_of_length_le (by omega)]
    · rw [hd]; omega
  | succ c ih =>
    intro k hc hk hk2 hd
    have hk3 : k < l.length := by omega
    have hlt : (k : Int) < l.length := by omega
    have w1 : IntKind.i64.wrap ((k : Int) - 1) = ((k - 1 : Nat) : Int) := by rw [wrap_id (by omega)]; omega
    have w2 : IntKind.i64.wrap ((k : Int) + 1) = ((k + 1 : Nat) : Int) := by rw [wrap_id (by omega), nxt]
    have i1 : idxA 2 (.row id g 0 l.length) (I k) = some (.rptr id g (k * 2)) := rowI hk3
    have i2 : idxA 2 (.row id g 0 l.length) (I ((k - 1 : Nat) : Int)) = some (.rptr id g ((k - 1) * 2)) := rowI (by omega)
    have l1 := rP_ld ho hk3
    have l2 := rP_ld ho (i := k - 1) (by omega)
    have hds := dd_step hk hk3
    rw [L44_10_eq]
    by_cases he : l[k] = l[k - 1]
    · rw [if_pos he, List.append_nil] at hds
      have hc1 : cutA 2 (.row id g 0 l.length) (some (I k)) none none H = some (.row id g (k * 2) (l.length - k)) := by
        simp only [cutA, bnd, asI, obs, ho]
        rw [if_pos ⟨trivial, by omega, by omega, by omega⟩]
        simp
      obtain ⟨H', e, r⟩ := c124a hn ho lo hk hk3 hd he (l.length - (k + 1)) 1 k H l rfl (by omega) (by omega) (by omega) hk3 (by rw [hds, hd, List.take_append_drop]) (by rw [hds, hd, List.length_take]; omega) ho
      refine ⟨H', ?_, r⟩
      simp only [hlt, i1, w1, i2, l1, l2, eqP, he, hc1, obs, oms, bin_add, bin_sub, bin_lss, bin_leq, bin_gtr, bin_geq, bin_eql, bin_neq, bin_eqlB, bin_neqB, un_not, cond_B, gd_B, gd_undef, gdH_B, gdH_undef, pickA_B, extractA_tup, lenA_sl, lenA_row, fldA_fp, fldA_ptr, fldA_rptr, List.getElem?_cons_zero, List.getElem?_cons_succ, decide_true, decide_false, if_true, if_false, Bool.true_eq_false, Bool.false_eq_true, Bool.not_true, Bool.not_false]
      exact e
    · rw [if_neg he, hd] at hds
      obtain ⟨H', e, r⟩ := ih (k + 1) (by omega) (by omega) (by omega) (by rw [hds, List.take_add_one, List.getElem?_eq_getElem hk3]; rfl)
      refine ⟨H', ?_, r⟩
      simp only [hlt, i1, w1, i2, l1, l2, eqP, he, w2, obs, oms, bin_add, bin_sub, bin_lss, bin_leq, bin_gtr, bin_geq, bin_eql, bin_neq, bin_eqlB, bin_neqB, un_not, cond_B, gd_B, gd_undef, gdH_B, gdH_undef, pickA_B, extractA_tup, lenA_sl, lenA_row, fldA_fp, fldA_ptr, fldA_rptr, List.getElem?_cons_zero, List.getElem?_cons_succ, decide_true, decide_false, if_true, if_false, Bool.true_eq_false, Bool.false_eq_true, Bool.not_true, Bool.not_false]
      exact e

theorem ent124 (hn : l.length < 2 ^ 40) (h0 : 0 < l.length) (ho : H[id]? = some (rP l g)) (lo : List Nat) :
    ∃ H', O.ent 44 [.row id g 0 l.length] lo H = some ([.row id g 0 (dd l).length], H') ∧ ∃ cs, H'[id]? = some (.row g 2 cs) ∧ cs.take ((dd l).length * 2) = (dd l).flatMap encP ∧ (dd l).length * 2 ≤ cs.length := by
  rw [f44_eq]
  by_cases h : l.length < 2
  · have h1 : l.length = 1 := by omega
    obtain ⟨x, rfl⟩ := List.length_eq_one_iff.mp h1
    refine ⟨H, ?_, _, ho, ?_, ?_⟩
    · simp only [List.length_singleton, dd, ddf, obs, oms, bin_add, bin_sub, bin_lss, bin_leq, bin_gtr, bin_geq, bin_eql, bin_neq, bin_eqlB, bin_neqB, un_not, cond_B, gd_B, gd_undef, gdH_B, gdH_undef, pickA_B, extractA_tup, lenA_sl, lenA_row, fldA_fp, fldA_ptr, fldA_rptr, List.getElem?_cons_zero, List.getElem?_cons_succ, decide_true, decide_false, if_true, if_false, Bool.true_eq_false, Bool.false_eq_true, Bool.not_true, Bool.not_false]
      rfl
    · rfl
    · simp [dd, ddf, encP]
  · have h2 : ¬ (l.length : Int) < 2 := by omega
    obtain ⟨H', e, r⟩ := c124b hn ho lo (l.length - 1) 1 rfl (by omega) (by omega) (dd_one h0)
    refine ⟨H', ?_, r⟩
    simp only [h2, obs, oms, bin_add, bin_sub, bin_lss, bin_leq, bin_gtr, bin_geq, bin_eql, bin_neq, bin_eqlB, bin_neqB, un_not, cond_B, gd_B, gd_undef, gdH_B, gdH_undef, pickA_B, extractA_tup, lenA_sl, lenA_row, fldA_fp, fldA_ptr, fldA_rptr, List.getElem?_cons_zero, List.getElem?_cons_succ, decide_true, decide_false, if_true, if_false, Bool.true_eq_false, Bool.false_eq_true, Bool.not_true, Bool.not_false]
    exact e
end
end Cl
end Go.Proofs.Ytfdnamedmjhcfaa

set_option linter.unusedVariables false
set_option linter.unusedSimpArgs false
namespace Go.Proofs.Ytfdnamedmjhcfaa
open Go Go.AM
namespace Cl

/-! ### Two pairs compared -/
def cmp1 (a b : Int) : Int := if a < b then -1 else if b < a then 1 else 0
def cmpP (x y : P2) : Int := if cmp1 x.2 y.2 = 0 then cmp1 x.1 y.1 else cmp1 x.2 y.2

theorem call119 (a b : Int) (lo : List Nat) (H : Heap) : callA cfg O 43 [I a, I b] lo H = some (I (cmp1 a b), H) := by
  have n1 : ∀ c : Int, callA cfg O 56 [I c] [] [] = some (B false, []) := fun c => by
    refine callA_pure (xs := [Ia c]) (H' := []) (rs := [B false]) rfl ?_ rfl
    show O.ent 56 [I c] [] [] = _
    rw [f56_eq]
    simp only [obs, oms, bin_add, bin_sub, bin_lss, bin_leq, bin_gtr, bin_geq, bin_eql, bin_neq, bin_eqlB, bin_neqB, un_not, cond_B, gd_B, gd_undef, gdH_B, gdH_undef, pickA_B, extractA_tup, lenA_sl, lenA_row, fldA_fp, fldA_ptr, fldA_rptr, List.getElem?_cons_zero, List.getElem?_cons_succ, decide_true, decide_false, if_true, if_false, Bool.true_eq_false, Bool.false_eq_true, Bool.not_true, Bool.not_false]
    rfl
  refine callA_pure (xs := [Ia a, Ia b]) (H' := []) (rs := [I (cmp1 a b)]) rfl ?_ rfl
  show O.ent 43 [I a, I b] [] [] = _
  rw [f43_eq]
  unfold cmp1
  simp only [n1, obs, oms, bin_add, bin_sub, bin_lss, bin_leq, bin_gtr, bin_geq, bin_eql, bin_neq, bin_eqlB, bin_neqB, un_not, cond_B, gd_B, gd_undef, gdH_B, gdH_undef, pickA_B, extractA_tup, lenA_sl, lenA_row, fldA_fp, fldA_ptr, fldA_rptr, List.getElem?_cons_zero, List.getElem?_cons_succ, decide_true, decide_false, if_true, if_false, Bool.true_eq_false, Bool.false_eq_true, Bool.not_true, Bool.not_false]
  by_cases h1 : a < b
  · simp only [h1, obs, oms, bin_add, bin_sub, bin_lss, bin_leq, bin_gtr, bin_geq, bin_eql, bin_neq, bin_eqlB, bin_neqB, un_not, cond_B, gd_B, gd_undef, gdH_B, gdH_undef, pickA_B, extractA_tup, lenA_sl, lenA_row, fldA_fp, fldA_ptr, fldA_rptr, List.getElem?_cons_zero, List.getElem?_cons_succ, decide_true, decide_false, if_true, if_false, Bool.true_eq_false, Bool.false_eq_true, Bool.not_true, Bool.not_false]; rfl
  · by_cases h2 : b < a
    · simp only [h1, h2, obs, oms, bin_add, bin_sub, bin_lss, bin_leq, bin_gtr, bin_geq, bin_eql, bin_neq, bin_eqlB, bin_neqB, un_not, cond_B, gd_B, gd_undef, gdH_B, gdH_undef, pickA_B, extractA_tup, lenA_sl, lenA_row, fldA_fp, fldA_ptr, fldA_rptr, List.getElem?_cons_zero, List.getElem?_cons_succ, decide_true, decide_false, if_true, if_false, Bool.true_eq_false, Bool.false_eq_true, Bool.not_true, Bool.not_false]; rfl
    · simp only [h1, h2, obs, oms, bin_add, bin_sub, bin_lss, bin_leq, bin_gtr, bin_geq, bin_eql, bin_neq, bin_eqlB, bin_neqB, un_not, cond_B, gd_B, gd_undef, gdH_B, gdH_undef, pickA_B, extractA_tup, lenA_sl, lenA_row, fldA_fp, fldA_ptr, fldA_rptr, List.getElem?_cons_zero, List.getElem?_cons_succ, decide_true, decide_false, if_true, if_false, Bool.true_eq_false, Bool.false_eq_true, Bool.not_true, Bool.not_false]; rfl

theorem call118 (a b : Int) (nl : Option Bool) (tg : Bool) (lo : List Nat) (H : Heap) : callA cfg O 42 [.p (.sl nl tg 2 [Ia a, Ia b])] lo H = some (I (if a = 0 then b else a), H) := by
  refine callA_pure (xs := [.sl nl tg 2 [Ia a, Ia b]]) (H' := []) (rs := [I (if a = 0 then b else a)]) rfl ?_ rfl
  show O.ent 42 [V nl tg [a, b]] [] [] = _
  have i0 := idxV (nl := nl) (tg := tg) (zs := [a, b]) (k := 0) (by simp)
  have i1 := idxV (nl := nl) (tg := tg) (zs := [a, b]) (k := 1) (by simp)
  have l0 := fun H => ldV (zs := [a, b]) (k := 0) (by simp) H
  have l1 := fun H => ldV (zs := [a, b]) (k := 1) (by simp) H
  rw [f42_eq]
  have h1 : (0 : Int) < (([a, b] : List Int).length : Nat) := by simp
  have h2 : (1 : Int) < (([a, b] : List Int).length : Nat) := by simp
  have h3 : ¬ (2 : Int) < (([a, b] : List Int).length : Nat) := by simp
  have w1 : IntKind.i64.wrap (0 + 1) = 1 := rfl
  have w2 : IntKind.i64.wrap (1 + 1) = 2 := rfl
  rw [show ((0 : Nat) : Int) = 0 from rfl] at i0
  rw [show ((1 : Nat) : Int) = 1 from rfl] at i1
  simp only [lenA_sl, obs]
  rw [L42_8_eq]
  by_cases ha : a = 0
  · subst ha
    simp only [h1, i0, l0, w1, List.getElem_cons_zero, obs, oms, bin_add, bin_sub, bin_lss, bin_leq, bin_gtr, bin_geq, bin_eql, bin_neq, bin_eqlB, bin_neqB, un_not, cond_B, gd_B, gd_undef, gdH_B, gdH_undef, pickA_B, extractA_tup, lenA_sl, lenA_row, fldA_fp, fldA_ptr, fldA_rptr, List.getElem?_cons_zero, List.getElem?_cons_succ, decide_true, decide_false, if_true, if_false, Bool.true_eq_false, Bool.false_eq_true, Bool.not_true, Bool.not_false]
    rw [L42_8_eq]
    by_cases hb : b = 0
    · subst hb
      simp only [h2, i1, l1, w2, List.getElem_cons_zero, List.getElem_cons_succ, obs, oms, bin_add, bin_sub, bin_lss, bin_leq, bin_gtr, bin_geq, bin_eql, bin_neq, bin_eqlB, bin_neqB, un_not, cond_B, gd_B, gd_undef, gdH_B, gdH_undef, pickA_B, extractA_tup, lenA_sl, lenA_row, fldA_fp, fldA_ptr, fldA_rptr, List.getElem?_cons_zero, List.getElem?_cons_succ, decide_true, decide_false, if_true, if_false, Bool.true_eq_false, Bool.false_eq_true, Bool.not_true, Bool.not_false]
      rw [L42_8_eq]
      simp only [h3, obs, oms, bin_add, bin_sub, bin_lss, bin_leq, bin_gtr, bin_geq, bin_eql, bin_neq, bin_eqlB, bin_neqB, un_not, cond_B, gd_B, gd_undef, gdH_B, gdH_undef, pickA_B, extractA_tup, lenA_sl, lenA_row, fldA_fp, fldA_ptr, fldA_rptr, List.getElem?_cons_zero, List.getElem?_cons_succ, decide_true, decide_false, if_true, if_false, Bool.true_eq_false, Bool.false_eq_true, Bool.not_true, Bool.not_false]
      rfl
    · simp only [h2, i1, l1, List.getElem_cons_zero, List.getElem_cons_succ, hb, obs, oms, bin_add, bin_sub, bin_lss, bin_leq, bin_gtr, bin_geq, bin_eql, bin_neq, bin_eqlB, bin_neqB, un_not, cond_B, gd_B, gd_undef, gdH_B, gdH_undef, pickA_B, extractA_tup, lenA_sl, lenA_row, fldA_fp, fldA_ptr, fldA_rptr, List.getElem?_cons_zero, List.getElem?_cons_succ, decide_true, decide_false, if_true, if_false, Bool.true_eq_false, Bool.false_eq_true, Bool.not_true, Bool.not_false]
      rfl
  · simp only [h1, i0, l0, List.getElem_cons_zero, ha, obs, oms, bin_add, bin_sub, bin_lss, bin_leq, bin_gtr, bin_geq, bin_eql, bin_neq, bin_eqlB, bin_neqB, un_not, cond_B, gd_B, gd_undef, gdH_B, gdH_undef, pickA_B, extractA_tup, lenA_sl, lenA_row, fldA_fp, fldA_ptr, fldA_rptr, List.getElem?_cons_zero, List.getElem?_cons_succ, decide_true, decide_false, if_true, if_false, Bool.true_eq_false, Bool.false_eq_true, Bool.not_true, Bool.not_false]
    rfl

theorem pureLs (H : Heap) : ∀ xs : List PV, pureLeaves H (xs.map .p) = some (xs.map .p, false) := by
  intro xs
  induction xs with
  | nil => rfl
  | cons x xs ih => simp [pureLeaves, pureLeaf, ih]

theorem callCmp (x y : P2) (lo : List Nat) (H : Heap) : callV cfg O (.fn 41 [] []) [avP x, avP y] lo H = some (I (cmpP x y), H) := by
  show callA cfg O 41 [avP x, avP y] lo H = _
  refine callA_args (H' := []) (rs := [I (cmpP x y)]) rfl ?_ ?_ rfl
  · simp only [pureArgs, pureArg, avP, pureLs, oms, obs, Bool.or_false]
  · rw [f41_eq]
    have b1 : boxO [] (AV.cells (avP x)) [] = some (.ptr 0 0, [.box ((encP x).map .p)]) := boxO_p _ []
    have b2 : boxO [] (AV.cells (avP y)) [.box ((encP x).map .p)] = some (.ptr 1 0, [.box ((encP x).map .p), .box ((encP y).map .p)]) := boxO_p _ _
    have l1 : ld false 1 (.ptr 0 (0 + 0)) [.box ((encP x).map .p), .box ((encP y).map .p)] = some (I x.1) := by rw [ld_box (xs := (encP x).map .p) rfl]; rfl
    have l2 : ld false 1 (.ptr 1 (0 + 0)) [.box ((encP x).map .p), .box ((encP y).map .p)] = some (I y.1) := by rw [ld_box (xs := (encP y).map .p) rfl]; rfl
    have l3 : ld false 1 (.ptr 0 (0 + 1)) [.box ((encP x).map .p), .box ((encP y).map .p)] = some (I x.2) := by rw [ld_box (xs := (encP x).map .p) rfl]; rfl
    have l4 : ld false 1 (.ptr 1 (0 + 1)) [.box ((encP x).map .p), .box ((encP y).map .p)] = some (I y.2) := by rw [ld_box (xs := (encP y).map .p) rfl]; rfl
    have hlit : ∀ (a b : Int) (H : Heap), litA false 1 [I a, I b] H = some (.p (.sl (some false) true 2 [Ia a, Ia b]), H) := fun _ _ _ => rfl
    simp only [b1, b2, l1, l2, l3, l4, call119, hlit, call118, obs, oms, bin_add, bin_sub, bin_lss, bin_leq, bin_gtr, bin_geq, bin_eql, bin_neq, bin_eqlB, bin_neqB, un_not, cond_B, gd_B, gd_undef, gdH_B, gdH_undef, pickA_B, extractA_tup, lenA_sl, lenA_row, fldA_fp, fldA_ptr, fldA_rptr, List.getElem?_cons_zero, List.getElem?_cons_succ, decide_true, decide_false, if_true, if_false, Bool.true_eq_false, Bool.false_eq_true, Bool.not_true, Bool.not_false]
    rfl

theorem cmp1_neg (a b : Int) : cmp1 a b < 0 ↔ a < b := by
  unfold cmp1
  by_cases h1 : a < b
  · simp [h1]
  · by_cases h2 : b < a <;> simp [h1, h2]
theorem cmp1_zero (a b : Int) : cmp1 a b = 0 ↔ a = b := by
  unfold cmp1
  by_cases h1 : a < b
  · simp [h1]; omega
  · by_cases h2 : b < a
    · simp [h1, h2]; omega
    · simp [h1, h2]; omega
theorem cmpP_neg (x y : P2) : cmpP x y < 0 ↔ plt x y := by
  unfold cmpP plt
  by_cases h : x.2 = y.2
  · rw [if_pos ((cmp1_zero _ _).mpr h), cmp1_neg]
    simp only [h, Int.lt_irrefl, false_or, true_and]
  · rw [if_neg (fun e => h ((cmp1_zero _ _).mp e)), cmp1_neg]
    simp only [h, false_and, or_false]

open Go.Sort in
theorem swoP : SWO fun x y : P2 => decide (cmpP x y < 0) := by
  refine ⟨fun x => ?_, fun x y z h1 h2 => ?_, fun x y z h1 h2 => ?_⟩
  · simp only [decide_eq_false_iff_not, cmpP_neg]
    exact plt_irr x
  · simp only [decide_eq_true_eq, cmpP_neg] at *
    exact plt_trans h1 h2
  · simp only [decide_eq_false_iff_not, cmpP_neg] at *
    unfold plt at *
    omega

theorem ent122 (cl : AV) (o : AV) (lo : List Nat) (G : Heap) : O.ent 40 [o, cl] lo G = extRun cfg O (.sort true 2) [o, cl] G := by
  rw [O_ent]
  rfl

section
variable {l : List E} {nl : Option Bool} {tg : Bool}

/-! ### All edges -/
def MemE (l : List E) (S : List P2) : Prop := ∀ p : P2, p ∈ S ↔ ∃ i y : Nat, p = ((i : Int), (y : Int)) ∧ y < l.length ∧ ED l i y

theorem ent128 (hl : l.length ≤ 200) : ∃ n2 t2 S, O.ent 29 [Rw enc nl tg l] [] [] = some ([Rw encP n2 t2 S], []) ∧ S.Pairwise plt ∧ MemE l S ∧ S.length ≤ 100000 := by
  have h0 : WS [] ([mI [] 0, mI [] 0, mI [] 0, mI [] 0] ++ [.box [.mp 0, .mp 1, .mp 2, .mp 3, .p nilS]]) (.p nilS) [] [] 0 [] 0 [] 0 [] 0 := by
    refine ⟨?_, .nil, .nil, .nil, .nil, fun q hq => (by cases hq), .inl ⟨rfl, rfl⟩⟩
    refine ⟨fun q hq => ?_, fun q hq => ?_, by simp [llE]⟩
    · simp only [List.mem_cons, List.not_mem_nil, or_false] at hq
      rcases hq with e | e | e | e | e <;> subst e <;> exact ⟨rfl, rfl⟩
    · simp only [llE, List.map_nil, List.append_nil, List.mem_singleton] at hq
      subst hq
      exact Lst.nil 2 _
  have hi0 : IV l 0 (fun _ => none) (fun _ => none) [] [] [] := ⟨fun t => .zero _, fun t => .zero _, fun t => rfl, fun t => rfl, fun p => ⟨fun h => (by cases h), fun ⟨_, _, _, h, _⟩ => by omega⟩, by simp⟩
  obtain ⟨X, H, o, out, k0, c0, sp, c1, k2, c2, fr, c3, e, h, hm, hlen⟩ := loop128 (nl := nl) (tg := tg) hl l.length 0 [] _ _ _ [] 0 [] 0 [] 0 [] 0 _ _ rfl (by omega) h0 (fun t => rfl) (fun t => rfl) hi0
  have hb : boxO [] [.mp 0, .mp 1, .mp 2, .mp 3, .p nilS] [mI [] 0, mI [] 0, mI [] 0, mI [] 0] = some (.ptr 4 0, [mI [] 0, mI [] 0, mI [] 0, mI [] 0] ++ [.box [.mp 0, .mp 1, .mp 2, .mp 3, .p nilS]]) := rfl
  have hstart : O.ent 29 [Rw enc nl tg l] [] [] = L29_8 [.ptr 4 0, Rw enc nl tg l, I l.length, I ((0 : Nat) : Int)] [] ([mI [] 0, mI [] 0, mI [] 0, mI [] 0] ++ [.box [.mp 0, .mp 1, .mp 2, .mp 3, .p nilS]]) := by
    rw [f29_eq]
    have hbd : buildA [(.p (.v (.map none))), (.p (.v (.map none))), (.p (.v (.map none))), (.p (.v (.map none))), (.p nilS)] [(0, 1, .mp 0), (1, 1, .mp 1), (2, 1, .mp 2), (3, 1, .mp 3)] = some (.agg [.mp 0, .mp 1, .mp 2, .mp 3, .p nilS]) := rfl
    have mk : mkMap [] = (.mp 0, [mI [] 0]) := rfl
    have mk1 : mkMap [mI [] 0] = (.mp 1, [mI [] 0, mI [] 0]) := rfl
    have mk2 : mkMap [mI [] 0, mI [] 0] = (.mp 2, [mI [] 0, mI [] 0, mI [] 0]) := rfl
    have mk3 : mkMap [mI [] 0, mI [] 0, mI [] 0] = (.mp 3, [mI [] 0, mI [] 0, mI [] 0, mI [] 0]) := rfl
    simp only [mk, mk1, mk2, mk3, hbd, AV.cells, hb, obs, lenA_sl]
    rfl
  rw [hstart, e, L29_8_eq]
  obtain ⟨a0, a1, a2, a3, a4⟩ := h.ldm
  have m122 : cfg.mode 40 = 1 := rfl
  have m124 : cfg.mode 44 = 1 := rfl
  rcases h.ro with ⟨rfl, rfl⟩ | ⟨id, g, rfl, hpos⟩
  · have c122 : callA cfg O 40 [.p nilS, .fn 41 [] []] [] H = some (.tup [], H) := callA_keep m122 (rs := []) (H' := H) (by rw [ent122]; rfl)
    have c124 : callA cfg O 44 [.p nilS] [] H = some (.p nilS, H) := callA_keep m124 (rs := [.p nilS]) (H' := H) (by rw [f44_eq]; rfl)
    refine ⟨some true, true, [], ?_, .nil, fun p => ?_, by simp⟩
    · simp only [Int.lt_irrefl, nilP4, a4, c122, c124, obs, oms, bin_add, bin_sub, bin_lss, bin_leq, bin_gtr, bin_geq, bin_eql, bin_neq, bin_eqlB, bin_neqB, un_not, cond_B, gd_B, gd_undef, gdH_B, gdH_undef, pickA_B, extractA_tup, lenA_sl, lenA_row, fldA_fp, fldA_ptr, fldA_rptr, List.getElem?_cons_zero, List.getElem?_cons_succ, decide_true, decide_false, if_true, if_false, Bool.true_eq_false, Bool.false_eq_true, Bool.not_true, Bool.not_false]
      rfl
    · exact hm p
  · have hro : H[id]? = some (rP out g) := by
      have := (h.cx.lst (oP (.row id g 0 out.length) out) (by simp)).at
      exact this
    obtain ⟨l', hp', hs', he⟩ := sort_run (cfg := cfg) (O := O) (enc := encP) (k := 2) (by omega) len2 (cm := 41) (cap := []) rfl (cf := cmpP) (id := id) (g := g) (H := H) (l := out) (by omega) hpos hro (fun x _ y _ => by
      unfold cmpOne
      have := callCmp x y [] []
      unfold avP at this
      rw [this]
      rfl) swoP
    have hs2 : l'.Pairwise fun x y => ¬ plt y x := hs'.imp fun h e => h ((cmpP_neg _ _).mpr e)
    have hl' : l'.length = out.length := hp'.length_eq
    have c122 : callA cfg O 40 [.row id g 0 out.length, .fn 41 [] []] [] H = some (.tup [], H.set id (rP l' g)) := callA_keep m122 (rs := []) (by rw [ent122]; exact he)
    obtain ⟨H2, e2, cs, g1, g2, g3⟩ := ent124 (l := l') (id := id) (g := g) (H := H.set id (rP l' g)) (by omega) (by omega) (setAt hro) []
    rw [hl'] at e2
    have c124 : callA cfg O 44 [.row id g 0 out.length] [] (H.set id (rP l' g)) = some (.row id g 0 (dd l').length, H2) := callA_keep m124 e2
    have hid : id ≠ 4 := fun e => by
      have hb4 : H[4]? = some (.box [.mp 0, .mp 1, .mp 2, .mp 3, .row id g 0 out.length]) := h.cx.at (by simp)
      rw [e] at hro
      rw [hro] at hb4
      cases hb4
    have a5 : ld false 1 (.ptr 4 (0 + 4)) (H.set id (rP l' g)) = some (.row id g 0 out.length) := by
      have hb4 : H[4]? = some (.box [.mp 0, .mp 1, .mp 2, .mp 3, .row id g 0 out.length]) := h.cx.at (by simp)
      rw [ld_box (xs := [.mp 0, .mp 1, .mp 2, .mp 3, .row id g 0 out.length]) (by rw [List.getElem?_set_ne hid]; exact hb4)]
      rfl
    have hfr : frzA H2 (.row id g 0 (dd l').length) = some (.p (.sl (if 0 < (dd l').length then some false else none) false (dd l').length ((dd l').flatMap encP)), H2.set id (.row (g + 1) 2 [])) := by
      simp only [frzA, frzLeaf, toPV, g1, Nat.zero_add]
      rw [if_pos ⟨trivial, g3⟩, List.drop_zero, g2]
      rfl
    refine ⟨if 0 < (dd l').length then some false else none, false, dd l', ?_, dd_sorted hs2, fun p => ?_, ?_⟩
    · simp only [Int.lt_irrefl, nilP4, a4, c122, a5, c124, obs, oms, bin_add, bin_sub, bin_lss, bin_leq, bin_gtr, bin_geq, bin_eql, bin_neq, bin_eqlB, bin_neqB, un_not, cond_B, gd_B, gd_undef, gdH_B, gdH_undef, pickA_B, extractA_tup, lenA_sl, lenA_row, fldA_fp, fldA_ptr, fldA_rptr, List.getElem?_cons_zero, List.getElem?_cons_succ, decide_true, decide_false, if_true, if_false, Bool.true_eq_false, Bool.false_eq_true, Bool.not_true, Bool.not_false]
      exact leave0_all (ps := [.sl (if 0 < (dd l').length then some false else none) false (dd l').length ((dd l').flatMap encP)]) (by simp only [frzAll, hfr, obs, oms]; rfl)
    · rw [mem_dd, hp'.mem_iff]; exact hm p
    · have hdl : ∀ (r : List P2) (p : P2), (ddf p r).length ≤ r.length := by
        intro r
        induction r with
        | nil => intro p; exact Nat.le_refl _
        | cons y r ih => intro p; unfold ddf; split
                         · have := ih y; simp; omega
                         · have := ih y; simp; omega
      have : (dd l').length ≤ l'.length := by
        cases l' with
        | nil => exact Nat.le_refl _
        | cons x r => have := hdl r x; simp [dd]; omega
      omega
end
end Cl
end Go.Proofs.Ytfdnamedmjhcfaa

set_option linter.unusedVariables false
set_option linter.unusedSimpArgs false
namespace Go.Proofs.Ytfdnamedmjhcfaa
open Go Go.AM
namespace Cl

section
variable {l : List E} {nl : Option Bool} {tg : Bool} {n : Int}

/-! ### The code -/
noncomputable def code (l : List E) (n : Int) : Int := if 200 < l.length then 2 else if n < 0 ∨ 8 < n then 1 else if dec (∃ i, i < l.length ∧ (Th l i < 0 ∨ n ≤ Th l i)) = true then 1 else 0

theorem ent155 (e : E) (lo : List Nat) {H : Heap} (hH : H[0]? = some (.box [I n])) : O.ent 38 [avE e, .ptr 0 0] lo H = some ([B (decide (e.2.2.1 < 0 ∨ n ≤ e.2.2.1))], H) := by
  have hb : boxO [] (AV.cells (avE e)) H = some (.ptr H.length 0, H ++ [bxE e]) := boxO_p _ H
  have h1 : ld false 1 (.ptr H.length (0 + 2)) (H ++ [bxE e]) = some (I e.2.2.1) := by rw [ldE]; rfl
  have h2 : ld false 1 (.ptr 0 0) (H ++ [bxE e]) = some (I n) := by rw [ld_box (getE hH)]; rfl
  have fin : ∀ b : Bool, leave 3 (H.length :: lo) [B b] (H ++ [bxE e]) = some ([B b], H) := by
    intro b
    simp only [leave, frzAll, frzA_p, obs, oms]
    have ha : ([B b] : List AV).all (AV.ltd H.length) = true := rfl
    rw [if_pos ha, List.take_left]
  rw [f38_eq]
  by_cases a : e.2.2.1 < 0
  · have : decide (e.2.2.1 < 0 ∨ n ≤ e.2.2.1) = true := decide_eq_true (.inl a)
    rw [this, ← fin]
    simp only [hb, h1, h2, a, obs, oms, bin_add, bin_sub, bin_lss, bin_leq, bin_gtr, bin_geq, bin_eql, bin_neq, bin_eqlB, bin_neqB, un_not, cond_B, gd_B, gd_undef, gdH_B, gdH_undef, pickA_B, extractA_tup, lenA_sl, lenA_row, fldA_fp, fldA_ptr, fldA_rptr, List.getElem?_cons_zero, List.getElem?_cons_succ, decide_true, decide_false, if_true, if_false, Bool.true_eq_false, Bool.false_eq_true, Bool.not_true, Bool.not_false]
  · by_cases b : n ≤ e.2.2.1
    · have : decide (e.2.2.1 < 0 ∨ n ≤ e.2.2.1) = true := decide_eq_true (.inr b)
      rw [this, ← fin]
      simp only [hb, h1, h2, a, b, obs, oms, bin_add, bin_sub, bin_lss, bin_leq, bin_gtr, bin_geq, bin_eql, bin_neq, bin_eqlB, bin_neqB, un_not, cond_B, gd_B, gd_undef, gdH_B, gdH_undef, pickA_B, extractA_tup, lenA_sl, lenA_row, fldA_fp, fldA_ptr, fldA_rptr, List.getElem?_cons_zero, List.getElem?_cons_succ, decide_true, decide_false, if_true, if_false, Bool.true_eq_false, Bool.false_eq_true, Bool.not_true, Bool.not_false]
    · have : decide (e.2.2.1 < 0 ∨ n ≤ e.2.2.1) = false := decide_eq_false (fun h => h.elim a b)
      rw [this, ← fin]
      simp only [hb, h1, h2, a, b, obs, oms, bin_add, bin_sub, bin_lss, bin_leq, bin_gtr, bin_geq, bin_eql, bin_neq, bin_eqlB, bin_neqB, un_not, cond_B, gd_B, gd_undef, gdH_B, gdH_undef, pickA_B, extractA_tup, lenA_sl, lenA_row, fldA_fp, fldA_ptr, fldA_rptr, List.getElem?_cons_zero, List.getElem?_cons_succ, decide_true, decide_false, if_true, if_false, Bool.true_eq_false, Bool.false_eq_true, Bool.not_true, Bool.not_false]

theorem loop182 (hl : l.length < 2 ^ 40) {H : Heap} (hH : H[0]? = some (.box [I n])) (lo : List Nat) : ∀ (c i : Nat), l.length - i = c → i ≤ l.length → ∃ r : Int, L52_6 [Rw enc nl tg l, .fn 38 [] [.ptr 0 0], I l.length, I i] lo H = some ([I r], H) ∧ (0 ≤ r ↔ ∃ q, i ≤ q ∧ q < l.length ∧ (Th l q < 0 ∨ n ≤ Th l q)) := by
  intro c
  induction c with
  | zero =>
    intro i hc hi
    have : i = l.length := by omega
    subst this
    refine ⟨-1, ?_, ⟨fun h => by omega, fun ⟨q, h1, h2, _⟩ => by omega⟩⟩
    rw [L52_6_eq]
    simp only [Int.lt_irrefl, obs, oms, bin_add, bin_sub, bin_lss, bin_leq, bin_gtr, bin_geq, bin_eql, bin_neq, bin_eqlB, bin_neqB, un_not, cond_B, gd_B, gd_undef, gdH_B, gdH_undef, pickA_B, extractA_tup, lenA_sl, lenA_row, fldA_fp, fldA_ptr, fldA_rptr, List.getElem?_cons_zero, List.getElem?_cons_succ, decide_true, decide_false, if_true, if_false, Bool.true_eq_false, Bool.false_eq_true, Bool.not_true, Bool.not_false]
    rfl
  | succ c ih =>
    intro i hc hi
    have hi' : i < l.length := by omega
    have hlt : (i : Int) < l.length := by omega
    have m155 : cfg.mode 38 = 3 := rfl
    have hT : (l.getD i z0).2.2.1 = Th l i := rfl
    have cv : callV cfg O (.fn 38 [] [.ptr 0 0]) [avE (l.getD i z0)] lo H = some (B (decide (Th l i < 0 ∨ n ≤ Th l i)), H) := by
      show callA cfg O 38 [avE (l.getD i z0), .ptr 0 0] lo H = _
      exact callA_same m155 (ent155 (l.getD i z0) lo hH)
    rw [L52_6_eq]
    by_cases hb : Th l i < 0 ∨ n ≤ Th l i
    · refine ⟨i, ?_, ⟨fun _ => ⟨i, Nat.le_refl _, hi', hb⟩, fun _ => by omega⟩⟩
      simp only [hlt, idxE hi', ldEv hi', cv, hb, obs, oms, bin_add, bin_sub, bin_lss, bin_leq, bin_gtr, bin_geq, bin_eql, bin_neq, bin_eqlB, bin_neqB, un_not, cond_B, gd_B, gd_undef, gdH_B, gdH_undef, pickA_B, extractA_tup, lenA_sl, lenA_row, fldA_fp, fldA_ptr, fldA_rptr, List.getElem?_cons_zero, List.getElem?_cons_succ, decide_true, decide_false, if_true, if_false, Bool.true_eq_false, Bool.false_eq_true, Bool.not_true, Bool.not_false]
      rfl
    · obtain ⟨r, e, hr⟩ := ih (i + 1) (by omega) (by omega)
      refine ⟨r, ?_, hr.trans ⟨fun ⟨q, h1, h2, h3⟩ => ⟨q, by omega, h2, h3⟩, fun ⟨q, h1, h2, h3⟩ => ?_⟩⟩
      · simp only [hlt, idxE hi', ldEv hi', cv, hb, obs, oms, bin_add, bin_sub, bin_lss, bin_leq, bin_gtr, bin_geq, bin_eql, bin_neq, bin_eqlB, bin_neqB, un_not, cond_B, gd_B, gd_undef, gdH_B, gdH_undef, pickA_B, extractA_tup, lenA_sl, lenA_row, fldA_fp, fldA_ptr, fldA_rptr, List.getElem?_cons_zero, List.getElem?_cons_succ, decide_true, decide_false, if_true, if_false, Bool.true_eq_false, Bool.false_eq_true, Bool.not_true, Bool.not_false]
        rw [wrap_id (by omega), nxt]
        exact e
      · by_cases e : q = i
        · rw [e] at h3; exact (hb h3).elim
        · exact ⟨q, by omega, h2, h3⟩

theorem ent127 : O.ent 24 [Rw enc nl tg l, I n] [] [] = some ([I (code l n)], []) := by
  have hb : boxO [] (AV.cells (I n)) [] = some (.ptr 0 0, [.box [I n]]) := rfl
  have hld : ld false 1 (.ptr 0 0) [.box [I n]] = some (I n) := rfl
  rw [f24_eq]
  by_cases h1 : 200 < l.length
  · have h1' : (200 : Int) < l.length := by omega
    simp only [hb, h1', code, h1, obs, oms, bin_add, bin_sub, bin_lss, bin_leq, bin_gtr, bin_geq, bin_eql, bin_neq, bin_eqlB, bin_neqB, un_not, cond_B, gd_B, gd_undef, gdH_B, gdH_undef, pickA_B, extractA_tup, lenA_sl, lenA_row, fldA_fp, fldA_ptr, fldA_rptr, List.getElem?_cons_zero, List.getElem?_cons_succ, decide_true, decide_false, if_true, if_false, Bool.true_eq_false, Bool.false_eq_true, Bool.not_true, Bool.not_false]
    rfl
  have h1' : ¬ (200 : Int) < l.length := by omega
  by_cases h2 : n < 0
  · simp only [hb, hld, h1', h2, code, h1, true_or, obs, oms, bin_add, bin_sub, bin_lss, bin_leq, bin_gtr, bin_geq, bin_eql, bin_neq, bin_eqlB, bin_neqB, un_not, cond_B, gd_B, gd_undef, gdH_B, gdH_undef, pickA_B, extractA_tup, lenA_sl, lenA_row, fldA_fp, fldA_ptr, fldA_rptr, List.getElem?_cons_zero, List.getElem?_cons_succ, decide_true, decide_false, if_true, if_false, Bool.true_eq_false, Bool.false_eq_true, Bool.not_true, Bool.not_false]
    rfl
  by_cases h3 : 8 < n
  · simp only [hb, hld, h1', h2, h3, code, h1, or_true, obs, oms, bin_add, bin_sub, bin_lss, bin_leq, bin_gtr, bin_geq, bin_eql, bin_neq, bin_eqlB, bin_neqB, un_not, cond_B, gd_B, gd_undef, gdH_B, gdH_undef, pickA_B, extractA_tup, lenA_sl, lenA_row, fldA_fp, fldA_ptr, fldA_rptr, List.getElem?_cons_zero, List.getElem?_cons_succ, decide_true, decide_false, if_true, if_false, Bool.true_eq_false, Bool.false_eq_true, Bool.not_true, Bool.not_false]
    rfl
  have hl : l.length < 2 ^ 40 := by omega
  obtain ⟨r, e, hr⟩ := loop182 (nl := nl) (tg := tg) (n := n) hl (H := [.box [I n]]) rfl [] l.length 0 rfl (by omega)
  have m182 : cfg.mode 52 = 1 := rfl
  have m154 : cfg.mode 37 = 1 := rfl
  have c182 : callA cfg O 52 [Rw enc nl tg l, .fn 38 [] [.ptr 0 0]] [] [.box [I n]] = some (I r, [.box [I n]]) := callA_keep m182 (rs := [I r]) (by
    rw [f52_eq]
    simp only [lenA_sl, obs]
    exact e)
  have c154 : callA cfg O 37 [Rw enc nl tg l, .fn 38 [] [.ptr 0 0]] [] [.box [I n]] = some (B (decide (0 ≤ r)), [.box [I n]]) := callA_keep m154 (rs := [B (decide (0 ≤ r))]) (by
    rw [f37_eq]
    simp only [c182, obs, oms, bin_add, bin_sub, bin_lss, bin_leq, bin_gtr, bin_geq, bin_eql, bin_neq, bin_eqlB, bin_neqB, un_not, cond_B, gd_B, gd_undef, gdH_B, gdH_undef, pickA_B, extractA_tup, lenA_sl, lenA_row, fldA_fp, fldA_ptr, fldA_rptr, List.getElem?_cons_zero, List.getElem?_cons_succ, decide_true, decide_false, if_true, if_false, Bool.true_eq_false, Bool.false_eq_true, Bool.not_true, Bool.not_false]
    rfl)
  have hc : code l n = if 0 ≤ r then 1 else 0 := by
    unfold code
    rw [if_neg h1, if_neg (fun h => h.elim h2 h3)]
    by_cases h0 : 0 ≤ r
    · rw [if_pos h0, if_pos (dec_iff.mpr ?_)]
      obtain ⟨q, _, q2, q3⟩ := hr.mp h0
      exact ⟨q, q2, q3⟩
    · rw [if_neg h0, if_neg fun h => ?_]
      obtain ⟨q, q2, q3⟩ := dec_iff.mp h
      exact h0 (hr.mpr ⟨q, Nat.zero_le _, q2, q3⟩)
  rw [hc]
  by_cases h0 : 0 ≤ r
  · simp only [hb, hld, h1', h2, h3, c154, h0, obs, oms, bin_add, bin_sub, bin_lss, bin_leq, bin_gtr, bin_geq, bin_eql, bin_neq, bin_eqlB, bin_neqB, un_not, cond_B, gd_B, gd_undef, gdH_B, gdH_undef, pickA_B, extractA_tup, lenA_sl, lenA_row, fldA_fp, fldA_ptr, fldA_rptr, List.getElem?_cons_zero, List.getElem?_cons_succ, decide_true, decide_false, if_true, if_false, Bool.true_eq_false, Bool.false_eq_true, Bool.not_true, Bool.not_false]
    rfl
  · simp only [hb, hld, h1', h2, h3, c154, h0, obs, oms, bin_add, bin_sub, bin_lss, bin_leq, bin_gtr, bin_geq, bin_eql, bin_neq, bin_eqlB, bin_neqB, un_not, cond_B, gd_B, gd_undef, gdH_B, gdH_undef, pickA_B, extractA_tup, lenA_sl, lenA_row, fldA_fp, fldA_ptr, fldA_rptr, List.getElem?_cons_zero, List.getElem?_cons_succ, decide_true, decide_false, if_true, if_false, Bool.true_eq_false, Bool.false_eq_true, Bool.not_true, Bool.not_false]
    rfl

theorem call83 (a b c : Int) (lo : List Nat) (H : Heap) : callA cfg O 21 [I a, I b, I c] lo H = some (B (decide (b ≤ a) && decide (a ≤ c)), H) := by
  refine callA_pure (xs := [Ia a, Ia b, Ia c]) (H' := []) (rs := [B (decide (b ≤ a) && decide (a ≤ c))]) rfl ?_ rfl
  show O.ent 21 [I a, I b, I c] [] [] = _
  rw [f21_eq]
  by_cases h : b ≤ a
  · by_cases h2 : a ≤ c <;> simp only [h, h2, Bool.and_true, Bool.and_false, obs, oms, bin_add, bin_sub, bin_lss, bin_leq, bin_gtr, bin_geq, bin_eql, bin_neq, bin_eqlB, bin_neqB, un_not, cond_B, gd_B, gd_undef, gdH_B, gdH_undef, pickA_B, extractA_tup, lenA_sl, lenA_row, fldA_fp, fldA_ptr, fldA_rptr, List.getElem?_cons_zero, List.getElem?_cons_succ, decide_true, decide_false, if_true, if_false, Bool.true_eq_false, Bool.false_eq_true, Bool.not_true, Bool.not_false] <;> rfl
  · simp only [h, Bool.false_and, obs, oms, bin_add, bin_sub, bin_lss, bin_leq, bin_gtr, bin_geq, bin_eql, bin_neq, bin_eqlB, bin_neqB, un_not, cond_B, gd_B, gd_undef, gdH_B, gdH_undef, pickA_B, extractA_tup, lenA_sl, lenA_row, fldA_fp, fldA_ptr, fldA_rptr, List.getElem?_cons_zero, List.getElem?_cons_succ, decide_true, decide_false, if_true, if_false, Bool.true_eq_false, Bool.false_eq_true, Bool.not_true, Bool.not_false]; rfl

theorem loop73 (hl : l.length < 2 ^ 40) (hn : 0 ≤ n ∧ n ≤ 8) : ∀ (c i : Nat), l.length - i = c → i ≤ l.length → L8_14 [Rw enc nl tg l, I n, I i] [] [] = some ([I (if dec (∃ q, i ≤ q ∧ q < l.length ∧ (Th l q < 0 ∨ n ≤ Th l q)) = true then 1 else 0)], []) := by
  intro c
  induction c with
  | zero =>
    intro i hc hi
    have : i = l.length := by omega
    subst this
    rw [L8_14_eq, if_neg (fun h => by obtain ⟨q, h1, h2, _⟩ := dec_iff.mp h; omega)]
    simp only [Int.lt_irrefl, obs, oms, bin_add, bin_sub, bin_lss, bin_leq, bin_gtr, bin_geq, bin_eql, bin_neq, bin_eqlB, bin_neqB, un_not, cond_B, gd_B, gd_undef, gdH_B, gdH_undef, pickA_B, extractA_tup, lenA_sl, lenA_row, fldA_fp, fldA_ptr, fldA_rptr, List.getElem?_cons_zero, List.getElem?_cons_succ, decide_true, decide_false, if_true, if_false, Bool.true_eq_false, Bool.false_eq_true, Bool.not_true, Bool.not_false]
    rfl
  | succ c ih =>
    intro i hc hi
    have hi' : i < l.length := by omega
    have hlt : (i : Int) < l.length := by omega
    have w1 : IntKind.i64.wrap (n - 1) = n - 1 := wrap_id (by omega)
    have w2 : IntKind.i64.wrap ((i : Int) + 1) = ((i + 1 : Nat) : Int) := by rw [wrap_id (by omega), nxt]
    rw [L8_14_eq]
    by_cases hb : Th l i < 0 ∨ n ≤ Th l i
    · rw [if_pos (dec_iff.mpr ⟨i, Nat.le_refl _, hi', hb⟩)]
      have hf : (decide (0 ≤ Th l i) && decide (Th l i ≤ n - 1)) = false := by
        simp only [Bool.and_eq_false_iff, decide_eq_false_iff_not]
        omega
      simp only [hlt, idxE hi', fT hi', w1, call83, hf, obs, oms, bin_add, bin_sub, bin_lss, bin_leq, bin_gtr, bin_geq, bin_eql, bin_neq, bin_eqlB, bin_neqB, un_not, cond_B, gd_B, gd_undef, gdH_B, gdH_undef, pickA_B, extractA_tup, lenA_sl, lenA_row, fldA_fp, fldA_ptr, fldA_rptr, List.getElem?_cons_zero, List.getElem?_cons_succ, decide_true, decide_false, if_true, if_false, Bool.true_eq_false, Bool.false_eq_true, Bool.not_true, Bool.not_false]
      rfl
    · have hf : (decide (0 ≤ Th l i) && decide (Th l i ≤ n - 1)) = true := by
        simp only [Bool.and_eq_true, decide_eq_true_eq]
        omega
      have := ih (i + 1) (by omega) (by omega)
      have ed : dec (∃ q, i + 1 ≤ q ∧ q < l.length ∧ (Th l q < 0 ∨ n ≤ Th l q)) = dec (∃ q, i ≤ q ∧ q < l.length ∧ (Th l q < 0 ∨ n ≤ Th l q)) := dec_congr
        ⟨fun ⟨q, h1, h2, h3⟩ => ⟨q, by omega, h2, h3⟩, fun ⟨q, h1, h2, h3⟩ => by
          by_cases e : q = i
          · rw [e] at h3; exact (hb h3).elim
          · exact ⟨q, by omega, h2, h3⟩⟩
      rw [ed] at this
      simp only [hlt, idxE hi', fT hi', w1, call83, hf, w2, obs, oms, bin_add, bin_sub, bin_lss, bin_leq, bin_gtr, bin_geq, bin_eql, bin_neq, bin_eqlB, bin_neqB, un_not, cond_B, gd_B, gd_undef, gdH_B, gdH_undef, pickA_B, extractA_tup, lenA_sl, lenA_row, fldA_fp, fldA_ptr, fldA_rptr, List.getElem?_cons_zero, List.getElem?_cons_succ, decide_true, decide_false, if_true, if_false, Bool.true_eq_false, Bool.false_eq_true, Bool.not_true, Bool.not_false]
      exact this

theorem ent73 : O.ent 8 [Rw enc nl tg l, I n] [] [] = some ([I (code l n)], []) := by
  rw [f8_eq]
  by_cases h1 : 200 < l.length
  · have h1' : (200 : Int) < l.length := by omega
    simp only [h1', code, h1, obs, oms, bin_add, bin_sub, bin_lss, bin_leq, bin_gtr, bin_geq, bin_eql, bin_neq, bin_eqlB, bin_neqB, un_not, cond_B, gd_B, gd_undef, gdH_B, gdH_undef, pickA_B, extractA_tup, lenA_sl, lenA_row, fldA_fp, fldA_ptr, fldA_rptr, List.getElem?_cons_zero, List.getElem?_cons_succ, decide_true, decide_false, if_true, if_false, Bool.true_eq_false, Bool.false_eq_true, Bool.not_true, Bool.not_false]
    rfl
  have h1' : ¬ (200 : Int) < l.length := by omega
  by_cases h2 : n < 0 ∨ 8 < n
  · have hf : (decide (0 ≤ n) && decide (n ≤ 8)) = false := by
      simp only [Bool.and_eq_false_iff, decide_eq_false_iff_not]
      omega
    simp only [h1', call83, hf, code, h1, h2, obs, oms, bin_add, bin_sub, bin_lss, bin_leq, bin_gtr, bin_geq, bin_eql, bin_neq, bin_eqlB, bin_neqB, un_not, cond_B, gd_B, gd_undef, gdH_B, gdH_undef, pickA_B, extractA_tup, lenA_sl, lenA_row, fldA_fp, fldA_ptr, fldA_rptr, List.getElem?_cons_zero, List.getElem?_cons_succ, decide_true, decide_false, if_true, if_false, Bool.true_eq_false, Bool.false_eq_true, Bool.not_true, Bool.not_false]
    rfl
  have hf : (decide (0 ≤ n) && decide (n ≤ 8)) = true := by
    simp only [Bool.and_eq_true, decide_eq_true_eq]
    omega
  have hl : l.length < 2 ^ 40 := by omega
  have := loop73 (nl := nl) (tg := tg) (n := n) hl (by omega) l.length 0 rfl (by omega)
  simp only [h1', call83, hf, code, h1, h2, obs, oms, bin_add, bin_sub, bin_lss, bin_leq, bin_gtr, bin_geq, bin_eql, bin_neq, bin_eqlB, bin_neqB, un_not, cond_B, gd_B, gd_undef, gdH_B, gdH_undef, pickA_B, extractA_tup, lenA_sl, lenA_row, fldA_fp, fldA_ptr, fldA_rptr, List.getElem?_cons_zero, List.getElem?_cons_succ, decide_true, decide_false, if_true, if_false, Bool.true_eq_false, Bool.false_eq_true, Bool.not_true, Bool.not_false]
  rw [show (0 : Int) = ((0 : Nat) : Int) from rfl, this]
  simp only [Nat.zero_le, true_and]
  rfl

/-! ### Edges -/
theorem ent72 : ∃ n2 t2 S, O.ent 17 [Rw enc nl tg l, I n] [] [] = some ([Rw encP n2 t2 S, I (code l n)], []) ∧ (code l n ≠ 0 → S = []) ∧ (code l n = 0 → S.Pairwise plt ∧ MemE l S ∧ S.length ≤ 100000) := by
  have c127 : callA cfg O 24 [Rw enc nl tg l, I n] [] [] = some (I (code l n), []) := callA_pure (xs := [.sl nl tg l.length (l.flatMap enc), Ia n]) (rs := [I (code l n)]) rfl ent127 rfl
  rw [f17_eq]
  by_cases h : code l n = 0
  · have hl : l.length ≤ 200 := by
      refine Nat.not_lt.mp fun h2 => ?_
      unfold code at h
      rw [if_pos h2] at h
      omega
    obtain ⟨n2, t2, S, e, r⟩ := ent128 (nl := nl) (tg := tg) hl
    have c128 : callA cfg O 29 [Rw enc nl tg l] [] [] = some (Rw encP n2 t2 S, []) := callA_pure (xs := [.sl nl tg l.length (l.flatMap enc)]) (rs := [Rw encP n2 t2 S]) rfl e rfl
    refine ⟨n2, t2, S, ?_, fun h2 => (h2 h).elim, fun _ => r⟩
    simp only [c127, h, c128, obs, oms, bin_add, bin_sub, bin_lss, bin_leq, bin_gtr, bin_geq, bin_eql, bin_neq, bin_eqlB, bin_neqB, un_not, cond_B, gd_B, gd_undef, gdH_B, gdH_undef, pickA_B, extractA_tup, lenA_sl, lenA_row, fldA_fp, fldA_ptr, fldA_rptr, List.getElem?_cons_zero, List.getElem?_cons_succ, decide_true, decide_false, if_true, if_false, Bool.true_eq_false, Bool.false_eq_true, Bool.not_true, Bool.not_false]
    rfl
  · refine ⟨some true, true, [], ?_, fun _ => rfl, fun h2 => (h h2).elim⟩
    simp only [c127, h, obs, oms, bin_add, bin_sub, bin_lss, bin_leq, bin_gtr, bin_geq, bin_eql, bin_neq, bin_eqlB, bin_neqB, un_not, cond_B, gd_B, gd_undef, gdH_B, gdH_undef, pickA_B, extractA_tup, lenA_sl, lenA_row, fldA_fp, fldA_ptr, fldA_rptr, List.getElem?_cons_zero, List.getElem?_cons_succ, decide_true, decide_false, if_true, if_false, Bool.true_eq_false, Bool.false_eq_true, Bool.not_true, Bool.not_false]
    rfl

/-! ### The reference's order -/
noncomputable def rw' (l : List E) (j i : Nat) : List P2 := (flt (fun q => dec (ED l q j)) i).map fun x => (x, (j : Int))
noncomputable def rf (l : List E) : Nat → List P2
  | 0 => []
  | j + 1 => rf l j ++ rw' l j j
theorem rw_succ (j i : Nat) : rw' l j (i + 1) = rw' l j i ++ if dec (ED l i j) = true then [((i : Int), (j : Int))] else [] := by
  unfold rw'
  rw [flt_succ, List.map_append]
  congr 1
  split <;> rfl
theorem mem_rw (j i : Nat) (p : P2) : p ∈ rw' l j i ↔ ∃ q : Nat, p = ((q : Int), (j : Int)) ∧ q < i ∧ ED l q j := by
  unfold rw'
  simp only [List.mem_map, mem_flt, dec_iff]
  constructor
  · rintro ⟨x, ⟨q, rfl, h⟩, rfl⟩; exact ⟨q, rfl, h⟩
  · rintro ⟨q, rfl, h⟩; exact ⟨q, ⟨q, rfl, h⟩, rfl⟩
theorem mem_rf (j : Nat) (p : P2) : p ∈ rf l j ↔ ∃ i y : Nat, p = ((i : Int), (y : Int)) ∧ y < j ∧ ED l i y := by
  induction j with
  | zero => exact ⟨fun h => (by cases h), fun ⟨_, _, _, h, _⟩ => by omega⟩
  | succ j ih =>
    rw [rf, List.mem_append, ih, mem_rw]
    constructor
    · rintro (⟨i, y, e, h1, h2⟩ | ⟨q, e, h1, h2⟩)
      · exact ⟨i, y, e, by omega, h2⟩
      · exact ⟨q, j, e, by omega, h2⟩
    · rintro ⟨i, y, e, h1, h2⟩
      by_cases hy : y = j
      · subst hy; exact .inr ⟨i, e, h2.1, h2⟩
      · exact .inl ⟨i, y, e, by omega, h2⟩
theorem rw_sorted (j : Nat) : ∀ i, (rw' l j i).Pairwise plt := by
  intro i
  induction i with
  | zero => exact .nil
  | succ i ih =>
    rw [rw_succ]
    refine List.pairwise_append.mpr ⟨ih, ?_, fun x hx y hy => ?_⟩
    · split
      · exact List.pairwise_singleton ..
      · exact .nil
    · obtain ⟨q, rfl, h1, _⟩ := (mem_rw j i x).mp hx
      split at hy
      · simp only [List.mem_singleton] at hy; subst hy; exact .inr ⟨rfl, by show (q : Int) < i; omega⟩
      · cases hy
theorem rf_sorted : ∀ j, (rf l j).Pairwise plt := by
  intro j
  induction j with
  | zero => exact .nil
  | succ j ih =>
    refine List.pairwise_append.mpr ⟨ih, rw_sorted j j, fun x hx y hy => ?_⟩
    obtain ⟨i, z, rfl, h1, _⟩ := (mem_rf j x).mp hx
    obtain ⟨q, rfl, _, _⟩ := (mem_rw j j y).mp hy
    exact .inl (by show (z : Int) < j; omega)
theorem rf_pre {j : Nat} : ∀ {m : Nat}, j ≤ m → rf l j <+: rf l m := by
  intro m h
  induction m with
  | zero => have : j = 0 := by omega
            subst this; exact List.prefix_refl _
  | succ m ih =>
    by_cases e : j = m + 1
    · subst e; exact List.prefix_refl _
    · exact (ih (by omega)).trans ⟨_, rfl⟩
theorem rw_pre (j : Nat) {i : Nat} : ∀ {m : Nat}, i ≤ m → rw' l j i <+: rw' l j m := by
  intro m h
  induction m with
  | zero => have : i = 0 := by omega
            subst this; exact List.prefix_refl _
  | succ m ih =>
    by_cases e : i = m + 1
    · subst e; exact List.prefix_refl _
    · rw [rw_succ]; exact (ih (by omega)).trans ⟨_, rfl⟩
/-- The next edge stands at its place. -/
theorem rf_at {i j m : Nat} (hj : j < m) (hi : i < j) (h : ED l i j) : (rf l m)[(rf l j ++ rw' l j i).length]? = some ((i : Int), (j : Int)) := by
  obtain ⟨t, ht⟩ := rf_pre (l := l) (show j + 1 ≤ m from hj)
  obtain ⟨t2, ht2⟩ := rw_pre (l := l) j (show i + 1 ≤ j from hi)
  rw [← ht, rf, ← ht2, rw_succ, if_pos (dec_iff.mpr h)]
  simp [List.getElem?_append]
end
end Cl
end Go.Proofs.Ytfdnamedmjhcfaa

set_option linter.unusedVariables false
set_option linter.unusedSimpArgs false
namespace Go.Proofs.Ytfdnamedmjhcfaa
open Go Go.AM
namespace Cl

section
variable {l : List E} {nl : Option Bool} {tg : Bool} {n : Int}

theorem bests_min (x y : Int) : bests false (I x) [I y] = some (I (min x y)) := by
  simp only [bests, best, if_true, Option.bind_some, Bool.false_eq_true, if_false]
  congr 4
  split <;> omega

theorem call64 (k : Nat) (hk : k < 2 ^ 40) (lo : List Nat) (H : Heap) : ∃ t', callA cfg O 4 [Rw enc nl tg l, I k] lo H = some (Rw enc nl t' (l.take k), H) := by
  have hm : min (l.length : Int) k = ((min l.length k : Nat) : Int) := by omega
  have hln : (l.take k).length = min l.length k := by simp [Nat.min_comm]
  have e : O.ent 4 [Rw enc nl tg l, I k] [] [] = some ([Rw enc nl (tg && decide (((min l.length k : Nat) : Int) = l.length)) (l.take k)], []) := by
    rw [f4_eq]
    simp only [lenA_sl, bests_min, hm, obs]
    rw [cutA_hi (by omega)]
    simp only [obs, Int.toNat_natCast]
    have hx : (l.flatMap enc).take (min l.length k * 12) = (l.take k).flatMap enc := by
      rw [← hln]
      have h2 : l.flatMap enc = (l.take k).flatMap enc ++ (l.drop k).flatMap enc := by rw [← List.flatMap_append, List.take_append_drop]
      rw [h2, List.take_append_of_le_length (by rw [rows_length hE]; omega), List.take_of_length_le (by rw [rows_length hE]; omega)]
    rw [hx, ← hln]
    rfl
  exact ⟨_, callA_pure (xs := [.sl nl tg l.length (l.flatMap enc), Ia k]) (rs := [Rw enc nl (tg && decide (((min l.length k : Nat) : Int) = l.length)) (l.take k)]) rfl e rfl⟩

theorem call74 {i j : Nat} (hi : i < l.length) (hj : j < l.length) (hb : l.length < 2 ^ 40) (lo : List Nat) (H : Heap) : callA cfg O 22 [Rw enc nl tg l, I i, I j] lo H = some (B (dec (ED l i j)), H) :=
  callA_pure (xs := [.sl nl tg l.length (l.flatMap enc), Ia i, Ia j]) (rs := [B (dec (ED l i j))]) rfl (ent74 hi hj hb) rfl

end
end Cl
end Go.Proofs.Ytfdnamedmjhcfaa
