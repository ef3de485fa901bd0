import Derived.Test.YtkhbbjfdbbnojaaEClocksEdges
import Derived.Test.YtkhbbjfdbbnojaaTy
import Derived.Test.YtkhbbjfdbbnojaaAm32
set_option linter.unusedVariables false
set_option linter.unusedSimpArgs false
namespace Go.Proofs.Ytkhbbjfdbbnojaa
open Go Go.AM
namespace Cl

abbrev E := A_Event
abbrev enc := enc_Event
theorem hE (p : E) : (enc p).length = 12 := rfl
def avE (e : E) : AV := .agg ((enc e).map .p)
abbrev bxE (e : E) : AObj := .box ((enc e).map .p)
def z0 : E := (0, 0, 0, 0, 0, 0, 0, 0, (0, 0), (0, 0))
def Kn (l : List E) (i : Nat) : Int := (l.getD i z0).1
def Th (l : List E) (i : Nat) : Int := (l.getD i z0).2.2.1
def Ea (l : List E) (i : Nat) : Int := (l.getD i z0).2.2.2.2.2.2.1

section
variable {l : List E} {nl : Option Bool} {tg : Bool}
theorem getl {i : Nat} (h : i < l.length) : l[i] = l.getD i z0 := by simp [List.getD_eq_getElem?_getD, h]
theorem idxE {i : Nat} (h : i < l.length) : idxA 12 (Rw enc nl tg l) (I i) = some (.fp (l.flatMap enc) (i * 12)) := idxR h
theorem fK {i : Nat} (h : i < l.length) (H : Heap) : ld false 1 (.fp (l.flatMap enc) (i * 12 + 0)) H = some (I (Kn l i)) := by rw [fldR hE h (by omega)]; unfold Kn; rw [← getl h]; rfl
theorem fT {i : Nat} (h : i < l.length) (H : Heap) : ld false 1 (.fp (l.flatMap enc) (i * 12 + 2)) H = some (I (Th l i)) := by rw [fldR hE h (by omega)]; unfold Th; rw [← getl h]; rfl
theorem fA {i : Nat} (h : i < l.length) (H : Heap) : ld false 1 (.fp (l.flatMap enc) (i * 12 + 6)) H = some (I (Ea l i)) := by rw [fldR hE h (by omega)]; unfold Ea; rw [← getl h]; rfl
theorem ldEv {i : Nat} (h : i < l.length) (H : Heap) : ld true 12 (.fp (l.flatMap enc) (i * 12)) H = some (avE (l.getD i z0)) := by rw [ldR hE h, getl h]; rfl
theorem ldFv {i : Nat} (h : i < l.length) : ldF true 12 (.fp (l.flatMap enc) (i * 12)) = some (avE (l.getD i z0)) := ldEv h []
theorem bK {H : Heap} {id i : Nat} (h : H[id]? = some (bxE (l.getD i z0))) : ld false 1 (.ptr id (0 + 0)) H = some (I (Kn l i)) := by rw [ld_box h]; rfl
theorem bT {H : Heap} {id i : Nat} (h : H[id]? = some (bxE (l.getD i z0))) : ld false 1 (.ptr id (0 + 2)) H = some (I (Th l i)) := by rw [ld_box h]; rfl
theorem bA {H : Heap} {id i : Nat} (h : H[id]? = some (bxE (l.getD i z0))) : ld false 1 (.ptr id (0 + 6)) H = some (I (Ea l i)) := by rw [ld_box h]; rfl

/-! ### Which event leads to which -/
def NX (l : List E) (i j : Nat) : Prop := Th l i = Th l j ∧ ∀ k, i < k → k < j → Th l k ≠ Th l j
def SP (l : List E) (i j : Nat) : Prop := (Kn l i = 11 ∧ Ea l i = Th l j) ∧ ∀ k, i < k → k < j → Th l k ≠ Th l j
def OV (l : List E) (i j : Nat) : Prop := ((Kn l i = 17 ∧ Kn l j = 12) ∧ Ea l j = Th l i) ∧ ∀ k, i < k → k < j → ¬ (Kn l k = 17 ∧ Th l k = Th l i)
def FR (l : List E) (i j : Nat) : Prop := ((Kn l i = 14 ∧ Kn l j = 13) ∧ Ea l i = Ea l j) ∧ ∀ k, i < k → k < j → ¬ (Kn l k = 13 ∧ Ea l k = Ea l i)
def ED (l : List E) (i j : Nat) : Prop := i < j ∧ (NX l i j ∨ SP l i j ∨ OV l i j ∨ FR l i j)

theorem ball_step {Q : Nat → Prop} {k j : Nat} (h : k < j) : (∀ q, k ≤ q → q < j → Q q) ↔ Q k ∧ ∀ q, k + 1 ≤ q → q < j → Q q := by
  constructor
  · intro hq; exact ⟨hq k (Nat.le_refl _) h, fun q h1 h2 => hq q (by omega) h2⟩
  · intro ⟨h1, h2⟩ q h3 h4
    by_cases e : q = k
    · subst e; exact h1
    · exact h2 q (by omega) h4

open Classical in
noncomputable def dec (p : Prop) : Bool := decide p
theorem dec_iff {p : Prop} : dec p = true ↔ p := by unfold dec; simp
theorem dec_congr {p q : Prop} (h : p ↔ q) : dec p = dec q := by
  rw [Bool.eq_iff_iff, dec_iff, dec_iff]; exact h

theorem loop74 {i j pa pb : Nat} (hi : i < l.length) (hj : j < l.length) (hb : l.length < 2 ^ 40) : ∀ (c k : Nat) (b1 b2 b3 b4 : Bool) (H : Heap), j - k = c → k ≤ j → H[pa]? = some (bxE (l.getD i z0)) → H[pb]? = some (bxE (l.getD j z0)) →
    L74_20 [Rw enc nl tg l, I j, .ptr pa 0, .ptr pb 0, B b1, B b2, B b3, B b4, I k] [] H = some ([B (dec ((b1 = true ∧ ∀ q, k ≤ q → q < j → Th l q ≠ Th l j) ∨ (b2 = true ∧ ∀ q, k ≤ q → q < j → Th l q ≠ Th l j) ∨
      (b3 = true ∧ ∀ q, k ≤ q → q < j → ¬ (Kn l q = 17 ∧ Th l q = Th l i)) ∨ (b4 = true ∧ ∀ q, k ≤ q → q < j → ¬ (Kn l q = 13 ∧ Ea l q = Ea l i))))], []) := by
  intro c
  induction c with
  | zero =>
    intro k b1 b2 b3 b4 H hc hk ha hb'
    have : k = j := by omega
    subst this
    have hv : ∀ (Q : Nat → Prop), (∀ q, k ≤ q → q < k → Q q) ↔ True := fun Q => ⟨fun _ => trivial, fun _ q h1 h2 => by omega⟩
    rw [L74_20_eq]
    have e : dec ((b1 = true ∧ ∀ q, k ≤ q → q < k → Th l q ≠ Th l k) ∨ (b2 = true ∧ ∀ q, k ≤ q → q < k → Th l q ≠ Th l k) ∨
      (b3 = true ∧ ∀ q, k ≤ q → q < k → ¬ (Kn l q = 17 ∧ Th l q = Th l i)) ∨ (b4 = true ∧ ∀ q, k ≤ q → q < k → ¬ (Kn l q = 13 ∧ Ea l q = Ea l i))) = (b1 || b2 || b3 || b4) := by
      rw [Bool.eq_iff_iff, dec_iff]
      simp only [hv, and_true, Bool.or_eq_true]
      simp only [or_assoc]
    rw [e]
    simp only [Int.lt_irrefl, obs, oms, bin_add, bin_sub, bin_lss, bin_leq, bin_gtr, bin_geq, bin_eql, bin_neq, bin_eqlB, bin_neqB, un_not, cond_B, gd_B, gd_undef, gdH_B, gdH_undef, pickA_B, extractA_tup, lenA_sl, lenA_row, fldA_fp, fldA_ptr, fldA_rptr, List.getElem?_cons_zero, List.getElem?_cons_succ, decide_true, decide_false, if_true, if_false, Bool.true_eq_false, Bool.false_eq_true, Bool.not_true, Bool.not_false]
    cases b1 <;> cases b2 <;> cases b3 <;> cases b4 <;> rfl
  | succ c ih =>
    intro k b1 b2 b3 b4 H hc hk ha hb'
    have hkj : k < j := by omega
    have hkl : k < l.length := by omega
    have hlt : (k : Int) < j := by omega
    have hw : IntKind.i64.wrap ((k : Int) + 1) = ((k + 1 : Nat) : Int) := by rw [wrap_id (by omega), nxt]
    have ih' := fun b1 b2 b3 b4 => ih (k + 1) b1 b2 b3 b4 H (by omega) (by omega) ha hb'
    have fin : L74_20 [Rw enc nl tg l, I j, .ptr pa 0, .ptr pb 0, B b1, B b2, B b3, B b4, I k] [] H =
        L74_20 [Rw enc nl tg l, I j, .ptr pa 0, .ptr pb 0, B (if Th l k = Th l j then false else b1), B (if Th l k = Th l j then false else b2), B (if Kn l k = 17 ∧ Th l k = Th l i then false else b3), B (if Kn l k = 13 ∧ Ea l k = Ea l i then false else b4), I ((k + 1 : Nat) : Int)] [] H := by
      have s33 : ∀ x1 x2 x3 : Bool, L74_33 [Rw enc nl tg l, I j, .ptr pa 0, .ptr pb 0, B x1, B x2, B x3, B b4, I k] [] H = L74_20 [Rw enc nl tg l, I j, .ptr pa 0, .ptr pb 0, B x1, B x2, B x3, B (if Kn l k = 13 ∧ Ea l k = Ea l i then false else b4), I ((k + 1 : Nat) : Int)] [] H := by
        intro x1 x2 x3
        rw [L74_33_eq]
        by_cases e1 : Kn l k = 13
        · by_cases e2 : Ea l k = Ea l i
          · rw [if_pos ⟨e1, e2⟩]
            simp only [idxE hkl, fldA_ptr, fK hkl, fA hkl, bA ha, e1, e2, L74_23_eq, hw, obs, oms, bin_add, bin_sub, bin_lss, bin_leq, bin_gtr, bin_geq, bin_eql, bin_neq, bin_eqlB, bin_neqB, un_not, cond_B, gd_B, gd_undef, gdH_B, gdH_undef, pickA_B, extractA_tup, lenA_sl, lenA_row, fldA_fp, fldA_ptr, fldA_rptr, List.getElem?_cons_zero, List.getElem?_cons_succ, decide_true, decide_false, if_true, if_false, Bool.true_eq_false, Bool.false_eq_true, Bool.not_true, Bool.not_false]
          · rw [if_neg (fun h => e2 h.2)]
            simp only [idxE hkl, fldA_ptr, fK hkl, fA hkl, bA ha, e1, e2, L74_23_eq, hw, obs, oms, bin_add, bin_sub, bin_lss, bin_leq, bin_gtr, bin_geq, bin_eql, bin_neq, bin_eqlB, bin_neqB, un_not, cond_B, gd_B, gd_undef, gdH_B, gdH_undef, pickA_B, extractA_tup, lenA_sl, lenA_row, fldA_fp, fldA_ptr, fldA_rptr, List.getElem?_cons_zero, List.getElem?_cons_succ, decide_true, decide_false, if_true, if_false, Bool.true_eq_false, Bool.false_eq_true, Bool.not_true, Bool.not_false]
        · rw [if_neg (fun h => e1 h.1)]
          simp only [idxE hkl, fldA_ptr, fK hkl, e1, L74_23_eq, hw, obs, oms, bin_add, bin_sub, bin_lss, bin_leq, bin_gtr, bin_geq, bin_eql, bin_neq, bin_eqlB, bin_neqB, un_not, cond_B, gd_B, gd_undef, gdH_B, gdH_undef, pickA_B, extractA_tup, lenA_sl, lenA_row, fldA_fp, fldA_ptr, fldA_rptr, List.getElem?_cons_zero, List.getElem?_cons_succ, decide_true, decide_false, if_true, if_false, Bool.true_eq_false, Bool.false_eq_true, Bool.not_true, Bool.not_false]
      have s29 : ∀ x1 x2 : Bool, L74_29 [Rw enc nl tg l, I j, .ptr pa 0, .ptr pb 0, B x1, B x2, B b3, B b4, I k] [] H = L74_20 [Rw enc nl tg l, I j, .ptr pa 0, .ptr pb 0, B x1, B x2, B (if Kn l k = 17 ∧ Th l k = Th l i then false else b3), B (if Kn l k = 13 ∧ Ea l k = Ea l i then false else b4), I ((k + 1 : Nat) : Int)] [] H := by
        intro x1 x2
        rw [L74_29_eq]
        by_cases e1 : Kn l k = 17
        · by_cases e2 : Th l k = Th l i
          · rw [if_pos ⟨e1, e2⟩, ← s33]
            simp only [idxE hkl, fldA_ptr, fK hkl, fT hkl, bT ha, e1, e2, obs, oms, bin_add, bin_sub, bin_lss, bin_leq, bin_gtr, bin_geq, bin_eql, bin_neq, bin_eqlB, bin_neqB, un_not, cond_B, gd_B, gd_undef, gdH_B, gdH_undef, pickA_B, extractA_tup, lenA_sl, lenA_row, fldA_fp, fldA_ptr, fldA_rptr, List.getElem?_cons_zero, List.getElem?_cons_succ, decide_true, decide_false, if_true, if_false, Bool.true_eq_false, Bool.false_eq_true, Bool.not_true, Bool.not_false]
          · rw [if_neg (fun h => e2 h.2), ← s33]
            simp only [idxE hkl, fldA_ptr, fK hkl, fT hkl, bT ha, e1, e2, obs, oms, bin_add, bin_sub, bin_lss, bin_leq, bin_gtr, bin_geq, bin_eql, bin_neq, bin_eqlB, bin_neqB, un_not, cond_B, gd_B, gd_undef, gdH_B, gdH_undef, pickA_B, extractA_tup, lenA_sl, lenA_row, fldA_fp, fldA_ptr, fldA_rptr, List.getElem?_cons_zero, List.getElem?_cons_succ, decide_true, decide_false, if_true, if_false, Bool.true_eq_false, Bool.false_eq_true, Bool.not_true, Bool.not_false]
        · rw [if_neg (fun h => e1 h.1), ← s33]
          simp only [idxE hkl, fldA_ptr, fK hkl, e1, obs, oms, bin_add, bin_sub, bin_lss, bin_leq, bin_gtr, bin_geq, bin_eql, bin_neq, bin_eqlB, bin_neqB, un_not, cond_B, gd_B, gd_undef, gdH_B, gdH_undef, pickA_B, extractA_tup, lenA_sl, lenA_row, fldA_fp, fldA_ptr, fldA_rptr, List.getElem?_cons_zero, List.getElem?_cons_succ, decide_true, decide_false, if_true, if_false, Bool.true_eq_false, Bool.false_eq_true, Bool.not_true, Bool.not_false]
      rw [L74_20_eq]
      by_cases e1 : Th l k = Th l j
      · rw [if_pos e1, if_pos e1, ← s29]
        simp only [hlt, idxE hkl, fldA_ptr, fT hkl, bT hb', e1, obs, oms, bin_add, bin_sub, bin_lss, bin_leq, bin_gtr, bin_geq, bin_eql, bin_neq, bin_eqlB, bin_neqB, un_not, cond_B, gd_B, gd_undef, gdH_B, gdH_undef, pickA_B, extractA_tup, lenA_sl, lenA_row, fldA_fp, fldA_ptr, fldA_rptr, List.getElem?_cons_zero, List.getElem?_cons_succ, decide_true, decide_false, if_true, if_false, Bool.true_eq_false, Bool.false_eq_true, Bool.not_true, Bool.not_false]
      · rw [if_neg e1, if_neg e1, ← s29]
        simp only [hlt, idxE hkl, fldA_ptr, fT hkl, bT hb', e1, obs, oms, bin_add, bin_sub, bin_lss, bin_leq, bin_gtr, bin_geq, bin_eql, bin_neq, bin_eqlB, bin_neqB, un_not, cond_B, gd_B, gd_undef, gdH_B, gdH_undef, pickA_B, extractA_tup, lenA_sl, lenA_row, fldA_fp, fldA_ptr, fldA_rptr, List.getElem?_cons_zero, List.getElem?_cons_succ, decide_true, decide_false, if_true, if_false, Bool.true_eq_false, Bool.false_eq_true, Bool.not_true, Bool.not_false]
    rw [fin, ih']
    congr 4
    apply dec_congr
    have cut : ∀ (b : Bool) (Q : Nat → Prop) (R : Prop) (hd : Decidable R) (hR : R ↔ ¬ Q k), ((if R then false else b) = true ∧ ∀ q, k + 1 ≤ q → q < j → Q q) ↔ (b = true ∧ ∀ q, k ≤ q → q < j → Q q) := by
      intro b Q R hd hR
      rw [ball_step hkj]
      by_cases hr : R
      · rw [if_pos hr]
        exact ⟨fun h => (by cases h.1), fun h => (hR.mp hr h.2.1).elim⟩
      · rw [if_neg hr]
        have : Q k := Classical.byContradiction fun h => hr (hR.mpr h)
        exact ⟨fun h => ⟨h.1, this, h.2⟩, fun h => ⟨h.1, h.2.2⟩⟩
    rw [cut b1 (fun q => Th l q ≠ Th l j) (Th l k = Th l j) _ (by simp), cut b2 (fun q => Th l q ≠ Th l j) (Th l k = Th l j) _ (by simp),
      cut b3 (fun q => ¬ (Kn l q = 17 ∧ Th l q = Th l i)) (Kn l k = 17 ∧ Th l k = Th l i) _ (by simp), cut b4 (fun q => ¬ (Kn l q = 13 ∧ Ea l q = Ea l i)) (Kn l k = 13 ∧ Ea l k = Ea l i) _ (by simp)]

theorem fill0 (cs : List PV) (h : 0 < cs.length) : fillA 2 0 (cs.map .p) ([] ++ List.replicate 2 AObj.hole) = some (.ptr 0 0, [.box (cs.map .p), .hole]) := by
  have hp : pvCells (cs.map .p) = some cs := by
    induction cs with
    | nil => rfl
    | cons x cs ih =>
      by_cases hc : cs = []
      · subst hc; rfl
      · simp only [List.map_cons, pvCells, ih (List.length_pos_iff.mpr hc), oms]
  unfold fillA
  simp only [hp, List.nil_append]
  simp [List.replicate, h]
theorem fill1 (cs : List PV) (h : 0 < cs.length) (o : AObj) : fillA 2 1 (cs.map .p) [o, .hole] = some (.ptr 1 0, [o, .box (cs.map .p)]) := by
  have hp : pvCells (cs.map .p) = some cs := by
    induction cs with
    | nil => rfl
    | cons x cs ih =>
      by_cases hc : cs = []
      · subst hc; rfl
      · simp only [List.map_cons, pvCells, ih (List.length_pos_iff.mpr hc), oms]
  unfold fillA
  simp only [hp]
  simp [h]

theorem ent74 {i j : Nat} (hi : i < l.length) (hj : j < l.length) (hb : l.length < 2 ^ 40) : O.ent 74 [Rw enc nl tg l, I i, I j] [] [] = some ([B (dec (ED l i j))], []) := by
  rw [f74_eq]
  by_cases hij : j ≤ i
  · have e : dec (ED l i j) = false := by
      cases h : dec (ED l i j) with
      | false => rfl
      | true => have := (dec_iff.mp h).1; omega
    rw [e]
    have h1 : (j : Int) ≤ i := by omega
    simp only [h1, obs, oms, bin_add, bin_sub, bin_lss, bin_leq, bin_gtr, bin_geq, bin_eql, bin_neq, bin_eqlB, bin_neqB, un_not, cond_B, gd_B, gd_undef, gdH_B, gdH_undef, pickA_B, extractA_tup, lenA_sl, lenA_row, fldA_fp, fldA_ptr, fldA_rptr, List.getElem?_cons_zero, List.getElem?_cons_succ, decide_true, decide_false, if_true, if_false, Bool.true_eq_false, Bool.false_eq_true, Bool.not_true, Bool.not_false]
    rfl
  · have h1 : ¬ (j : Int) ≤ i := by omega
    have z12 : ([(I 0), (I 0), (I 0), (I 0), (I 0), (I 0), (I 0), (I 0), (I 0), (I 0), (I 0), (I 0)] : List AV) = (List.replicate 12 (Ia 0)).map .p := rfl
    have f0 := fill0 (List.replicate 12 (Ia 0)) (by simp)
    have f1 := fill1 (List.replicate 12 (Ia 0)) (by simp) (.box ((List.replicate 12 (Ia 0)).map .p))
    have s0 : ∀ o : AObj, stA 12 (.ptr 0 0) (avE (l.getD i z0)) [] [.box ((List.replicate 12 (Ia 0)).map .p), o] = some [bxE (l.getD i z0), o] := fun o => by
      rw [avE, stA_box (n := 12) (off := 0) (y := .agg ((enc (l.getD i z0)).map .p)) (xs := (List.replicate 12 (Ia 0)).map .p) rfl rfl (by simp) (leaves_p _) (okLevels_p [] _ _) (by simp)]
      simp only [AV.cells]
      rw [splice_all (by simp [hE])]
      rfl
    have s1 : ∀ o : AObj, stA 12 (.ptr 1 0) (avE (l.getD j z0)) [] [o, .box ((List.replicate 12 (Ia 0)).map .p)] = some [o, bxE (l.getD j z0)] := fun o => by
      rw [avE, stA_box (n := 12) (off := 0) (y := .agg ((enc (l.getD j z0)).map .p)) (xs := (List.replicate 12 (Ia 0)).map .p) rfl rfl (by simp) (leaves_p _) (okLevels_p [] _ _) (by simp)]
      simp only [AV.cells]
      rw [splice_all (by simp [hE])]
      rfl
    have ha : ([bxE (l.getD i z0), bxE (l.getD j z0)] : Heap)[0]? = some (bxE (l.getD i z0)) := rfl
    have hb' : ([bxE (l.getD i z0), bxE (l.getD j z0)] : Heap)[1]? = some (bxE (l.getD j z0)) := rfl
    have hw : IntKind.i64.wrap ((i : Int) + 1) = ((i + 1 : Nat) : Int) := by rw [wrap_id (by omega), nxt]
    have hl := loop74 (nl := nl) (tg := tg) (pa := 0) (pb := 1) hi hj hb (j - (i + 1)) (i + 1) (decide (Th l i = Th l j)) (decide (Kn l i = 11) && decide (Ea l i = Th l j)) (decide (Kn l i = 17) && decide (Kn l j = 12) && decide (Ea l j = Th l i)) (decide (Kn l i = 14) && decide (Kn l j = 13) && decide (Ea l i = Ea l j)) [bxE (l.getD i z0), bxE (l.getD j z0)] rfl (by omega) ha hb'
    have e : dec (ED l i j) = dec (((decide (Th l i = Th l j)) = true ∧ ∀ q, i + 1 ≤ q → q < j → Th l q ≠ Th l j) ∨ ((decide (Kn l i = 11) && decide (Ea l i = Th l j)) = true ∧ ∀ q, i + 1 ≤ q → q < j → Th l q ≠ Th l j) ∨
      ((decide (Kn l i = 17) && decide (Kn l j = 12) && decide (Ea l j = Th l i)) = true ∧ ∀ q, i + 1 ≤ q → q < j → ¬ (Kn l q = 17 ∧ Th l q = Th l i)) ∨ ((decide (Kn l i = 14) && decide (Kn l j = 13) && decide (Ea l i = Ea l j)) = true ∧ ∀ q, i + 1 ≤ q → q < j → ¬ (Kn l q = 13 ∧ Ea l q = Ea l i))) := by
      apply dec_congr
      unfold ED NX SP OV FR
      have hij' : i < j := by omega
      simp only [hij', true_and, decide_eq_true_eq, Bool.and_eq_true]
      exact Iff.rfl
    rw [e, ← hl]
    simp only [h1, idxE hi, idxE hj, ldEv hi, ldEv hj, ldFv hi, ldFv hj, z12, f0, f1, s0, s1, fldA_ptr, bT ha, bT hb', bK ha, bK hb', bA ha, bA hb', hw, obs, oms, bin_add, bin_sub, bin_lss, bin_leq, bin_gtr, bin_geq, bin_eql, bin_neq, bin_eqlB, bin_neqB, un_not, cond_B, gd_B, gd_undef, gdH_B, gdH_undef, pickA_B, extractA_tup, lenA_sl, lenA_row, fldA_fp, fldA_ptr, fldA_rptr, List.getElem?_cons_zero, List.getElem?_cons_succ, decide_true, decide_false, if_true, if_false, Bool.true_eq_false, Bool.false_eq_true, Bool.not_true, Bool.not_false]
    by_cases a1 : Kn l i = 11
    · by_cases a2 : Kn l i = 17
      · omega
      · by_cases a3 : Kn l i = 14
        · omega
        · simp only [a1, bA ha, bA hb', bT ha, bT hb', bK ha, bK hb', hw, obs, oms, bin_add, bin_sub, bin_lss, bin_leq, bin_gtr, bin_geq, bin_eql, bin_neq, bin_eqlB, bin_neqB, un_not, cond_B, gd_B, gd_undef, gdH_B, gdH_undef, pickA_B, extractA_tup, lenA_sl, lenA_row, fldA_fp, fldA_ptr, fldA_rptr, List.getElem?_cons_zero, List.getElem?_cons_succ, decide_true, decide_false, if_true, if_false, Bool.true_eq_false, Bool.false_eq_true, Bool.not_true, Bool.not_false]
          rfl
    · by_cases a2 : Kn l i = 17
      · by_cases a3 : Kn l j = 12
        · simp only [a1, a2, a3, bA ha, bA hb', bT ha, bT hb', bK ha, bK hb', hw, obs, oms, bin_add, bin_sub, bin_lss, bin_leq, bin_gtr, bin_geq, bin_eql, bin_neq, bin_eqlB, bin_neqB, un_not, cond_B, gd_B, gd_undef, gdH_B, gdH_undef, pickA_B, extractA_tup, lenA_sl, lenA_row, fldA_fp, fldA_ptr, fldA_rptr, List.getElem?_cons_zero, List.getElem?_cons_succ, decide_true, decide_false, if_true, if_false, Bool.true_eq_false, Bool.false_eq_true, Bool.not_true, Bool.not_false]
          rfl
        · simp only [a1, a2, a3, bA ha, bA hb', bT ha, bT hb', bK ha, bK hb', hw, obs, oms, bin_add, bin_sub, bin_lss, bin_leq, bin_gtr, bin_geq, bin_eql, bin_neq, bin_eqlB, bin_neqB, un_not, cond_B, gd_B, gd_undef, gdH_B, gdH_undef, pickA_B, extractA_tup, lenA_sl, lenA_row, fldA_fp, fldA_ptr, fldA_rptr, List.getElem?_cons_zero, List.getElem?_cons_succ, decide_true, decide_false, if_true, if_false, Bool.true_eq_false, Bool.false_eq_true, Bool.not_true, Bool.not_false]
          rfl
      · by_cases a3 : Kn l i = 14
        · by_cases a4 : Kn l j = 13
          · simp only [a1, a2, a3, a4, bA ha, bA hb', bT ha, bT hb', bK ha, bK hb', hw, obs, oms, bin_add, bin_sub, bin_lss, bin_leq, bin_gtr, bin_geq, bin_eql, bin_neq, bin_eqlB, bin_neqB, un_not, cond_B, gd_B, gd_undef, gdH_B, gdH_undef, pickA_B, extractA_tup, lenA_sl, lenA_row, fldA_fp, fldA_ptr, fldA_rptr, List.getElem?_cons_zero, List.getElem?_cons_succ, decide_true, decide_false, if_true, if_false, Bool.true_eq_false, Bool.false_eq_true, Bool.not_true, Bool.not_false]
            rfl
          · simp only [a1, a2, a3, a4, bA ha, bA hb', bT ha, bT hb', bK ha, bK hb', hw, obs, oms, bin_add, bin_sub, bin_lss, bin_leq, bin_gtr, bin_geq, bin_eql, bin_neq, bin_eqlB, bin_neqB, un_not, cond_B, gd_B, gd_undef, gdH_B, gdH_undef, pickA_B, extractA_tup, lenA_sl, lenA_row, fldA_fp, fldA_ptr, fldA_rptr, List.getElem?_cons_zero, List.getElem?_cons_succ, decide_true, decide_false, if_true, if_false, Bool.true_eq_false, Bool.false_eq_true, Bool.not_true, Bool.not_false]
            rfl
        · simp only [a1, a2, a3, bA ha, bA hb', bT ha, bT hb', bK ha, bK hb', hw, obs, oms, bin_add, bin_sub, bin_lss, bin_leq, bin_gtr, bin_geq, bin_eql, bin_neq, bin_eqlB, bin_neqB, un_not, cond_B, gd_B, gd_undef, gdH_B, gdH_undef, pickA_B, extractA_tup, lenA_sl, lenA_row, fldA_fp, fldA_ptr, fldA_rptr, List.getElem?_cons_zero, List.getElem?_cons_succ, decide_true, decide_false, if_true, if_false, Bool.true_eq_false, Bool.false_eq_true, Bool.not_true, Bool.not_false]
          rfl
end
end Cl
end Go.Proofs.Ytkhbbjfdbbnojaa
