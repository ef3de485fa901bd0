import Derived.Test.YtkhbbjfdbbnojaaCkU
set_option linter.unusedVariables false
set_option linter.unusedSimpArgs false
namespace Go.Proofs.Ytkhbbjfdbbnojaa
open Go Go.AM Go.AM.Ck
namespace Cl

section
variable {l : List E} {nl : Option Bool} {tg : Bool} {n : Int} {n2 : Option Bool} {t2 : Bool}

theorem code0 (h : code l n = 0) : ∃ th : Nat, n = th ∧ th ≤ 8 ∧ l.length ≤ 200 ∧ ∀ i, i < l.length → 0 ≤ Th l i ∧ Th l i < th := by
  unfold code at h
  by_cases h1 : 200 < l.length
  · rw [if_pos h1] at h; omega
  rw [if_neg h1] at h
  by_cases h2 : n < 0 ∨ 8 < n
  · rw [if_pos h2] at h; omega
  rw [if_neg h2] at h
  by_cases h3 : dec (∃ i, i < l.length ∧ (Th l i < 0 ∨ n ≤ Th l i)) = true
  · rw [if_pos h3] at h; omega
  refine ⟨n.toNat, by omega, by omega, by omega, fun i hi => ?_⟩
  have : ¬ (Th l i < 0 ∨ n ≤ Th l i) := fun h4 => h3 (dec_iff.mpr ⟨i, hi, h4⟩)
  omega

def pcode (l : List E) (c i j : Int) : Int := if c = 0 ∧ (i < 0 ∨ (l.length : Int) ≤ i ∨ j < 0 ∨ (l.length : Int) ≤ j) then 1 else c

theorem call127 (lo : List Nat) (H : Heap) : callA cfg O 127 [Rw enc nl tg l, I n] lo H = some (I (code l n), H) := callA_pure (xs := [.sl nl tg l.length (l.flatMap enc), Ia n]) (rs := [I (code l n)]) rfl ent127 rfl

theorem call130 (i j : Int) (lo : List Nat) (H : Heap) : callA cfg O 130 [Rw enc nl tg l, I n, I i, I j] lo H = some (I (pcode l (code l n) i j), H) := by
  refine callA_pure (xs := [.sl nl tg l.length (l.flatMap enc), Ia n, Ia i, Ia j]) (H' := []) (rs := [I (pcode l (code l n) i j)]) rfl ?_ rfl
  show O.ent 130 [Rw enc nl tg l, I n, I i, I j] [] [] = _
  rw [f130_eq]
  simp only [call127, lenA_sl, obs]
  by_cases h : code l n = 0 ∧ (i < 0 ∨ (l.length : Int) ≤ i ∨ j < 0 ∨ (l.length : Int) ≤ j)
  · have hp : pcode l (code l n) i j = 1 := if_pos h
    rw [hp]
    obtain ⟨h1, h⟩ := h
    by_cases h2 : i < 0
    · simp only [h1, h2, L130_11_eq, obs, oms, bin_add, bin_sub, bin_lss, bin_leq, bin_gtr, bin_geq, bin_eql, bin_neq, bin_eqlB, bin_neqB, un_not, cond_B, gd_B, gd_undef, gdH_B, gdH_undef, pickA_B, extractA_tup, lenA_sl, lenA_row, fldA_fp, fldA_ptr, fldA_rptr, List.getElem?_cons_zero, List.getElem?_cons_succ, decide_true, decide_false, if_true, if_false, Bool.true_eq_false, Bool.false_eq_true, Bool.not_true, Bool.not_false]; rfl
    · by_cases h3 : (l.length : Int) ≤ i
      · simp only [h1, h2, h3, L130_11_eq, obs, oms, bin_add, bin_sub, bin_lss, bin_leq, bin_gtr, bin_geq, bin_eql, bin_neq, bin_eqlB, bin_neqB, un_not, cond_B, gd_B, gd_undef, gdH_B, gdH_undef, pickA_B, extractA_tup, lenA_sl, lenA_row, fldA_fp, fldA_ptr, fldA_rptr, List.getElem?_cons_zero, List.getElem?_cons_succ, decide_true, decide_false, if_true, if_false, Bool.true_eq_false, Bool.false_eq_true, Bool.not_true, Bool.not_false]; rfl
      · by_cases h4 : j < 0
        · simp only [h1, h2, h3, h4, L130_11_eq, obs, oms, bin_add, bin_sub, bin_lss, bin_leq, bin_gtr, bin_geq, bin_eql, bin_neq, bin_eqlB, bin_neqB, un_not, cond_B, gd_B, gd_undef, gdH_B, gdH_undef, pickA_B, extractA_tup, lenA_sl, lenA_row, fldA_fp, fldA_ptr, fldA_rptr, List.getElem?_cons_zero, List.getElem?_cons_succ, decide_true, decide_false, if_true, if_false, Bool.true_eq_false, Bool.false_eq_true, Bool.not_true, Bool.not_false]; rfl
        · have h5 : (l.length : Int) ≤ j := by omega
          simp only [h1, h2, h3, h4, h5, L130_11_eq, obs, oms, bin_add, bin_sub, bin_lss, bin_leq, bin_gtr, bin_geq, bin_eql, bin_neq, bin_eqlB, bin_neqB, un_not, cond_B, gd_B, gd_undef, gdH_B, gdH_undef, pickA_B, extractA_tup, lenA_sl, lenA_row, fldA_fp, fldA_ptr, fldA_rptr, List.getElem?_cons_zero, List.getElem?_cons_succ, decide_true, decide_false, if_true, if_false, Bool.true_eq_false, Bool.false_eq_true, Bool.not_true, Bool.not_false]; rfl
  · have hp : pcode l (code l n) i j = code l n := if_neg h
    rw [hp]
    by_cases h1 : code l n = 0
    · have h2 : ¬ i < 0 := by omega
      have h3 : ¬ (l.length : Int) ≤ i := by omega
      have h4 : ¬ j < 0 := by omega
      have h5 : ¬ (l.length : Int) ≤ j := by omega
      simp only [h1, h2, h3, h4, h5, L130_11_eq, obs, oms, bin_add, bin_sub, bin_lss, bin_leq, bin_gtr, bin_geq, bin_eql, bin_neq, bin_eqlB, bin_neqB, un_not, cond_B, gd_B, gd_undef, gdH_B, gdH_undef, pickA_B, extractA_tup, lenA_sl, lenA_row, fldA_fp, fldA_ptr, fldA_rptr, List.getElem?_cons_zero, List.getElem?_cons_succ, decide_true, decide_false, if_true, if_false, Bool.true_eq_false, Bool.false_eq_true, Bool.not_true, Bool.not_false]; rfl
    · simp only [h1, L130_11_eq, obs, oms, bin_add, bin_sub, bin_lss, bin_leq, bin_gtr, bin_geq, bin_eql, bin_neq, bin_eqlB, bin_neqB, un_not, cond_B, gd_B, gd_undef, gdH_B, gdH_undef, pickA_B, extractA_tup, lenA_sl, lenA_row, fldA_fp, fldA_ptr, fldA_rptr, List.getElem?_cons_zero, List.getElem?_cons_succ, decide_true, decide_false, if_true, if_false, Bool.true_eq_false, Bool.false_eq_true, Bool.not_true, Bool.not_false]; rfl

theorem call129 {th : Nat} (hth : th ≤ 8) (hl : l.length ≤ 200) (hT : ∀ i, i < l.length → 0 ≤ Th l i ∧ Th l i < th) : ∃ n3 t3 ds, (∀ lo H, callA cfg O 129 [Rw enc nl tg l, I th] lo H = some (W n3 t3 ds, H)) ∧ ints ds = (List.range l.length).map fun j => (List.range th).map fun t => (VC l j t : Int) := by
  obtain ⟨H', n3, t3, ds, e, h⟩ := ent129 (nl := nl) (tg := tg) hl hth hT
  exact ⟨n3, t3, ds, fun lo H => callA_pure (xs := [.sl nl tg l.length (l.flatMap enc), Ia th]) (rs := [W n3 t3 ds]) rfl e rfl, h⟩
theorem call131 {th : Nat} {n3 : Option Bool} {t3 : Bool} {ds : List Dd} (hds : ints ds = (List.range l.length).map fun j => (List.range th).map fun t => (VC l j t : Int)) (hT : ∀ i, i < l.length → 0 ≤ Th l i ∧ Th l i < th) {i j : Nat} (hi : i < l.length) (hj : j < l.length) (lo : List Nat) (H : Heap) :
    callA cfg O 131 [Rw enc nl tg l, W n3 t3 ds, I i, I j] lo H = some (B (dec (Bf (ED l) i j)), H) :=
  callA_pure (xs := [.sl nl tg l.length (l.flatMap enc), .sl n3 t3 ds.length (ds.map us), Ia i, Ia j]) (rs := [B (dec (Bf (ED l) i j))]) rfl (ent131 hds hT hi hj) rfl

/-- Of. -/
theorem call75 (lo : List Nat) (H : Heap) : ∃ n3 t3 ds, callA cfg O 75 [Rw enc nl tg l, I n] lo H = some (.tup [W n3 t3 ds, I (code l n)], H) ∧ (code l n ≠ 0 → ds = []) ∧ ∀ th : Nat, n = th → code l n = 0 → ints ds = (List.range l.length).map fun j => (List.range th).map fun t => (VC l j t : Int) := by
  by_cases h : code l n = 0
  · obtain ⟨th, rfl, h1, h2, h3⟩ := code0 h
    obtain ⟨n3, t3, ds, e, hds⟩ := call129 (nl := nl) (tg := tg) h1 h2 h3
    refine ⟨n3, t3, ds, callA_pure (xs := [.sl nl tg l.length (l.flatMap enc), Ia th]) (H' := []) (rs := [W n3 t3 ds, I (code l th)]) rfl ?_ rfl, fun h4 => (h4 h).elim, fun th' e _ => ?_⟩
    · show O.ent 75 [Rw enc nl tg l, I th] [] [] = _
      rw [f75_eq]
      simp only [call127, h, e, obs, oms, bin_add, bin_sub, bin_lss, bin_leq, bin_gtr, bin_geq, bin_eql, bin_neq, bin_eqlB, bin_neqB, un_not, cond_B, gd_B, gd_undef, gdH_B, gdH_undef, pickA_B, extractA_tup, lenA_sl, lenA_row, fldA_fp, fldA_ptr, fldA_rptr, List.getElem?_cons_zero, List.getElem?_cons_succ, decide_true, decide_false, if_true, if_false, Bool.true_eq_false, Bool.false_eq_true, Bool.not_true, Bool.not_false]
      rfl
    · have : th' = th := by omega
      rw [this]; exact hds
  · refine ⟨some true, true, [], callA_pure (xs := [.sl nl tg l.length (l.flatMap enc), Ia n]) (H' := []) (rs := [.p nilS, I (code l n)]) rfl ?_ rfl, fun _ => rfl, fun _ _ h2 => (h h2).elim⟩
    show O.ent 75 [Rw enc nl tg l, I n] [] [] = _
    rw [f75_eq]
    simp only [call127, h, obs, oms, bin_add, bin_sub, bin_lss, bin_leq, bin_gtr, bin_geq, bin_eql, bin_neq, bin_eqlB, bin_neqB, un_not, cond_B, gd_B, gd_undef, gdH_B, gdH_undef, pickA_B, extractA_tup, lenA_sl, lenA_row, fldA_fp, fldA_ptr, fldA_rptr, List.getElem?_cons_zero, List.getElem?_cons_succ, decide_true, decide_false, if_true, if_false, Bool.true_eq_false, Bool.false_eq_true, Bool.not_true, Bool.not_false]
    rfl

/-- Before, Apart: what is told. -/
noncomputable def bfO (l : List E) (c i j : Int) : Bool := dec (pcode l c i j = 0 ∧ Bf (ED l) i.toNat j.toNat)
noncomputable def apO (l : List E) (c i j : Int) : Bool := dec (pcode l c i j = 0 ∧ i ≠ j ∧ ¬ Bf (ED l) i.toNat j.toNat ∧ ¬ Bf (ED l) j.toNat i.toNat)

theorem dec_f {p : Prop} (h : ¬ p) : dec p = false := by
  cases h2 : dec p with
  | false => rfl
  | true => exact (h (dec_iff.mp h2)).elim

theorem pcode0 {c i j : Int} (h : pcode l c i j = 0) : c = 0 ∧ ∃ a b : Nat, i = a ∧ j = b ∧ a < l.length ∧ b < l.length := by
  unfold pcode at h
  split at h
  · omega
  · rename_i h2
    refine ⟨h, i.toNat, j.toNat, ?_, ?_, ?_, ?_⟩ <;> omega

theorem call76 (i j : Int) (lo : List Nat) (H : Heap) : callA cfg O 76 [Rw enc nl tg l, I n, I i, I j] lo H = some (.tup [B (bfO l (code l n) i j), I (pcode l (code l n) i j)], H) := by
  refine callA_pure (xs := [.sl nl tg l.length (l.flatMap enc), Ia n, Ia i, Ia j]) (H' := []) (rs := [B (bfO l (code l n) i j), I (pcode l (code l n) i j)]) rfl ?_ rfl
  show O.ent 76 [Rw enc nl tg l, I n, I i, I j] [] [] = _
  rw [f76_eq]
  by_cases h : pcode l (code l n) i j = 0
  · obtain ⟨h0, a, b, rfl, rfl, ha, hb⟩ := pcode0 h
    obtain ⟨th, rfl, h1, h2, h3⟩ := code0 h0
    obtain ⟨n3, t3, ds, e, hds⟩ := call129 (nl := nl) (tg := tg) h1 h2 h3
    have e2 := call131 (nl := nl) (tg := tg) (n3 := n3) (t3 := t3) hds h3 ha hb []
    have e3 : bfO l (code l th) a b = dec (Bf (ED l) a b) := dec_congr ⟨fun h => h.2, fun h2 => ⟨h, h2⟩⟩
    rw [e3]
    simp only [call130, h, e, e2, obs, oms, bin_add, bin_sub, bin_lss, bin_leq, bin_gtr, bin_geq, bin_eql, bin_neq, bin_eqlB, bin_neqB, un_not, cond_B, gd_B, gd_undef, gdH_B, gdH_undef, pickA_B, extractA_tup, lenA_sl, lenA_row, fldA_fp, fldA_ptr, fldA_rptr, List.getElem?_cons_zero, List.getElem?_cons_succ, decide_true, decide_false, if_true, if_false, Bool.true_eq_false, Bool.false_eq_true, Bool.not_true, Bool.not_false]
    rfl
  · have e3 : bfO l (code l n) i j = false := dec_f fun h2 => h h2.1
    rw [e3]
    simp only [call130, h, obs, oms, bin_add, bin_sub, bin_lss, bin_leq, bin_gtr, bin_geq, bin_eql, bin_neq, bin_eqlB, bin_neqB, un_not, cond_B, gd_B, gd_undef, gdH_B, gdH_undef, pickA_B, extractA_tup, lenA_sl, lenA_row, fldA_fp, fldA_ptr, fldA_rptr, List.getElem?_cons_zero, List.getElem?_cons_succ, decide_true, decide_false, if_true, if_false, Bool.true_eq_false, Bool.false_eq_true, Bool.not_true, Bool.not_false]
    rfl

theorem call77 (i j : Int) (lo : List Nat) (H : Heap) : callA cfg O 77 [Rw enc nl tg l, I n, I i, I j] lo H = some (.tup [B (apO l (code l n) i j), I (pcode l (code l n) i j)], H) := by
  refine callA_pure (xs := [.sl nl tg l.length (l.flatMap enc), Ia n, Ia i, Ia j]) (H' := []) (rs := [B (apO l (code l n) i j), I (pcode l (code l n) i j)]) rfl ?_ rfl
  show O.ent 77 [Rw enc nl tg l, I n, I i, I j] [] [] = _
  rw [f77_eq]
  by_cases h : pcode l (code l n) i j = 0
  · obtain ⟨h0, a, b, rfl, rfl, ha, hb⟩ := pcode0 h
    obtain ⟨th, rfl, h1, h2, h3⟩ := code0 h0
    obtain ⟨n3, t3, ds, e, hds⟩ := call129 (nl := nl) (tg := tg) h1 h2 h3
    have e2 := call131 (nl := nl) (tg := tg) (n3 := n3) (t3 := t3) hds h3 ha hb []
    have e2' := call131 (nl := nl) (tg := tg) (n3 := n3) (t3 := t3) hds h3 hb ha []
    have e3 : apO l (code l th) a b = (!decide ((a : Int) = b) && !dec (Bf (ED l) a b) && !dec (Bf (ED l) b a)) := by
      unfold apO
      rw [Bool.eq_iff_iff, dec_iff]
      simp only [Bool.and_eq_true, Bool.not_eq_true', decide_eq_false_iff_not, Int.toNat_natCast]
      have hf : ∀ p : Prop, dec p = false ↔ ¬ p := fun p => ⟨fun h h2 => (by rw [dec_iff.mpr h2] at h; cases h), dec_f⟩
      rw [hf, hf, and_assoc]
      exact ⟨fun h => h.2, fun h2 => ⟨h, h2⟩⟩
    have c130 : ∀ lo H, callA cfg O 130 [Rw enc nl tg l, I th, I a, I b] lo H = some (I 0, H) := fun lo H => by rw [call130, h]
    rw [e3, h]
    simp only [c130, e, obs]
    by_cases g1 : (a : Int) = b
    · simp only [c130, e, g1, Bool.false_and, obs, oms, bin_add, bin_sub, bin_lss, bin_leq, bin_gtr, bin_geq, bin_eql, bin_neq, bin_eqlB, bin_neqB, un_not, cond_B, gd_B, gd_undef, gdH_B, gdH_undef, pickA_B, extractA_tup, lenA_sl, lenA_row, fldA_fp, fldA_ptr, fldA_rptr, List.getElem?_cons_zero, List.getElem?_cons_succ, decide_true, decide_false, if_true, if_false, Bool.true_eq_false, Bool.false_eq_true, Bool.not_true, Bool.not_false]
      rfl
    · cases g2 : dec (Bf (ED l) a b) with
      | true =>
        rw [g2] at e2
        simp only [c130, e, g1, e2, Bool.false_and, Bool.and_false, obs, oms, bin_add, bin_sub, bin_lss, bin_leq, bin_gtr, bin_geq, bin_eql, bin_neq, bin_eqlB, bin_neqB, un_not, cond_B, gd_B, gd_undef, gdH_B, gdH_undef, pickA_B, extractA_tup, lenA_sl, lenA_row, fldA_fp, fldA_ptr, fldA_rptr, List.getElem?_cons_zero, List.getElem?_cons_succ, decide_true, decide_false, if_true, if_false, Bool.true_eq_false, Bool.false_eq_true, Bool.not_true, Bool.not_false]
        rfl
      | false =>
        rw [g2] at e2
        simp only [c130, e, g1, e2, e2', Bool.true_and, obs, oms, bin_add, bin_sub, bin_lss, bin_leq, bin_gtr, bin_geq, bin_eql, bin_neq, bin_eqlB, bin_neqB, un_not, cond_B, gd_B, gd_undef, gdH_B, gdH_undef, pickA_B, extractA_tup, lenA_sl, lenA_row, fldA_fp, fldA_ptr, fldA_rptr, List.getElem?_cons_zero, List.getElem?_cons_succ, decide_true, decide_false, if_true, if_false, Bool.true_eq_false, Bool.false_eq_true, Bool.not_true, Bool.not_false]
        rfl
  · have e3 : apO l (code l n) i j = false := dec_f fun h2 => h h2.1
    rw [e3]
    simp only [call130, h, obs, oms, bin_add, bin_sub, bin_lss, bin_leq, bin_gtr, bin_geq, bin_eql, bin_neq, bin_eqlB, bin_neqB, un_not, cond_B, gd_B, gd_undef, gdH_B, gdH_undef, pickA_B, extractA_tup, lenA_sl, lenA_row, fldA_fp, fldA_ptr, fldA_rptr, List.getElem?_cons_zero, List.getElem?_cons_succ, decide_true, decide_false, if_true, if_false, Bool.true_eq_false, Bool.false_eq_true, Bool.not_true, Bool.not_false]
    rfl
end
end Cl
end Go.Proofs.Ytkhbbjfdbbnojaa
