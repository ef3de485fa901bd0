/-
It is proved that the law SliceTells returns true for every input, and that its arguments read behind the call as before. Conditions: none.
-/
import Derived.Test.YtangmjeafnkfaaaSliV
import Derived.Test.YtangmjeafnkfaaaTy
set_option linter.unusedVariables false
set_option linter.unusedSimpArgs false
namespace Go.Proofs.Ytangmjeafnkfaaa.SliLaw
open Go Go.AM Go.Proofs.Ytangmjeafnkfaaa
open Go.ChangeShapes Go.WideShapes Go.ChangeAt Go.RowKit
theorem law (p0 : A_LDDep) (p1 : Int) (p2 : Int) (h0 : ok_LDDep p0) (h1 : (Lit.int .i64 p1).wf = true) (h2 : (Lit.int .i64 p2).wf = true) : ∃ H', O.ent 10 [.p (.sl p0.1 false p0.2.length (p0.2.flatMap enc_DDep)), I p1, I p2] [] [] = some ([B true], H') := by
  have e : p0.2.flatMap enc_DDep = p0.2.map Sli.us := flat_one Sli.us p0.2
  rw [e]
  refine Sli.law (nl := p0.1) (tg := false) (l := p0.2) (fun k => ?_) p1 p2
  unfold Sli.U
  rcases Nat.lt_or_ge k p0.2.length with q | q
  · have m := (h0.2 _ (List.getElem_mem q)).1
    simp only [maxLen] at m
    have : p0.2.getD k (none, []) = p0.2[k] := by simp [List.getD, q]
    rw [this]
    exact Nat.lt_of_le_of_lt m (by omega)
  · have : p0.2.getD k (none, []) = (none, []) := by simp [List.getD, Nat.not_lt.mpr q]
    rw [this]; simp
theorem closed : closedB Try.prog [91, 176, 22, 3] = true := by kernel_rfl
set_option maxRecDepth 100000 in
theorem lifted (os : Os) (started : os.Started) (H : Type) (enc : TypeId × Value → H) :
    ReturnsInHanded {} Try.checked os 10 .any (Rows.sliceTellsSpec.pre6 enc Try.prog Try.f10 Rows.sliceTellsRow.domain false) (Rows.sliceTellsSpec.post enc Try.prog Try.f10 false true false false) := by
  refine returnsInHanded_of_change_sized (C := Try.checked) own started (by kernel_rfl) Try.func10
    (ChangeSpec.witness6 (enc := enc) (C := Try.checked) false ⟨#[], #[.slice none 0 0, .int .i64 0, .int .i64 0], []⟩ 8 (by kernel_rfl) (by kernel_rfl) (by kernel_rfl) (by kernel_rfl)) ?_
  intro W base args ds gs before hval hW hcnd hsz _
  refine law_post (cfg := cfg) (bulkOk H) closed (by rw [Try.params10]; decide) laidOut (by rw [Try.params10]; intro t ht; simp at ht; rcases ht with rfl | rfl <;> exact ⟨by kernel_rfl, of_decide_eq_true (by kernel_rfl)⟩) (tb := 4) (by kernel_rfl) Try.underlying4 (s := Rows.sliceTellsSpec) rfl ?_ hval hW ?_
  · intro hl
    rw [Try.params10] at hl
    match ds, hl with
    | [d0, d1, d2], _ => rfl
  · intro avs hty
    rw [Try.params10] at hty
    obtain ⟨x0, r0, m0, rfl, t0, hty, _⟩ := tyArgs_cons hty
    obtain ⟨x1, r1, m1, rfl, t1, hty, _⟩ := tyArgs_cons hty
    obtain ⟨x2, r2, m2, rfl, t2, hty, _⟩ := tyArgs_cons hty
    obtain rfl := tyArgs_nil hty
    obtain ⟨p0, rfl, o0, s0⟩ := of_LDDep t0
    obtain ⟨p1, rfl, o1, s1⟩ := ty_intM t1 Try.underlying3
    obtain ⟨p2, rfl, o2, s2⟩ := ty_intM t2 Try.underlying3
    rw [show argAV Try.prog 91 (enc_LDDep p0) = .p (.sl p0.1 false p0.2.length (p0.2.flatMap enc_DDep)) from argAV_one (by kernel_rfl)]
    rw [show argAV Try.prog 3 [Ia p1] = I p1 from argAV_one (by kernel_rfl)]
    rw [show argAV Try.prog 3 [Ia p2] = I p2 from argAV_one (by kernel_rfl)]
    exact law p0 p1 p2 o0 o1 o2
theorem over : Rows.sliceTellsRow.holds Try.pinned (OpenSpec.ofChange Rows.sliceTellsSpec) :=
  OpenClaim.holds_of_wide 10 Try.f10 rfl rfl rfl rfl rfl rfl rfl ⟨rfl, rfl, rfl, rfl, rfl⟩ rfl rfl rfl rfl rfl (by kernel_rfl) Try.func10 (by kernel_rfl)
    (of_decide_eq_true (by kernel_rfl)) (by unfold Func.isWrapper; first | (rw [if_pos (by decide +kernel)]; kernel_rfl) | (rw [if_neg (by decide +kernel)]; exact ⟨rfl, rfl⟩))
    (fun os started H enc _ => lifted os started H enc)
end Go.Proofs.Ytangmjeafnkfaaa.SliLaw
namespace Go.Proofs.Ytangmjeafnkfaaa
theorem sliceTells_holds : Rows.SliceTellsSaid := SliLaw.over
#print axioms sliceTells_holds
end Go.Proofs.Ytangmjeafnkfaaa
