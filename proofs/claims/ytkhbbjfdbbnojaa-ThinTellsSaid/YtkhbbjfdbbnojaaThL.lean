/-
It is proved that the law ThinTells returns true for every input, and that its arguments read behind the call as before. Conditions: none.
-/
import Derived.Test.YtkhbbjfdbbnojaaThXO
import Derived.Test.YtkhbbjfdbbnojaaTy
set_option linter.unusedVariables false
set_option linter.unusedSimpArgs false
namespace Go.Proofs.Ytkhbbjfdbbnojaa.ThLaw
open Go Go.AM Go.Proofs.Ytkhbbjfdbbnojaa
open Go.ChangeShapes Go.WideShapes Go.ChangeAt Go.RowKit
theorem law (p0 : Int) (p1 : A_Li64) (p2 : Int) (h0 : (Lit.int .i64 p0).wf = true) (h1 : ok_Li64 p1) (h2 : (Lit.int .i64 p2).wf = true) : ∃ H', O.ent 11 [I p0, .p (.sl p1.1 false p1.2.length (p1.2.map Ia)), I p2] [] [] = some ([B true], H') := by
  exact ⟨_, Th.law (by have := h1.1; unfold maxLen at this; omega)⟩
theorem closed : closedB Try.prog [3, 30] = true := by kernel_rfl
set_option maxRecDepth 100000 in
theorem lifted (os : Os) (started : os.Started) (H : Type) (enc : TypeId × Value → H) :
    ReturnsInHanded {} Try.checked os 11 .any (Rows.thinTellsSpec.pre6 enc Try.prog Try.f11 Rows.thinTellsRow.domain false) (Rows.thinTellsSpec.post enc Try.prog Try.f11 false true false false) := by
  refine returnsInHanded_of_change_sized (C := Try.checked) own started (by kernel_rfl) Try.func11
    (ChangeSpec.witness6 (enc := enc) (C := Try.checked) false ⟨#[], #[.int .i64 0, .slice none 0 0, .int .i64 0], []⟩ 8 (by kernel_rfl) (by kernel_rfl) (by kernel_rfl) (by kernel_rfl)) ?_
  intro W base args ds gs before hval hW hcnd hsz _
  refine law_post (cfg := cfg) (bulkOk H) closed (by rw [Try.params11]; decide) laidOut (by rw [Try.params11]; intro t ht; simp at ht; rcases ht with rfl | rfl | rfl <;> exact ⟨by kernel_rfl, of_decide_eq_true (by kernel_rfl)⟩) (tb := 4) (by kernel_rfl) Try.underlying4 (s := Rows.thinTellsSpec) rfl ?_ hval hW ?_ (hx := Th.extOk)
  · intro hl
    rw [Try.params11] at hl
    match ds, hl with
    | [d0, d1, d2], _ => rfl
  · intro avs hty
    rw [Try.params11] at hty
    obtain ⟨x0, r0, m0, rfl, t0, hty, q0⟩ := tyArgs_cons hty
    obtain ⟨x1, r1, m1, rfl, t1, hty, q1⟩ := tyArgs_cons hty
    obtain ⟨x2, r2, m2, rfl, t2, hty, q2⟩ := tyArgs_cons hty
    obtain rfl := tyArgs_nil hty
    obtain ⟨p0, rfl, o0, s0⟩ := ty_intM t0 Try.underlying3
    obtain ⟨p1, rfl, o1, s1⟩ := of_Li64 t1
    obtain ⟨p2, rfl, o2, s2⟩ := ty_intM t2 Try.underlying3
    rw [show argAV Try.prog 3 [Ia p0] = I p0 from argAV_one (by kernel_rfl)]
    rw [show argAV Try.prog 30 (enc_Li64 p1) = .p (.sl p1.1 false p1.2.length (p1.2.map Ia)) from argAV_one (by kernel_rfl)]
    rw [show argAV Try.prog 3 [Ia p2] = I p2 from argAV_one (by kernel_rfl)]
    exact law p0 p1 p2 o0 o1 o2
theorem over : Rows.thinTellsRow.holds Try.pinned (OpenSpec.ofChange Rows.thinTellsSpec) :=
  OpenClaim.holds_of_wide 11 Try.f11 rfl rfl rfl rfl rfl rfl rfl ⟨rfl, rfl, rfl, rfl, rfl⟩ rfl rfl rfl rfl rfl (by kernel_rfl) Try.func11 (by kernel_rfl)
    (of_decide_eq_true (by kernel_rfl)) (by unfold Func.isWrapper; first | (rw [if_pos (by decide +kernel)]; kernel_rfl) | (rw [if_neg (by decide +kernel)]; exact ⟨rfl, rfl⟩))
    (fun os started H enc _ => lifted os started H enc)
end Go.Proofs.Ytkhbbjfdbbnojaa.ThLaw
namespace Go.Proofs.Ytkhbbjfdbbnojaa
theorem thinTells_holds : Rows.ThinTellsSaid := ThLaw.over
#print axioms thinTells_holds
end Go.Proofs.Ytkhbbjfdbbnojaa
