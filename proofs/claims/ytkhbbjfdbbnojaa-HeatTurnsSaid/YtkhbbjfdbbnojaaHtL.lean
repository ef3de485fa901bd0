/-
It is proved that the law HeatTurns returns true for every input, and that its arguments read behind the call as before. Conditions: none.
-/
import Derived.Test.YtkhbbjfdbbnojaaHtX
import Derived.Test.YtkhbbjfdbbnojaaTy
set_option linter.unusedVariables false
set_option linter.unusedSimpArgs false
namespace Go.Proofs.Ytkhbbjfdbbnojaa.HtLaw
open Go Go.AM Go.Proofs.Ytkhbbjfdbbnojaa
open Go.ChangeShapes Go.WideShapes Go.ChangeAt Go.RowKit
theorem law (p0 : Int) (p1 : A_LA3i64) (h0 : (Lit.int .i64 p0).wf = true) (h1 : ok_LA3i64 p1) : ∃ H', O.ent 9 [I p0, .p (.sl p1.1 false p1.2.length (p1.2.flatMap enc_A3i64))] [] [] = some ([B true], H') := by
  exact Ht.law (i64_wf h0)
theorem closed : closedB Try.prog [3, 89, 94] = true := by kernel_rfl
set_option maxRecDepth 100000 in
theorem lifted (os : Os) (started : os.Started) (H : Type) (enc : TypeId × Value → H) :
    ReturnsInHanded {} Try.checked os 9 .any (Rows.heatTurnsSpec.pre6 enc Try.prog Try.f9 Rows.heatTurnsRow.domain false) (Rows.heatTurnsSpec.post enc Try.prog Try.f9 false true false false) := by
  refine returnsInHanded_of_change_sized (C := Try.checked) own started (by kernel_rfl) Try.func9
    (ChangeSpec.witness6 (enc := enc) (C := Try.checked) false ⟨#[], #[.int .i64 0, .slice none 0 0], []⟩ 8 (by kernel_rfl) (by kernel_rfl) (by kernel_rfl) (by kernel_rfl)) ?_
  intro W base args ds gs before hval hW hcnd hsz _
  refine law_post (cfg := cfg) (bulkOk H) closed (by rw [Try.params9]; decide) laidOut (by rw [Try.params9]; intro t ht; simp at ht; rcases ht with rfl | rfl <;> exact ⟨by kernel_rfl, of_decide_eq_true (by kernel_rfl)⟩) (tb := 4) (by kernel_rfl) Try.underlying4 (s := Rows.heatTurnsSpec) rfl ?_ hval hW ?_ (hx := Ht.extOk)
  · intro hl
    rw [Try.params9] at hl
    match ds, hl with
    | [d0, d1], _ => rfl
  · intro avs hty
    rw [Try.params9] at hty
    obtain ⟨x0, r0, m0, rfl, t0, hty, q0⟩ := tyArgs_cons hty
    obtain ⟨x1, r1, m1, rfl, t1, hty, q1⟩ := tyArgs_cons hty
    obtain rfl := tyArgs_nil hty
    obtain ⟨p0, rfl, o0, s0⟩ := ty_intM t0 Try.underlying3
    obtain ⟨p1, rfl, o1, s1⟩ := of_LA3i64 t1
    rw [show argAV Try.prog 3 [Ia p0] = I p0 from argAV_one (by kernel_rfl)]
    rw [show argAV Try.prog 89 (enc_LA3i64 p1) = .p (.sl p1.1 false p1.2.length (p1.2.flatMap enc_A3i64)) from argAV_one (by kernel_rfl)]
    exact law p0 p1 o0 o1
theorem over : Rows.heatTurnsRow.holds Try.pinned (OpenSpec.ofChange Rows.heatTurnsSpec) :=
  OpenClaim.holds_of_wide 9 Try.f9 rfl rfl rfl rfl rfl rfl rfl ⟨rfl, rfl, rfl, rfl, rfl⟩ rfl rfl rfl rfl rfl (by kernel_rfl) Try.func9 (by kernel_rfl)
    (of_decide_eq_true (by kernel_rfl)) (by unfold Func.isWrapper; first | (rw [if_pos (by decide +kernel)]; kernel_rfl) | (rw [if_neg (by decide +kernel)]; exact ⟨rfl, rfl⟩))
    (fun os started H enc _ => lifted os started H enc)
end Go.Proofs.Ytkhbbjfdbbnojaa.HtLaw
namespace Go.Proofs.Ytkhbbjfdbbnojaa
theorem heatTurns_holds : Rows.HeatTurnsSaid := HtLaw.over
#print axioms heatTurns_holds
end Go.Proofs.Ytkhbbjfdbbnojaa
