/-
It is proved that the law LockupOrders returns true for every input, and that its arguments read behind the call as before. Conditions: none.
-/
import Derived.Test.YtkhbbjfdbbnojaaLoXO
import Derived.Test.YtkhbbjfdbbnojaaTy
set_option linter.unusedVariables false
set_option linter.unusedSimpArgs false
namespace Go.Proofs.Ytkhbbjfdbbnojaa.LoLaw
open Go Go.AM Go.Proofs.Ytkhbbjfdbbnojaa
open Go.ChangeShapes Go.WideShapes Go.ChangeAt Go.RowKit
theorem law (p0 : A_LEvent) (h0 : ok_LEvent p0) : ∃ H', O.ent 10 [.p (.sl p0.1 false p0.2.length (p0.2.flatMap enc_Event))] [] [] = some ([B true], H') := by
  exact ⟨_, Lo.law⟩
theorem closed : closedB Try.prog [22, 41, 3, 24] = true := by kernel_rfl
set_option maxRecDepth 100000 in
theorem lifted (os : Os) (started : os.Started) (H : Type) (enc : TypeId × Value → H) :
    ReturnsInHanded {} Try.checked os 10 .any (Rows.lockupOrdersSpec.pre6 enc Try.prog Try.f10 Rows.lockupOrdersRow.domain false) (Rows.lockupOrdersSpec.post enc Try.prog Try.f10 false true false false) := by
  refine returnsInHanded_of_change_sized (C := Try.checked) own started (by kernel_rfl) Try.func10
    (ChangeSpec.witness6 (enc := enc) (C := Try.checked) false ⟨#[], #[.slice none 0 0], []⟩ 8 (by kernel_rfl) (by kernel_rfl) (by kernel_rfl) (by kernel_rfl)) ?_
  intro W base args ds gs before hval hW hcnd hsz _
  refine law_post (cfg := cfg) (bulkOk H) closed (by rw [Try.params10]; decide) laidOut (by rw [Try.params10]; intro t ht; simp at ht; rcases ht with rfl <;> exact ⟨by kernel_rfl, of_decide_eq_true (by kernel_rfl)⟩) (tb := 4) (by kernel_rfl) Try.underlying4 (s := Rows.lockupOrdersSpec) rfl ?_ hval hW ?_ (hx := Lo.extOk)
  · intro hl
    rw [Try.params10] at hl
    match ds, hl with
    | [d0], _ => rfl
  · intro avs hty
    rw [Try.params10] at hty
    obtain ⟨x0, r0, m0, rfl, t0, hty, q0⟩ := tyArgs_cons hty
    obtain rfl := tyArgs_nil hty
    obtain ⟨p0, rfl, o0, s0⟩ := of_LEvent t0
    rw [show argAV Try.prog 22 (enc_LEvent p0) = .p (.sl p0.1 false p0.2.length (p0.2.flatMap enc_Event)) from argAV_one (by kernel_rfl)]
    exact law p0 o0
theorem over : Rows.lockupOrdersRow.holds Try.pinned (OpenSpec.ofChange Rows.lockupOrdersSpec) :=
  OpenClaim.holds_of_wide 10 Try.f10 rfl rfl rfl rfl rfl rfl rfl ⟨rfl, rfl, rfl, rfl, rfl⟩ rfl rfl rfl rfl rfl (by kernel_rfl) Try.func10 (by kernel_rfl)
    (of_decide_eq_true (by kernel_rfl)) (by unfold Func.isWrapper; first | (rw [if_pos (by decide +kernel)]; kernel_rfl) | (rw [if_neg (by decide +kernel)]; exact ⟨rfl, rfl⟩))
    (fun os started H enc _ => lifted os started H enc)
end Go.Proofs.Ytkhbbjfdbbnojaa.LoLaw
namespace Go.Proofs.Ytkhbbjfdbbnojaa
theorem lockupOrders_holds : Rows.LockupOrdersSaid := LoLaw.over
#print axioms lockupOrders_holds
end Go.Proofs.Ytkhbbjfdbbnojaa
