/-
It is proved that the law LockupRings returns true for every input, and that its arguments read behind the call as before. Conditions: none.
-/
import Derived.Test.YtangmjeafnkfaaaLkU
import Derived.Test.YtangmjeafnkfaaaTy
set_option linter.unusedVariables false
set_option linter.unusedSimpArgs false
namespace Go.Proofs.Ytangmjeafnkfaaa.LkLaw
open Go Go.AM Go.Proofs.Ytangmjeafnkfaaa
open Go.ChangeShapes Go.WideShapes Go.ChangeAt Go.RowKit
theorem law (p0 : A_LDWait) (p1 : A_LDPair) (h0 : ok_LDWait p0) (h1 : ok_LDPair p1) : ∃ H', O.ent 9 [.p (.sl p0.1 false p0.2.length (p0.2.flatMap enc_DWait)), .p (.sl p1.1 false p1.2.length (p1.2.flatMap enc_DPair))] [] [] = some ([B true], H') := by
  exact Lk.law (n1 := p0.1) (t1 := false) (l := p0.2) (n2 := p1.1) (t2 := false) (p := p1.2)
theorem closed : closedB Try.prog [81, 166, 3, 82, 169] = true := by kernel_rfl
set_option maxRecDepth 100000 in
theorem lifted (os : Os) (started : os.Started) (H : Type) (enc : TypeId × Value → H) :
    ReturnsInHanded {} Try.checked os 9 .any (Rows.lockupRingsSpec.pre6 enc Try.prog Try.f9 Rows.lockupRingsRow.domain false) (Rows.lockupRingsSpec.post enc Try.prog Try.f9 false true false false) := by
  refine returnsInHanded_of_change_sized (C := Try.checked) own started (by kernel_rfl) Try.func9
    (ChangeSpec.witness6 (enc := enc) (C := Try.checked) false ⟨#[], #[.slice none 0 0, .slice none 0 0], []⟩ 8 (by kernel_rfl) (by kernel_rfl) (by kernel_rfl) (by kernel_rfl)) ?_
  intro W base args ds gs before hval hW hcnd hsz _
  refine law_post (cfg := cfg) (bulkOk H) closed (by rw [Try.params9]; decide) laidOut (by rw [Try.params9]; intro t ht; simp at ht; rcases ht with rfl | rfl <;> exact ⟨by kernel_rfl, of_decide_eq_true (by kernel_rfl)⟩) (tb := 4) (by kernel_rfl) Try.underlying4 (s := Rows.lockupRingsSpec) rfl ?_ hval hW ?_
  · intro hl
    rw [Try.params9] at hl
    match ds, hl with
    | [d0, d1], _ => rfl
  · intro avs hty
    rw [Try.params9] at hty
    obtain ⟨x0, r0, m0, rfl, t0, hty, q0⟩ := tyArgs_cons hty
    obtain ⟨x1, r1, m1, rfl, t1, hty, q1⟩ := tyArgs_cons hty
    obtain rfl := tyArgs_nil hty
    obtain ⟨p0, rfl, o0, s0⟩ := of_LDWait t0
    obtain ⟨p1, rfl, o1, s1⟩ := of_LDPair t1
    rw [show argAV Try.prog 81 (enc_LDWait p0) = .p (.sl p0.1 false p0.2.length (p0.2.flatMap enc_DWait)) from argAV_one (by kernel_rfl)]
    rw [show argAV Try.prog 82 (enc_LDPair p1) = .p (.sl p1.1 false p1.2.length (p1.2.flatMap enc_DPair)) from argAV_one (by kernel_rfl)]
    exact law p0 p1 o0 o1
theorem over : Rows.lockupRingsRow.holds Try.pinned (OpenSpec.ofChange Rows.lockupRingsSpec) :=
  OpenClaim.holds_of_wide 9 Try.f9 rfl rfl rfl rfl rfl rfl rfl ⟨rfl, rfl, rfl, rfl, rfl⟩ rfl rfl rfl rfl rfl (by kernel_rfl) Try.func9 (by kernel_rfl)
    (of_decide_eq_true (by kernel_rfl)) (by unfold Func.isWrapper; first | (rw [if_pos (by decide +kernel)]; kernel_rfl) | (rw [if_neg (by decide +kernel)]; exact ⟨rfl, rfl⟩))
    (fun os started H enc _ => lifted os started H enc)
end Go.Proofs.Ytangmjeafnkfaaa.LkLaw
namespace Go.Proofs.Ytangmjeafnkfaaa
theorem lockupRings_holds : Rows.LockupRingsSaid := LkLaw.over
#print axioms lockupRings_holds
end Go.Proofs.Ytangmjeafnkfaaa
