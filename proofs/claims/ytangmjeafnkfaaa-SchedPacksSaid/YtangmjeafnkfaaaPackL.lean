/-
It is proved that the law SchedPacks returns true for every input, and that its arguments read behind the call as before. Conditions: none.
-/
import Derived.Test.YtangmjeafnkfaaaPackU
import Derived.Test.YtangmjeafnkfaaaTy
set_option linter.unusedVariables false
set_option linter.unusedSimpArgs false
namespace Go.Proofs.Ytangmjeafnkfaaa.PackLaw
open Go Go.AM Go.Proofs.Ytangmjeafnkfaaa
open Go.ChangeShapes Go.WideShapes Go.ChangeAt Go.RowKit
theorem law (p0 : A_Li64) (p1 : A_LDRun) (h0 : ok_Li64 p0) (h1 : ok_LDRun p1) : ∃ H', O.ent 14 [.p (.sl p0.1 false p0.2.length (p0.2.map Ia)), .p (.sl p1.1 false p1.2.length (p1.2.flatMap enc_DRun))] [] [] = some ([B true], H') := by
  have m := h0.1
  have n := h1.1
  simp only [maxLen] at m n
  exact Pack.law (nl := p1.1) (tg := false) (l := p1.2) (by omega) (by omega) fun p hp => (i64_wf (h1.2 p hp).2).2
theorem closed : closedB Try.prog [22, 3, 114, 119] = true := by kernel_rfl
set_option maxRecDepth 100000 in
theorem lifted (os : Os) (started : os.Started) (H : Type) (enc : TypeId × Value → H) :
    ReturnsInHanded {} Try.checked os 14 .any (Rows.schedPacksSpec.pre6 enc Try.prog Try.f14 Rows.schedPacksRow.domain false) (Rows.schedPacksSpec.post enc Try.prog Try.f14 false true false false) := by
  refine returnsInHanded_of_change_sized (C := Try.checked) own started (by kernel_rfl) Try.func14
    (ChangeSpec.witness6 (enc := enc) (C := Try.checked) false ⟨#[], #[.slice none 0 0, .slice none 0 0], []⟩ 8 (by kernel_rfl) (by kernel_rfl) (by kernel_rfl) (by kernel_rfl)) ?_
  intro W base args ds gs before hval hW hcnd hsz _
  refine law_post (cfg := cfg) (bulkOk H) closed (by rw [Try.params14]; decide) laidOut (by rw [Try.params14]; intro t ht; simp at ht; rcases ht with rfl | rfl <;> exact ⟨by kernel_rfl, of_decide_eq_true (by kernel_rfl)⟩) (tb := 4) (by kernel_rfl) Try.underlying4 (s := Rows.schedPacksSpec) rfl ?_ hval hW ?_
  · intro hl
    rw [Try.params14] at hl
    match ds, hl with
    | [d0, d1], _ => rfl
  · intro avs hty
    rw [Try.params14] at hty
    obtain ⟨x0, r0, m0, rfl, t0, hty, _⟩ := tyArgs_cons hty
    obtain ⟨x1, r1, m1, rfl, t1, hty, _⟩ := tyArgs_cons hty
    obtain rfl := tyArgs_nil hty
    obtain ⟨p0, rfl, o0, s0⟩ := of_Li64 t0
    obtain ⟨p1, rfl, o1, s1⟩ := of_LDRun t1
    rw [show argAV Try.prog 22 (enc_Li64 p0) = .p (.sl p0.1 false p0.2.length (p0.2.map Ia)) from argAV_one (by kernel_rfl)]
    rw [show argAV Try.prog 114 (enc_LDRun p1) = .p (.sl p1.1 false p1.2.length (p1.2.flatMap enc_DRun)) from argAV_one (by kernel_rfl)]
    exact law p0 p1 o0 o1
theorem over : Rows.schedPacksRow.holds Try.pinned (OpenSpec.ofChange Rows.schedPacksSpec) :=
  OpenClaim.holds_of_wide 14 Try.f14 rfl rfl rfl rfl rfl rfl rfl ⟨rfl, rfl, rfl, rfl, rfl⟩ rfl rfl rfl rfl rfl (by kernel_rfl) Try.func14 (by kernel_rfl)
    (of_decide_eq_true (by kernel_rfl)) (by unfold Func.isWrapper; first | (rw [if_pos (by decide +kernel)]; kernel_rfl) | (rw [if_neg (by decide +kernel)]; exact ⟨rfl, rfl⟩))
    (fun os started H enc _ => lifted os started H enc)
end Go.Proofs.Ytangmjeafnkfaaa.PackLaw
namespace Go.Proofs.Ytangmjeafnkfaaa
theorem schedPacks_holds : Rows.SchedPacksSaid := PackLaw.over
#print axioms schedPacks_holds
end Go.Proofs.Ytangmjeafnkfaaa
