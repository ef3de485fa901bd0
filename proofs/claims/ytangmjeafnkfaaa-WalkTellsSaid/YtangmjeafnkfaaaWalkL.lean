/-
It is proved that the law WalkTells returns true for every input, and that its arguments read behind the call as before. Conditions: none.
-/
import Derived.Test.YtangmjeafnkfaaaWalkU
import Derived.Test.YtangmjeafnkfaaaTy
set_option linter.unusedVariables false
set_option linter.unusedSimpArgs false
namespace Go.Proofs.Ytangmjeafnkfaaa.WalkLaw
open Go Go.AM Go.Proofs.Ytangmjeafnkfaaa
open Go.ChangeShapes Go.WideShapes Go.ChangeAt Go.RowKit
theorem law (p0 : A_LDMark) (p1 : Int) (p2 : Int) (h0 : ok_LDMark p0) (h1 : (Lit.int .i64 p1).wf = true) (h2 : (Lit.int .i64 p2).wf = true) : ∃ H', O.ent 7 [.p (.sl p0.1 false p0.2.length (p0.2.flatMap enc_DMark)), I p1, I p2] [] [] = some ([B true], H') :=
  Walk.law (nl := p0.1) (tg := false) (l := p0.2) p1 p2
theorem closed : closedB Try.prog [60, 68, 3] = true := by kernel_rfl
set_option maxRecDepth 100000 in
theorem lifted (os : Os) (started : os.Started) (H : Type) (enc : TypeId × Value → H) :
    ReturnsInHanded {} Try.checked os 7 .any (Rows.walkTellsSpec.pre6 enc Try.prog Try.f7 Rows.walkTellsRow.domain false) (Rows.walkTellsSpec.post enc Try.prog Try.f7 false true false false) := by
  refine returnsInHanded_of_change_sized (C := Try.checked) own started (by kernel_rfl) Try.func7
    (ChangeSpec.witness6 (enc := enc) (C := Try.checked) false ⟨#[], #[.slice none 0 0, .int .i64 0, .int .i64 0], []⟩ 8 (by kernel_rfl) (by kernel_rfl) (by kernel_rfl) (by kernel_rfl)) ?_
  intro W base args ds gs before hval hW hcnd hsz _
  refine law_post (cfg := cfg) (bulkOk H) closed (by rw [Try.params7]; decide) laidOut (by rw [Try.params7]; intro t ht; simp at ht; rcases ht with rfl | rfl <;> exact ⟨by kernel_rfl, of_decide_eq_true (by kernel_rfl)⟩) (tb := 4) (by kernel_rfl) Try.underlying4 (s := Rows.walkTellsSpec) rfl ?_ hval hW ?_
  · intro hl
    rw [Try.params7] at hl
    match ds, hl with
    | [d0, d1, d2], _ => rfl
  · intro avs hty
    rw [Try.params7] at hty
    obtain ⟨x0, r0, m0, rfl, t0, hty, _⟩ := tyArgs_cons hty
    obtain ⟨x1, r1, m1, rfl, t1, hty, _⟩ := tyArgs_cons hty
    obtain ⟨x2, r2, m2, rfl, t2, hty, _⟩ := tyArgs_cons hty
    obtain rfl := tyArgs_nil hty
    obtain ⟨p0, rfl, o0, s0⟩ := of_LDMark t0
    obtain ⟨p1, rfl, o1, s1⟩ := ty_intM t1 Try.underlying3
    obtain ⟨p2, rfl, o2, s2⟩ := ty_intM t2 Try.underlying3
    rw [show argAV Try.prog 60 (enc_LDMark p0) = .p (.sl p0.1 false p0.2.length (p0.2.flatMap enc_DMark)) from argAV_one (by kernel_rfl)]
    rw [show argAV Try.prog 3 [Ia p1] = I p1 from argAV_one (by kernel_rfl)]
    rw [show argAV Try.prog 3 [Ia p2] = I p2 from argAV_one (by kernel_rfl)]
    exact law p0 p1 p2 o0 o1 o2
theorem over : Rows.walkTellsRow.holds Try.pinned (OpenSpec.ofChange Rows.walkTellsSpec) :=
  OpenClaim.holds_of_wide 7 Try.f7 rfl rfl rfl rfl rfl rfl rfl ⟨rfl, rfl, rfl, rfl, rfl⟩ rfl rfl rfl rfl rfl (by kernel_rfl) Try.func7 (by kernel_rfl)
    (of_decide_eq_true (by kernel_rfl)) (by unfold Func.isWrapper; first | (rw [if_pos (by decide +kernel)]; kernel_rfl) | (rw [if_neg (by decide +kernel)]; exact ⟨rfl, rfl⟩))
    (fun os started H enc _ => lifted os started H enc)
end Go.Proofs.Ytangmjeafnkfaaa.WalkLaw
namespace Go.Proofs.Ytangmjeafnkfaaa
theorem walkTells_holds : Rows.WalkTellsSaid := WalkLaw.over
#print axioms walkTells_holds
end Go.Proofs.Ytangmjeafnkfaaa
