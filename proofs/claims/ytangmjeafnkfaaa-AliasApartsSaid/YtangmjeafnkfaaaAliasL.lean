/-
It is proved that the law AliasAparts returns true for every input, and that its arguments read behind the call as before. Conditions: none.
-/
import Derived.Test.YtangmjeafnkfaaaAliasT
import Derived.Test.YtangmjeafnkfaaaTy
set_option linter.unusedVariables false
set_option linter.unusedSimpArgs false
namespace Go.Proofs.Ytangmjeafnkfaaa.AliasLaw
open Go Go.AM Go.Proofs.Ytangmjeafnkfaaa
open Go.ChangeShapes Go.WideShapes Go.ChangeAt Go.RowKit
theorem law (p0 : A_TTrace) (p1 : Int) (p2 : Int) (h0 : ok_TTrace p0) (h1 : (Lit.int .i64 p1).wf = true) (h2 : (Lit.int .i64 p2).wf = true) : ∃ H', O.ent 8 [.agg ((enc_TTrace p0).map .p), I p1, I p2] [] [] = some ([B true], H') := by
  exact Alias.law (xs := enc_TTrace p0) rfl rfl rfl p1 p2
theorem closed : closedB Try.prog [78, 3, 71, 161, 48, 72, 76, 73, 261, 74, 263, 22] = true := by kernel_rfl
set_option maxRecDepth 100000 in
theorem lifted (os : Os) (started : os.Started) (H : Type) (enc : TypeId × Value → H) :
    ReturnsInHanded {} Try.checked os 8 .any (Rows.aliasApartsSpec.pre6 enc Try.prog Try.f8 Rows.aliasApartsRow.domain false) (Rows.aliasApartsSpec.post enc Try.prog Try.f8 false true false false) := by
  refine returnsInHanded_of_change_sized (C := Try.checked) own started (by kernel_rfl) Try.func8
    (ChangeSpec.witness6 (enc := enc) (C := Try.checked) false ⟨#[], #[.agg #[.int .i64 0, .int .i64 0, .int .i64 0, .slice none 0 0, .slice none 0 0, .int .i64 0, .int .i64 0, .slice none 0 0, .slice none 0 0, .int .i64 0, .int .i64 0, .slice none 0 0, .slice none 0 0], .int .i64 0, .int .i64 0], []⟩ 8 (by kernel_rfl) (by kernel_rfl) (by kernel_rfl) (by kernel_rfl)) ?_
  intro W base args ds gs before hval hW hcnd hsz _
  refine law_post (cfg := cfg) (bulkOk H) closed (by rw [Try.params8]; decide) laidOut (by rw [Try.params8]; intro t ht; simp at ht; rcases ht with rfl | rfl <;> exact ⟨by kernel_rfl, of_decide_eq_true (by kernel_rfl)⟩) (tb := 4) (by kernel_rfl) Try.underlying4 (s := Rows.aliasApartsSpec) rfl ?_ hval hW ?_
  · intro hl
    rw [Try.params8] at hl
    match ds, hl with
    | [d0, d1, d2], _ => rfl
  · intro avs hty
    rw [Try.params8] at hty
    obtain ⟨x0, r0, m0, rfl, t0, hty, _⟩ := tyArgs_cons hty
    obtain ⟨x1, r1, m1, rfl, t1, hty, _⟩ := tyArgs_cons hty
    obtain ⟨x2, r2, m2, rfl, t2, hty, _⟩ := tyArgs_cons hty
    obtain rfl := tyArgs_nil hty
    obtain ⟨p0, rfl, o0, s0⟩ := of_TTrace t0
    obtain ⟨p1, rfl, o1, s1⟩ := ty_intM t1 Try.underlying3
    obtain ⟨p2, rfl, o2, s2⟩ := ty_intM t2 Try.underlying3
    rw [show argAV Try.prog 78 (enc_TTrace p0) = .agg ((enc_TTrace p0).map .p) from argAV_agg (by kernel_rfl)]
    rw [show argAV Try.prog 3 [Ia p1] = I p1 from argAV_one (by kernel_rfl)]
    rw [show argAV Try.prog 3 [Ia p2] = I p2 from argAV_one (by kernel_rfl)]
    exact law p0 p1 p2 o0 o1 o2
theorem over : Rows.aliasApartsRow.holds Try.pinned (OpenSpec.ofChange Rows.aliasApartsSpec) :=
  OpenClaim.holds_of_wide 8 Try.f8 rfl rfl rfl rfl rfl rfl rfl ⟨rfl, rfl, rfl, rfl, rfl⟩ rfl rfl rfl rfl rfl (by kernel_rfl) Try.func8 (by kernel_rfl)
    (of_decide_eq_true (by kernel_rfl)) (by unfold Func.isWrapper; first | (rw [if_pos (by decide +kernel)]; kernel_rfl) | (rw [if_neg (by decide +kernel)]; exact ⟨rfl, rfl⟩))
    (fun os started H enc _ => lifted os started H enc)
end Go.Proofs.Ytangmjeafnkfaaa.AliasLaw
namespace Go.Proofs.Ytangmjeafnkfaaa
theorem aliasAparts_holds : Rows.AliasApartsSaid := AliasLaw.over
#print axioms aliasAparts_holds
end Go.Proofs.Ytangmjeafnkfaaa
