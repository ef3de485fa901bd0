/-
It is proved that the law RaceTells returns true for every input, and that its arguments read behind the call as before. Conditions: none.
-/
import Derived.Test.YtfdnamedmjhcfaaRaB
import Derived.Test.YtfdnamedmjhcfaaRaXO
import Derived.Test.YtfdnamedmjhcfaaBackT
import Derived.Test.YtfdnamedmjhcfaaTy
set_option linter.unusedVariables false
set_option linter.unusedSimpArgs false
namespace Go.Proofs.Ytfdnamedmjhcfaa.RaLaw
open Go Go.AM Go.Proofs.Ytfdnamedmjhcfaa
open Go.ChangeShapes Go.WideShapes Go.ChangeAt Go.RowKit
theorem law (p0 : A_LEvent) (p1 : Int) (p2 : Int) (p3 : Int) (p4 : A_DProof) (h0 : ok_LEvent p0) (h1 : (Lit.int .i64 p1).wf = true) (h2 : (Lit.int .i64 p2).wf = true) (h3 : (Lit.int .i64 p3).wf = true) (h4 : ok_DProof p4) : ∃ H', O.ent 3 [.p (.sl p0.1 false p0.2.length (p0.2.flatMap enc_Event)), I p1, I p2, I p3, .agg ((enc_DProof p4).map .p)] [] [] = some ([B true], H') := by
  exact ⟨_, Ra.ent3 (nI := p4.1.1) (nJ := p4.2.1) (tI := false) (tJ := false) (pI := p4.1.2) (pJ := p4.2.2) p1 p2 p3⟩
theorem closed : closedB Try.prog [22, 42, 3, 40, 25, 23] = true := by kernel_rfl
set_option maxRecDepth 100000 in
theorem lifted (os : Os) (started : os.Started) (H : Type) (enc : TypeId × Value → H) :
    ReturnsInHanded {} Try.checked os 3 .any (Rows.raceTellsSpec.pre6 enc Try.prog Try.f3 Rows.raceTellsRow.domain false) (Rows.raceTellsSpec.post enc Try.prog Try.f3 false true false false) := by
  refine returnsInHanded_of_change_sized (C := Try.checked) own started (by kernel_rfl) Try.func3
    (ChangeSpec.witness6 (enc := enc) (C := Try.checked) false ⟨#[], #[.slice none 0 0, .int .i64 0, .int .i64 0, .int .i64 0, .agg #[.slice none 0 0, .slice none 0 0]], []⟩ 8 (by kernel_rfl) (by kernel_rfl) (by kernel_rfl) (by kernel_rfl)) ?_
  intro W base args ds gs before hval hW hcnd hsz _
  refine law_post (cfg := cfg) (bulkOk H) closed (by rw [Try.params3]; decide) laidOut (by rw [Try.params3]; intro t ht; simp at ht; rcases ht with rfl | rfl | rfl <;> exact ⟨by kernel_rfl, of_decide_eq_true (by kernel_rfl)⟩) (tb := 4) (by kernel_rfl) Try.underlying4 (s := Rows.raceTellsSpec) rfl ?_ hval hW ?_ (hx := Ra.extOk) (hg := rngOk)
  · intro hl
    rw [Try.params3] at hl
    match ds, hl with
    | [d0, d1, d2, d3, d4], _ => rfl
  · intro avs hty
    rw [Try.params3] at hty
    obtain ⟨x0, r0, m0, rfl, t0, hty, q0⟩ := tyArgs_cons hty
    obtain ⟨x1, r1, m1, rfl, t1, hty, q1⟩ := tyArgs_cons hty
    obtain ⟨x2, r2, m2, rfl, t2, hty, q2⟩ := tyArgs_cons hty
    obtain ⟨x3, r3, m3, rfl, t3, hty, q3⟩ := tyArgs_cons hty
    obtain ⟨x4, r4, m4, rfl, t4, hty, q4⟩ := tyArgs_cons hty
    obtain rfl := tyArgs_nil hty
    obtain ⟨p0, rfl, o0, s0⟩ := of_LEvent t0
    obtain ⟨p1, rfl, o1, s1⟩ := ty_intM t1 Try.underlying3
    obtain ⟨p2, rfl, o2, s2⟩ := ty_intM t2 Try.underlying3
    obtain ⟨p3, rfl, o3, s3⟩ := ty_intM t3 Try.underlying3
    obtain ⟨p4, rfl, o4, s4⟩ := of_DProof t4
    rw [show argAV Try.prog 22 (enc_LEvent p0) = .p (.sl p0.1 false p0.2.length (p0.2.flatMap enc_Event)) from argAV_one (by kernel_rfl)]
    rw [show argAV Try.prog 3 [Ia p1] = I p1 from argAV_one (by kernel_rfl)]
    rw [show argAV Try.prog 3 [Ia p2] = I p2 from argAV_one (by kernel_rfl)]
    rw [show argAV Try.prog 3 [Ia p3] = I p3 from argAV_one (by kernel_rfl)]
    rw [show argAV Try.prog 25 (enc_DProof p4) = .agg ((enc_DProof p4).map .p) from argAV_agg (by kernel_rfl)]
    exact law p0 p1 p2 p3 p4 o0 o1 o2 o3 o4
theorem over : Rows.raceTellsRow.holds Try.pinned (OpenSpec.ofChange Rows.raceTellsSpec) :=
  OpenClaim.holds_of_wide 3 Try.f3 rfl rfl rfl rfl rfl rfl rfl ⟨rfl, rfl, rfl, rfl, rfl⟩ rfl rfl rfl rfl rfl (by kernel_rfl) Try.func3 (by kernel_rfl)
    (of_decide_eq_true (by kernel_rfl)) (by unfold Func.isWrapper; first | (rw [if_pos (by decide +kernel)]; kernel_rfl) | (rw [if_neg (by decide +kernel)]; exact ⟨rfl, rfl⟩))
    (fun os started H enc _ => lifted os started H enc)
end Go.Proofs.Ytfdnamedmjhcfaa.RaLaw
namespace Go.Proofs.Ytfdnamedmjhcfaa
theorem raceTells_holds : Rows.RaceTellsSaid := RaLaw.over
#print axioms raceTells_holds
end Go.Proofs.Ytfdnamedmjhcfaa
