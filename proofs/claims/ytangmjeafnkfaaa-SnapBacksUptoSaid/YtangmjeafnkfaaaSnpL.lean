/-
It is proved that the law SnapBacks returns true for every input of bulk at most 1048576, and that its arguments read behind the call as before. Conditions: none but the bulk's bound.
-/
import Derived.Test.YtangmjeafnkfaaaSnpM
import Derived.Test.YtangmjeafnkfaaaTy
set_option linter.unusedVariables false
set_option linter.unusedSimpArgs false
namespace Go.Proofs.Ytangmjeafnkfaaa.SnpLaw
open Go Go.AM Go.Proofs.Ytangmjeafnkfaaa
open Go.ChangeShapes Go.WideShapes Go.ChangeAt Go.RowKit
theorem law (p0 : A_Li64) (p1 : A_State) (p2 : Int) (p3 : Int) (h0 : ok_Li64 p0) (h1 : ok_State p1) (h2 : (Lit.int .i64 p2).wf = true) (h3 : (Lit.int .i64 p3).wf = true) (b0 : sz_Li64 p0 ≤ 1048576) (b1 : sz_State p1 ≤ 1048576) (b2 : 1 ≤ 1048576) (b3 : 1 ≤ 1048576) : ∃ H', O.ent 11 [.p (.sl p0.1 false p0.2.length (p0.2.map Ia)), .agg ((enc_State p1).map .p), I p2, I p3] [] [] = some ([B true], H') := by
  have e : enc_State p1 = Snp.enc_State (SnpUp.S p1) := (SnpUp.eS p1).symm
  rw [e]
  exact Snp.law (nl := p0.1) (tg := false) (l := p0.2) (SnpUp.oS p1 h1) (Nat.le_trans (SnpUp.bS p1) b1) p2 p3
theorem closed : closedB Try.prog [22, 3, 36, 29, 130, 34, 48, 128, 207, 205, 212, 30, 134, 31, 9, 32, 141, 33, 145] = true := by kernel_rfl
set_option maxRecDepth 100000 in
theorem lifted (os : Os) (started : os.Started) (H : Type) (enc : TypeId × Value → H) (F : Stop.Interp) :
    ReturnsInHanded {} Try.checked os 11 .any ((Rows.OpenSpec.upto Rows.snapBacksSpec).pre6 enc Try.prog Try.f11 Rows.snapBacksUptoRow.domain false) (((Rows.OpenSpec.upto Rows.snapBacksSpec).at F).post enc Try.prog Try.f11 false true false false) := by
  refine returnsInHanded_of_cond (C := Try.checked) (s := (Rows.OpenSpec.upto Rows.snapBacksSpec)) (k := Rows.uptoSmall) rfl own started (by kernel_rfl) Try.func11
    (OpenSpec.witness (enc := enc) (C := Try.checked) (s := (Rows.OpenSpec.upto Rows.snapBacksSpec)) (k := Rows.uptoSmall) rfl false ⟨#[], #[.slice none 0 0, .agg #[.slice none 0 0, .slice none 0 0, .slice none 0 0, .slice none 0 0, .slice none 0 0, .slice none 0 0, .int .i64 0, .int .i64 0], .int .i64 0, .int .i64 0], []⟩ 8 (by kernel_rfl) (by kernel_rfl) (by kernel_rfl)
      (x := ([.nil, .agg [.nil, .nil, .nil, .nil, .nil, .nil, .lit (.int .i64 0), .lit (.int .i64 0)], .lit (.int .i64 0), .lit (.int .i64 0)], [], [])) (by kernel_rfl) rfl (by kernel_rfl)) ?_
  intro W base args ds gs before hval hW _ hk _
  have hsm := small_sum hk
  refine law_post (cfg := cfg) (bulkOk H) closed (by rw [Try.params11]; decide) laidOut (by rw [Try.params11]; intro t ht; simp at ht; rcases ht with rfl | rfl | rfl <;> exact ⟨by kernel_rfl, of_decide_eq_true (by kernel_rfl)⟩) (tb := 4) (by kernel_rfl) Try.underlying4 (s := Rows.snapBacksSpec) rfl ?_ hval hW ?_
  · intro hl
    rw [Try.params11] at hl
    match ds, hl with
    | [d0, d1, d2, d3], _ => rfl
  · intro avs hty
    rw [Try.params11] at hty
    obtain ⟨x0, r0, m0, rfl, t0, hty, q0⟩ := tyArgs_cons hty
    obtain ⟨x1, r1, m1, rfl, t1, hty, q1⟩ := tyArgs_cons hty
    obtain ⟨x2, r2, m2, rfl, t2, hty, q2⟩ := tyArgs_cons hty
    obtain ⟨x3, r3, m3, rfl, t3, hty, q3⟩ := tyArgs_cons hty
    obtain rfl := tyArgs_nil hty
    obtain ⟨p0, rfl, o0, s0⟩ := of_Li64 t0
    obtain ⟨p1, rfl, o1, s1⟩ := of_State t1
    obtain ⟨p2, rfl, o2, s2⟩ := ty_intM t2 Try.underlying3
    obtain ⟨p3, rfl, o3, s3⟩ := ty_intM t3 Try.underlying3
    rw [show argAV Try.prog 22 (enc_Li64 p0) = .p (.sl p0.1 false p0.2.length (p0.2.map Ia)) from argAV_one (by kernel_rfl)]
    rw [show argAV Try.prog 36 (enc_State p1) = .agg ((enc_State p1).map .p) from argAV_agg (by kernel_rfl)]
    rw [show argAV Try.prog 3 [Ia p2] = I p2 from argAV_one (by kernel_rfl)]
    rw [show argAV Try.prog 3 [Ia p3] = I p3 from argAV_one (by kernel_rfl)]
    exact law p0 p1 p2 p3 o0 o1 o2 o3 (by omega) (by omega) (by omega) (by omega)
theorem over : Rows.SnapBacksUptoSaid :=
  OpenClaim.holds_of_cond 11 Try.f11 rfl rfl rfl rfl rfl rfl rfl ⟨rfl, rfl, rfl, rfl, rfl⟩ rfl rfl rfl rfl rfl (by kernel_rfl) Try.func11 (by kernel_rfl)
    (of_decide_eq_true (by kernel_rfl)) (by unfold Func.isWrapper; first | (rw [if_pos (by decide +kernel)]; kernel_rfl) | (rw [if_neg (by decide +kernel)]; exact ⟨rfl, rfl⟩))
    (fun os started H enc _ F => lifted os started H enc F)
end Go.Proofs.Ytangmjeafnkfaaa.SnpLaw
namespace Go.Proofs.Ytangmjeafnkfaaa
theorem snapBacks_holds : Rows.SnapBacksUptoSaid := SnpLaw.over
#print axioms snapBacks_holds
end Go.Proofs.Ytangmjeafnkfaaa
