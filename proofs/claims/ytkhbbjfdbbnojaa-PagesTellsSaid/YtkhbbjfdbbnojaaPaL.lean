/-
It is proved that the law PagesTells returns true for every input, and that its arguments read behind the call as before. Conditions: none.
-/
import Derived.Test.YtkhbbjfdbbnojaaPaXO
import Derived.Test.YtkhbbjfdbbnojaaTy
set_option linter.unusedVariables false
set_option linter.unusedSimpArgs false
namespace Go.Proofs.Ytkhbbjfdbbnojaa.PaLaw
open Go Go.AM Go.Proofs.Ytkhbbjfdbbnojaa
open Go.ChangeShapes Go.WideShapes Go.ChangeAt Go.RowKit
theorem law (p0 : A_DStore) (p1 : Int) (p2 : Int) (p3 : Int) (p4 : Int) (h0 : ok_DStore p0) (h1 : (Lit.int .i64 p1).wf = true) (h2 : (Lit.int .i64 p2).wf = true) (h3 : (Lit.int .i64 p3).wf = true) (h4 : (Lit.int .i64 p4).wf = true) : ∃ H', O.ent 7 [.agg ((enc_DStore p0).map .p), I p1, I p2, I p3, I p4] [] [] = some ([B true], H') := by
  let s : Pa.SD := ⟨p0.1.1, false, p0.1.2, p0.2.1.1, false, p0.2.1.2, p0.2.2.1, false, p0.2.2.2.map fun x => (x.1, false, x.2)⟩
  have e : p0.2.2.2.flatMap enc_Li64 = (p0.2.2.2.map fun x => ((x.1, false, x.2) : Dd)).map us := by
    induction p0.2.2.2 with
    | nil => rfl
    | cons x l ih => rw [List.flatMap_cons, ih]; rfl
  have hs : (.agg ((enc_DStore p0).map .p) : AV) = Pa.avS s := by
    show AV.agg ([PV.sl p0.1.1 false p0.1.2.length (p0.1.2.flatMap enc_A4i64), .sl p0.2.1.1 false p0.2.1.2.length (p0.2.1.2.map Ia), .sl p0.2.2.1 false p0.2.2.2.length (p0.2.2.2.flatMap enc_Li64)].map .p) = _
    have hl : (p0.2.2.2.map fun x => ((x.1, false, x.2) : Dd)).length = p0.2.2.2.length := List.length_map ..
    rw [e, ← hl]
    rfl
  rw [hs]
  refine ⟨[], Pa.law ⟨h0.1.2.2, h0.2.1.2.2, ?_⟩ ?_ p1 p2 p3 p4⟩
  · intro d hd
    obtain ⟨x, hx, rfl⟩ := List.mem_map.mp hd
    exact (h0.2.2.2.1 x hx).2.2
  · intro d hd
    obtain ⟨x, hx, rfl⟩ := List.mem_map.mp hd
    have := (h0.2.2.2.1 x hx).1
    unfold maxLen at this
    show x.2.length < _
    omega
theorem closed : closedB Try.prog [72, 70, 149, 3, 30, 61] = true := by kernel_rfl
set_option maxRecDepth 100000 in
theorem lifted (os : Os) (started : os.Started) (H : Type) (enc : TypeId × Value → H) :
    ReturnsInHanded {} Try.checked os 7 .any (Rows.pagesTellsSpec.pre6 enc Try.prog Try.f7 Rows.pagesTellsRow.domain false) (Rows.pagesTellsSpec.post enc Try.prog Try.f7 false true false false) := by
  refine returnsInHanded_of_change_sized (C := Try.checked) own started (by kernel_rfl) Try.func7
    (ChangeSpec.witness6 (enc := enc) (C := Try.checked) false ⟨#[], #[.agg #[.slice none 0 0, .slice none 0 0, .slice none 0 0], .int .i64 0, .int .i64 0, .int .i64 0, .int .i64 0], []⟩ 8 (by kernel_rfl) (by kernel_rfl) (by kernel_rfl) (by kernel_rfl)) ?_
  intro W base args ds gs before hval hW hcnd hsz _
  refine law_post (cfg := cfg) (bulkOk H) closed (by rw [Try.params7]; decide) laidOut (by rw [Try.params7]; intro t ht; simp at ht; rcases ht with rfl | rfl <;> exact ⟨by kernel_rfl, of_decide_eq_true (by kernel_rfl)⟩) (tb := 4) (by kernel_rfl) Try.underlying4 (s := Rows.pagesTellsSpec) rfl ?_ hval hW ?_
  · intro hl
    rw [Try.params7] at hl
    match ds, hl with
    | [d0, d1, d2, d3, d4], _ => rfl
  · intro avs hty
    rw [Try.params7] at hty
    obtain ⟨x0, r0, m0, rfl, t0, hty, q0⟩ := tyArgs_cons hty
    obtain ⟨x1, r1, m1, rfl, t1, hty, q1⟩ := tyArgs_cons hty
    obtain ⟨x2, r2, m2, rfl, t2, hty, q2⟩ := tyArgs_cons hty
    obtain ⟨x3, r3, m3, rfl, t3, hty, q3⟩ := tyArgs_cons hty
    obtain ⟨x4, r4, m4, rfl, t4, hty, q4⟩ := tyArgs_cons hty
    obtain rfl := tyArgs_nil hty
    obtain ⟨p0, rfl, o0, s0⟩ := of_DStore t0
    obtain ⟨p1, rfl, o1, s1⟩ := ty_intM t1 Try.underlying3
    obtain ⟨p2, rfl, o2, s2⟩ := ty_intM t2 Try.underlying3
    obtain ⟨p3, rfl, o3, s3⟩ := ty_intM t3 Try.underlying3
    obtain ⟨p4, rfl, o4, s4⟩ := ty_intM t4 Try.underlying3
    rw [show argAV Try.prog 72 (enc_DStore p0) = .agg ((enc_DStore p0).map .p) from argAV_agg (by kernel_rfl)]
    rw [show argAV Try.prog 3 [Ia p1] = I p1 from argAV_one (by kernel_rfl)]
    rw [show argAV Try.prog 3 [Ia p2] = I p2 from argAV_one (by kernel_rfl)]
    rw [show argAV Try.prog 3 [Ia p3] = I p3 from argAV_one (by kernel_rfl)]
    rw [show argAV Try.prog 3 [Ia p4] = I p4 from argAV_one (by kernel_rfl)]
    exact law p0 p1 p2 p3 p4 o0 o1 o2 o3 o4
theorem over : Rows.pagesTellsRow.holds Try.pinned (OpenSpec.ofChange Rows.pagesTellsSpec) :=
  OpenClaim.holds_of_wide 7 Try.f7 rfl rfl rfl rfl rfl rfl rfl ⟨rfl, rfl, rfl, rfl, rfl⟩ rfl rfl rfl rfl rfl (by kernel_rfl) Try.func7 (by kernel_rfl)
    (of_decide_eq_true (by kernel_rfl)) (by unfold Func.isWrapper; first | (rw [if_pos (by decide +kernel)]; kernel_rfl) | (rw [if_neg (by decide +kernel)]; exact ⟨rfl, rfl⟩))
    (fun os started H enc _ => lifted os started H enc)
end Go.Proofs.Ytkhbbjfdbbnojaa.PaLaw
namespace Go.Proofs.Ytkhbbjfdbbnojaa
theorem pagesTells_holds : Rows.PagesTellsSaid := PaLaw.over
#print axioms pagesTells_holds
end Go.Proofs.Ytkhbbjfdbbnojaa
