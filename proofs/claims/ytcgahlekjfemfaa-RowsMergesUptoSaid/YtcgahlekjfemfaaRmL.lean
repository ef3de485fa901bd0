/-
It is proved that the law RowsMerges returns true for every input of bulk at most 1048576, and that its arguments read behind the call as before. Conditions: none but the bulk's bound.
-/
import Derived.Test.YtcgahlekjfemfaaRmZ
import Derived.Test.YtcgahlekjfemfaaTy
set_option linter.unusedVariables false
set_option linter.unusedSimpArgs false
namespace Go.Proofs.Ytcgahlekjfemfaa.RmLaw
open Go Go.AM Go.Proofs.Ytcgahlekjfemfaa
open Go.ChangeShapes Go.WideShapes Go.ChangeAt Go.RowKit
theorem law (p0 : A_LEvent) (p1 : A_LEvent) (h0 : ok_LEvent p0) (h1 : ok_LEvent p1) (b0 : sz_LEvent p0 ≤ 1048576) (b1 : sz_LEvent p1 ≤ 1048576) : ∃ H', O.ent 4 [.p (.sl p0.1 false p0.2.length (p0.2.flatMap enc_Event)), .p (.sl p1.1 false p1.2.length (p1.2.flatMap enc_Event))] [] [] = some ([B true], H') := by
  have hl : ∀ (q : List A_Event), q.length ≤ (q.map fun x => sz_Event x).sum := by
    intro q
    induction q with
    | nil => simp
    | cons x q ih =>
      have : 1 ≤ sz_Event x := by unfold sz_Event; omega
      simp only [List.length_cons, List.map_cons, List.sum_cons]; omega
  have l0 := hl p0.2
  have l1 := hl p1.2
  simp only [sz_LEvent] at b0 b1
  exact Rm.law (n1 := p0.1) (t1 := false) (l := p0.2) (n2 := p1.1) (t2 := false) (m := p1.2) (by omega) (by omega)
theorem closed : closedB Try.prog [40, 73, 3, 71] = true := by kernel_rfl
set_option maxRecDepth 100000 in
theorem lifted (os : Os) (started : os.Started) (H : Type) (enc : TypeId × Value → H) (F : Stop.Interp) :
    ReturnsInHanded {} Try.checked os 4 .any ((Rows.OpenSpec.upto Rows.rowsMergesSpec).pre6 enc Try.prog Try.f4 Rows.rowsMergesUptoRow.domain false) (((Rows.OpenSpec.upto Rows.rowsMergesSpec).at F).post enc Try.prog Try.f4 false true false false) := by
  refine returnsInHanded_of_cond (C := Try.checked) (s := (Rows.OpenSpec.upto Rows.rowsMergesSpec)) (k := Rows.uptoSmall) rfl own started (by kernel_rfl) Try.func4
    (OpenSpec.witness (enc := enc) (C := Try.checked) (s := (Rows.OpenSpec.upto Rows.rowsMergesSpec)) (k := Rows.uptoSmall) rfl false ⟨#[], #[.slice none 0 0, .slice none 0 0], []⟩ 8 (by kernel_rfl) (by kernel_rfl) (by kernel_rfl)
      (x := ([.nil, .nil], [], [])) (by kernel_rfl) rfl (by kernel_rfl)) ?_
  intro W base args ds gs before hval hW _ hk _
  have hsm := small_sum hk
  refine law_post (cfg := cfg) (bulkOk H) closed (by rw [Try.params4]; decide) laidOut (by rw [Try.params4]; intro t ht; simp at ht; rcases ht with rfl <;> exact ⟨by kernel_rfl, of_decide_eq_true (by kernel_rfl)⟩) (tb := 4) (by kernel_rfl) Try.underlying4 (s := Rows.rowsMergesSpec) rfl ?_ hval hW ?_
  · intro hl
    rw [Try.params4] at hl
    match ds, hl with
    | [d0, d1], _ => rfl
  · intro avs hty
    rw [Try.params4] at hty
    obtain ⟨x0, r0, m0, rfl, t0, hty, q0⟩ := tyArgs_cons hty
    obtain ⟨x1, r1, m1, rfl, t1, hty, q1⟩ := tyArgs_cons hty
    obtain rfl := tyArgs_nil hty
    obtain ⟨p0, rfl, o0, s0⟩ := of_LEvent t0
    obtain ⟨p1, rfl, o1, s1⟩ := of_LEvent t1
    rw [show argAV Try.prog 40 (enc_LEvent p0) = .p (.sl p0.1 false p0.2.length (p0.2.flatMap enc_Event)) from argAV_one (by kernel_rfl)]
    rw [show argAV Try.prog 40 (enc_LEvent p1) = .p (.sl p1.1 false p1.2.length (p1.2.flatMap enc_Event)) from argAV_one (by kernel_rfl)]
    exact law p0 p1 o0 o1 (by omega) (by omega)
theorem over : Rows.RowsMergesUptoSaid :=
  OpenClaim.holds_of_cond 4 Try.f4 rfl rfl rfl rfl rfl rfl rfl ⟨rfl, rfl, rfl, rfl, rfl⟩ rfl rfl rfl rfl rfl (by kernel_rfl) Try.func4 (by kernel_rfl)
    (of_decide_eq_true (by kernel_rfl)) (by unfold Func.isWrapper; first | (rw [if_pos (by decide +kernel)]; kernel_rfl) | (rw [if_neg (by decide +kernel)]; exact ⟨rfl, rfl⟩))
    (fun os started H enc _ F => lifted os started H enc F)
end Go.Proofs.Ytcgahlekjfemfaa.RmLaw
namespace Go.Proofs.Ytcgahlekjfemfaa
theorem rowsMerges_holds : Rows.RowsMergesUptoSaid := RmLaw.over
#print axioms rowsMerges_holds
end Go.Proofs.Ytcgahlekjfemfaa
