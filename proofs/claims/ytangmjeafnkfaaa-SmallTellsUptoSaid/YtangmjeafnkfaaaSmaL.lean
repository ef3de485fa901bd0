/-
It is proved that the law SmallTells returns true for every input of bulk at most 1048576, and that its arguments read behind the call as before. Conditions: none but the bulk's bound.
-/
import Derived.Test.YtangmjeafnkfaaaSmaV
import Derived.Test.YtangmjeafnkfaaaTy
set_option linter.unusedVariables false
set_option linter.unusedSimpArgs false
namespace Go.Proofs.Ytangmjeafnkfaaa.SmaLaw
open Go Go.AM Go.Proofs.Ytangmjeafnkfaaa
open Go.ChangeShapes Go.WideShapes Go.ChangeAt Go.RowKit
theorem nl_known {nl : Option Bool} {tg : Bool} {n m : Nat} {ys : List PV} (h : TyC Try.prog 22 [.sl nl tg n ys] m) : nl = some false ∨ (nl = some true ∧ n = 0) := by
  generalize hx : [PV.sl nl tg n ys] = xs at h
  cases h with
  | nil h hm => cases hx; exact .inr ⟨rfl, rfl⟩
  | @sl _ e' _ n ys ms h hmax hn hl hx' hm => cases hx; exact .inl rfl
  | int _ h => rw [Try.underlying22] at h; cases h
  | _ => first | (cases hx; done) | (simp_all; done)
theorem law (p0 : A_Li64) (p1 : Int) (p2 : Int) (p3 : Bool) (p4 : Bool) (h0 : ok_Li64 p0) (h1 : (Lit.int .i64 p1).wf = true) (h2 : (Lit.int .i64 p2).wf = true) (h3 : True) (h4 : True) (b0 : sz_Li64 p0 ≤ 1048576) (b1 : 1 ≤ 1048576) (b2 : 1 ≤ 1048576) (b3 : 1 ≤ 1048576) (b4 : 1 ≤ 1048576) (hk : Sma.Kn p0.1 p0.2) : ∃ H', O.ent 12 [.p (.sl p0.1 false p0.2.length (p0.2.map Ia)), I p1, I p2, B p3, B p4] [] [] = some ([B true], H') := by
  exact Sma.law (nl := p0.1) (tg := false) (l := p0.2) hk (by
    have : (p0.2.map fun _ => 1).sum = p0.2.length := by induction p0.2 with
      | nil => rfl
      | cons x xs ih => simp_all; omega
    unfold sz_Li64 at b0; rw [this] at b0; omega) p1 p2 p3 p4
theorem closed : closedB Try.prog [22, 3, 4] = true := by kernel_rfl
set_option maxRecDepth 100000 in
theorem lifted (os : Os) (started : os.Started) (H : Type) (enc : TypeId × Value → H) (F : Stop.Interp) :
    ReturnsInHanded {} Try.checked os 12 .any ((Rows.OpenSpec.upto Rows.smallTellsSpec).pre6 enc Try.prog Try.f12 Rows.smallTellsUptoRow.domain false) (((Rows.OpenSpec.upto Rows.smallTellsSpec).at F).post enc Try.prog Try.f12 false true false false) := by
  refine returnsInHanded_of_cond (C := Try.checked) (s := (Rows.OpenSpec.upto Rows.smallTellsSpec)) (k := Rows.uptoSmall) rfl own started (by kernel_rfl) Try.func12
    (OpenSpec.witness (enc := enc) (C := Try.checked) (s := (Rows.OpenSpec.upto Rows.smallTellsSpec)) (k := Rows.uptoSmall) rfl false ⟨#[], #[.slice none 0 0, .int .i64 0, .int .i64 0, .bool false, .bool false], []⟩ 8 (by kernel_rfl) (by kernel_rfl) (by kernel_rfl)
      (x := ([.nil, .lit (.int .i64 0), .lit (.int .i64 0), .lit (.bool false), .lit (.bool false)], [], [])) (by kernel_rfl) rfl (by kernel_rfl)) ?_
  intro W base args ds gs before hval hW _ hk _
  have hsm := small_sum hk
  refine law_post (cfg := cfg) (bulkOk H) closed (by rw [Try.params12]; decide) laidOut (by rw [Try.params12]; intro t ht; simp at ht; rcases ht with rfl | rfl | rfl <;> exact ⟨by kernel_rfl, of_decide_eq_true (by kernel_rfl)⟩) (tb := 4) (by kernel_rfl) Try.underlying4 (s := Rows.smallTellsSpec) rfl ?_ hval hW ?_
  · intro hl
    rw [Try.params12] at hl
    match ds, hl with
    | [d0, d1, d2, d3, d4], _ => rfl
  · intro avs hty
    rw [Try.params12] at hty
    obtain ⟨x0, r0, m0, rfl, t0, hty, q0⟩ := tyArgs_cons hty
    obtain ⟨x1, r1, m1, rfl, t1, hty, q1⟩ := tyArgs_cons hty
    obtain ⟨x2, r2, m2, rfl, t2, hty, q2⟩ := tyArgs_cons hty
    obtain ⟨x3, r3, m3, rfl, t3, hty, q3⟩ := tyArgs_cons hty
    obtain ⟨x4, r4, m4, rfl, t4, hty, q4⟩ := tyArgs_cons hty
    obtain rfl := tyArgs_nil hty
    obtain ⟨p0, rfl, o0, s0⟩ := of_Li64 t0
    have hk : Sma.Kn p0.1 p0.2 := (nl_known t0).imp id fun h => ⟨h.1, List.length_eq_zero_iff.mp h.2⟩
    obtain ⟨p1, rfl, o1, s1⟩ := ty_intM t1 Try.underlying3
    obtain ⟨p2, rfl, o2, s2⟩ := ty_intM t2 Try.underlying3
    obtain ⟨p3, rfl, o3, s3⟩ := ty_boolM t3 Try.underlying4
    obtain ⟨p4, rfl, o4, s4⟩ := ty_boolM t4 Try.underlying4
    rw [show argAV Try.prog 22 (enc_Li64 p0) = .p (.sl p0.1 false p0.2.length (p0.2.map Ia)) from argAV_one (by kernel_rfl)]
    rw [show argAV Try.prog 3 [Ia p1] = I p1 from argAV_one (by kernel_rfl)]
    rw [show argAV Try.prog 3 [Ia p2] = I p2 from argAV_one (by kernel_rfl)]
    rw [show argAV Try.prog 4 [.v (.bool p3)] = B p3 from argAV_one (by kernel_rfl)]
    rw [show argAV Try.prog 4 [.v (.bool p4)] = B p4 from argAV_one (by kernel_rfl)]
    exact law p0 p1 p2 p3 p4 o0 o1 o2 o3 o4 (by omega) (by omega) (by omega) (by omega) (by omega) hk
theorem over : Rows.SmallTellsUptoSaid :=
  OpenClaim.holds_of_cond 12 Try.f12 rfl rfl rfl rfl rfl rfl rfl ⟨rfl, rfl, rfl, rfl, rfl⟩ rfl rfl rfl rfl rfl (by kernel_rfl) Try.func12 (by kernel_rfl)
    (of_decide_eq_true (by kernel_rfl)) (by unfold Func.isWrapper; first | (rw [if_pos (by decide +kernel)]; kernel_rfl) | (rw [if_neg (by decide +kernel)]; exact ⟨rfl, rfl⟩))
    (fun os started H enc _ F => lifted os started H enc F)
end Go.Proofs.Ytangmjeafnkfaaa.SmaLaw
namespace Go.Proofs.Ytangmjeafnkfaaa
theorem smallTells_holds : Rows.SmallTellsUptoSaid := SmaLaw.over
#print axioms smallTells_holds
end Go.Proofs.Ytangmjeafnkfaaa
