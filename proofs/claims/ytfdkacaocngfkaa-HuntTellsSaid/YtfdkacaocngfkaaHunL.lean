/-
It is proved that the law HuntTells returns true for every input, and that its arguments read behind the call as before. Conditions: none.
-/
import Derived.Test.YtfdkacaocngfkaaHunO
import Derived.Test.YtfdkacaocngfkaaTy
set_option linter.unusedVariables false
set_option linter.unusedSimpArgs false
namespace Go.Proofs.Ytfdkacaocngfkaa.HunLaw
open Go Go.AM Go.Proofs.Ytfdkacaocngfkaa
open Go.ChangeShapes Go.WideShapes Go.ChangeAt Go.RowKit
theorem nl_known {nl : Option Bool} {tg : Bool} {n m : Nat} {ys : List PV} (h : TyC Try.prog 30 [.sl nl tg n ys] m) : nl = some false ∨ (nl = some true ∧ n = 0) := by
  generalize hx : [PV.sl nl tg n ys] = xs at h
  cases h with
  | nil h hm => cases hx; exact .inr ⟨rfl, rfl⟩
  | @sl _ e' _ n ys ms h hmax hn hl hx' hm => cases hx; exact .inl rfl
  | int _ h => rw [Try.underlying30] at h; cases h
  | _ => first | (cases hx; done) | (simp_all; done)
theorem law (p0 : A_LDDep) (p1 : Int) (p2 : A_Li64) (p3 : A_Lbool) (p4 : Bool) (h0 : ok_LDDep p0) (h1 : (Lit.int .i64 p1).wf = true) (h2 : ok_Li64 p2) (h3 : ok_Lbool p3) (h4 : True) (hk : Hun.Kn p2.1 p2.2) : ∃ H', O.ent 6 [.p (.sl p0.1 false p0.2.length (p0.2.flatMap enc_DDep)), I p1, .p (.sl p2.1 false p2.2.length (p2.2.map Ia)), .p (.sl p3.1 false p3.2.length (p3.2.map (fun z => .v (.bool z)))), B p4] [] [] = some ([B true], H') := by
  have e : p0.2.flatMap enc_DDep = p0.2.map Hun.us := flat_one Hun.us p0.2
  rw [e]
  exact Hun.law (nl := p0.1) (tg := false) (l := p0.2) (n2 := p2.1) (t2 := false) (gs := p2.2) (n3 := p3.1) (t3 := false) (fun k => by
    unfold Hun.U
    rcases Nat.lt_or_ge k p0.2.length with q | q
    · have m := (h0.2 _ (List.getElem_mem q)).1
      simp only [maxLen] at m
      have : p0.2.getD k (none, []) = p0.2[k] := by simp [List.getD, q]
      rw [this]
      exact Nat.lt_of_le_of_lt m (by omega)
    · have : p0.2.getD k (none, []) = (none, []) := by simp [List.getD, Nat.not_lt.mpr q]
      rw [this]; simp) hk p1 p3.2 p4
theorem closed : closedB Try.prog [60, 126, 30, 3, 61, 4] = true := by kernel_rfl
set_option maxRecDepth 100000 in
theorem lifted (os : Os) (started : os.Started) (H : Type) (enc : TypeId × Value → H) :
    ReturnsInHanded {} Try.checked os 6 .any (Rows.huntTellsSpec.pre6 enc Try.prog Try.f6 Rows.huntTellsRow.domain false) (Rows.huntTellsSpec.post enc Try.prog Try.f6 false true false false) := by
  refine returnsInHanded_of_change_sized (C := Try.checked) own started (by kernel_rfl) Try.func6
    (ChangeSpec.witness6 (enc := enc) (C := Try.checked) false ⟨#[], #[.slice none 0 0, .int .i64 0, .slice none 0 0, .slice none 0 0, .bool false], []⟩ 8 (by kernel_rfl) (by kernel_rfl) (by kernel_rfl) (by kernel_rfl)) ?_
  intro W base args ds gs before hval hW hcnd hsz _
  refine law_post (cfg := cfg) (bulkOk H) closed (by rw [Try.params6]; decide) laidOut (by rw [Try.params6]; intro t ht; simp at ht; rcases ht with rfl | rfl | rfl | rfl | rfl <;> exact ⟨by kernel_rfl, of_decide_eq_true (by kernel_rfl)⟩) (tb := 4) (by kernel_rfl) Try.underlying4 (s := Rows.huntTellsSpec) rfl ?_ hval hW ?_
  · intro hl
    rw [Try.params6] at hl
    match ds, hl with
    | [d0, d1, d2, d3, d4], _ => rfl
  · intro avs hty
    rw [Try.params6] at hty
    obtain ⟨x0, r0, m0, rfl, t0, hty, q0⟩ := tyArgs_cons hty
    obtain ⟨x1, r1, m1, rfl, t1, hty, q1⟩ := tyArgs_cons hty
    obtain ⟨x2, r2, m2, rfl, t2, hty, q2⟩ := tyArgs_cons hty
    obtain ⟨x3, r3, m3, rfl, t3, hty, q3⟩ := tyArgs_cons hty
    obtain ⟨x4, r4, m4, rfl, t4, hty, q4⟩ := tyArgs_cons hty
    obtain rfl := tyArgs_nil hty
    obtain ⟨p0, rfl, o0, s0⟩ := of_LDDep t0
    obtain ⟨p1, rfl, o1, s1⟩ := ty_intM t1 Try.underlying3
    obtain ⟨p2, rfl, o2, s2⟩ := of_Li64 t2
    have hk : Hun.Kn p2.1 p2.2 := (nl_known t2).imp id fun h => ⟨h.1, List.length_eq_zero_iff.mp h.2⟩
    obtain ⟨p3, rfl, o3, s3⟩ := of_Lbool t3
    obtain ⟨p4, rfl, o4, s4⟩ := ty_boolM t4 Try.underlying4
    rw [show argAV Try.prog 60 (enc_LDDep p0) = .p (.sl p0.1 false p0.2.length (p0.2.flatMap enc_DDep)) from argAV_one (by kernel_rfl)]
    rw [show argAV Try.prog 3 [Ia p1] = I p1 from argAV_one (by kernel_rfl)]
    rw [show argAV Try.prog 30 (enc_Li64 p2) = .p (.sl p2.1 false p2.2.length (p2.2.map Ia)) from argAV_one (by kernel_rfl)]
    rw [show argAV Try.prog 61 (enc_Lbool p3) = .p (.sl p3.1 false p3.2.length (p3.2.map (fun z => .v (.bool z)))) from argAV_one (by kernel_rfl)]
    rw [show argAV Try.prog 4 [.v (.bool p4)] = B p4 from argAV_one (by kernel_rfl)]
    exact law p0 p1 p2 p3 p4 o0 o1 o2 o3 o4 hk
theorem over : Rows.huntTellsRow.holds Try.pinned (OpenSpec.ofChange Rows.huntTellsSpec) :=
  OpenClaim.holds_of_wide 6 Try.f6 rfl rfl rfl rfl rfl rfl rfl ⟨rfl, rfl, rfl, rfl, rfl⟩ rfl rfl rfl rfl rfl (by kernel_rfl) Try.func6 (by kernel_rfl)
    (of_decide_eq_true (by kernel_rfl)) (by unfold Func.isWrapper; first | (rw [if_pos (by decide +kernel)]; kernel_rfl) | (rw [if_neg (by decide +kernel)]; exact ⟨rfl, rfl⟩))
    (fun os started H enc _ => lifted os started H enc)
end Go.Proofs.Ytfdkacaocngfkaa.HunLaw
namespace Go.Proofs.Ytfdkacaocngfkaa
theorem huntTells_holds : Rows.HuntTellsSaid := HunLaw.over
#print axioms huntTells_holds
end Go.Proofs.Ytfdkacaocngfkaa
