/-
It is proved that the law SnapFlats returns true for every input of bulk at most 1048576, and that its arguments read behind the call as before. Conditions: none but the bulk's bound.
-/
import Derived.Test.YtangmjeafnkfaaaFlatW
import Derived.Test.YtangmjeafnkfaaaTy
set_option linter.unusedVariables false
set_option linter.unusedSimpArgs false
namespace Go.Proofs.Ytangmjeafnkfaaa.FlatLaw
open Go Go.AM Go.Proofs.Ytangmjeafnkfaaa
open Go.ChangeShapes Go.WideShapes Go.ChangeAt Go.RowKit
theorem law (p0 : A_State) (h0 : ok_State p0) (b0 : sz_State p0 ≤ 1048576) : ∃ H', O.ent 4 [.agg ((enc_State p0).map .p)] [] [] = some ([B true], H') := by
  exact Flat.law p0 h0 b0
theorem closed : closedB Try.prog [36, 29, 130, 3, 34, 48, 128, 207, 205, 212, 30, 134, 31, 9, 32, 141, 33, 145] = true := by kernel_rfl
set_option maxRecDepth 100000 in
theorem lifted (os : Os) (started : os.Started) (H : Type) (enc : TypeId × Value → H) (F : Stop.Interp) :
    ReturnsInHanded {} Try.checked os 4 .any ((Rows.OpenSpec.upto Rows.snapFlatsSpec).pre6 enc Try.prog Try.f4 Rows.snapFlatsUptoRow.domain false) (((Rows.OpenSpec.upto Rows.snapFlatsSpec).at F).post enc Try.prog Try.f4 false true false false) := by
  refine returnsInHanded_of_cond (C := Try.checked) (s := (Rows.OpenSpec.upto Rows.snapFlatsSpec)) (k := Rows.uptoSmall) rfl own started (by kernel_rfl) Try.func4
    (OpenSpec.witness (enc := enc) (C := Try.checked) (s := (Rows.OpenSpec.upto Rows.snapFlatsSpec)) (k := Rows.uptoSmall) rfl false ⟨#[], #[.agg #[.slice none 0 0, .slice none 0 0, .slice none 0 0, .slice none 0 0, .slice none 0 0, .slice none 0 0, .int .i64 0, .int .i64 0]], []⟩ 8 (by kernel_rfl) (by kernel_rfl) (by kernel_rfl)
      (x := ([.agg [.nil, .nil, .nil, .nil, .nil, .nil, .lit (.int .i64 0), .lit (.int .i64 0)]], [], [])) (by kernel_rfl) rfl (by kernel_rfl)) ?_
  intro W base args ds gs before hval hW _ hk _
  have hsm := small_sum hk
  refine law_post (cfg := cfg) (bulkOk H) closed (by rw [Try.params4]; decide) laidOut (by rw [Try.params4]; intro t ht; simp at ht; rcases ht with rfl <;> exact ⟨by kernel_rfl, of_decide_eq_true (by kernel_rfl)⟩) (tb := 4) (by kernel_rfl) Try.underlying4 (s := Rows.snapFlatsSpec) rfl ?_ hval hW ?_
  · intro hl
    rw [Try.params4] at hl
    match ds, hl with
    | [d0], _ => rfl
  · intro avs hty
    rw [Try.params4] at hty
    obtain ⟨x0, r0, m0, rfl, t0, hty, _⟩ := tyArgs_cons hty
    obtain rfl := tyArgs_nil hty
    obtain ⟨p0, rfl, o0, s0⟩ := of_State t0
    rw [show argAV Try.prog 36 (enc_State p0) = .agg ((enc_State p0).map .p) from argAV_agg (by kernel_rfl)]
    exact law p0 o0 (Nat.le_trans s0 hsm)
theorem over : Rows.SnapFlatsUptoSaid :=
  OpenClaim.holds_of_cond 4 Try.f4 rfl rfl rfl rfl rfl rfl rfl ⟨rfl, rfl, rfl, rfl, rfl⟩ rfl rfl rfl rfl rfl (by kernel_rfl) Try.func4 (by kernel_rfl)
    (of_decide_eq_true (by kernel_rfl)) (by unfold Func.isWrapper; first | (rw [if_pos (by decide +kernel)]; kernel_rfl) | (rw [if_neg (by decide +kernel)]; exact ⟨rfl, rfl⟩))
    (fun os started H enc _ F => lifted os started H enc F)
end Go.Proofs.Ytangmjeafnkfaaa.FlatLaw
namespace Go.Proofs.Ytangmjeafnkfaaa
theorem snapFlats_holds : Rows.SnapFlatsUptoSaid := FlatLaw.over
#print axioms snapFlats_holds
end Go.Proofs.Ytangmjeafnkfaaa
