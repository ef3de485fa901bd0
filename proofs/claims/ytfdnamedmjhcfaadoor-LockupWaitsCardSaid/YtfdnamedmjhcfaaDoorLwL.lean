/-
It is proved that the law LockupWaits returns true for every input, and that its arguments read behind the call as before. Conditions: the two laid variables, tied to the program's text.
-/
import Derived.Test.YtfdnamedmjhcfaaDoorSaXO
import Derived.Test.YtfdnamedmjhcfaaDoorTy
import Derived.Test.YtfdnamedmjhcfaaDoorTie
import Derived.Test.YtfdnamedmjhcfaaDoorCards
import Derived.SevenTiedAt
import Derived.LaidMore
import Derived.OpenShut
import Derived.Stop.Joined
set_option linter.unusedVariables false
set_option linter.unusedSimpArgs false
namespace Go.Proofs.YtfdnamedmjhcfaaDoor.LwLaw
open Go Go.AM Go.Proofs.YtfdnamedmjhcfaaDoor
open Go.ChangeShapes Go.WideShapes Go.ChangeAt Go.RowKit
theorem law (p0 : A_Prog) (p1 : A_State) (h0 : ok_Prog p0) (h1 : ok_State p1) : ∃ H', O.ent 3 [.agg ((enc_Prog p0).map .p), .agg ((enc_State p1).map .p)] [] [] = some ([B true], H') := by
  exact ⟨[], Ir.ent3 (Ir.pok h0) (Ir.sok h1)⟩
theorem closed : closedB Tryd.prog [26, 22, 74, 3, 4, 71, 72, 106, 23, 80, 24, 9, 32, 27, 84, 78, 104, 102, 219, 28, 146, 29, 82, 30, 154] = true := by kernel_rfl
set_option maxRecDepth 100000 in
theorem lifted (os : Os) (started : os.Started) (H : Type) (enc : TypeId × Value → H) :
    ReturnsInHanded {} Tryd.checked os 3 .any (fun w args => (Rows.lockupWaitsSpec.pre enc Tryd.prog Tryd.f3 [] false w args ∧ laidMetH Tryd.prog Ir.laid2 w) ∧ sizedMet enc Tryd.prog Tryd.f3 (OpenSpec.ofChange Rows.lockupWaitsSpec) false w args)
      (Rows.lockupWaitsSpec.post enc Tryd.prog Tryd.f3 false true false false) := by
  refine returnsInHanded_of_change_and (C := Tryd.checked) (X := fun w _ => laidMetH Tryd.prog Ir.laid2 w) (fun _ _ _ hh h => h.of_heap hh) own started (by kernel_rfl) Tryd.func3
    (ChangeSpec.witness_shaped (enc := enc) (C := Tryd.checked) (os := os) (X := fun w _ => laidMetH Tryd.prog Ir.laid2 w) false (World.doorLaid Tryd.prog 58 os) #[.agg #[.slice none 0 0, .slice none 0 0, .slice none 0 0], .agg #[.slice none 0 0, .slice none 0 0, .slice none 0 0, .slice none 0 0, .slice none 0 0, .slice none 0 0, .int .i64 0, .int .i64 0]] 8 rfl (World.shaped_of_RefB (by kernel_rfl) (by kernel_rfl)) (by kernel_rfl) (by kernel_rfl) (by kernel_rfl) (Ir.door_met os _)) ?_
  intro W base args ds gs before hval hW _ _ hL _
  refine law_post (cfg := cfg) (bulkOk H) closed (by rw [Tryd.params3]; decide) laidOut (by rw [Tryd.params3]; intro t ht; simp at ht; rcases ht with rfl | rfl <;> exact ⟨by kernel_rfl, of_decide_eq_true (by kernel_rfl)⟩) (tb := 4) (by kernel_rfl) Tryd.underlying4 (s := Rows.lockupWaitsSpec) rfl ?_ hval hW ?_ (hx := Ir.extOk) (hkn := Ir.known_of hL)
  · intro hl
    rw [Tryd.params3] at hl
    match ds, hl with
    | [d0, d1], _ => rfl
  · intro avs hty
    rw [Tryd.params3] at hty
    obtain ⟨x0, r0, m0, rfl, t0, hty, q0⟩ := tyArgs_cons hty
    obtain ⟨x1, r1, m1, rfl, t1, hty, q1⟩ := tyArgs_cons hty
    obtain rfl := tyArgs_nil hty
    obtain ⟨p0, rfl, o0, s0⟩ := of_Prog t0
    obtain ⟨p1, rfl, o1, s1⟩ := of_State t1
    rw [show argAV Tryd.prog 26 (enc_Prog p0) = .agg ((enc_Prog p0).map .p) from argAV_agg (by kernel_rfl)]
    rw [show argAV Tryd.prog 32 (enc_State p1) = .agg ((enc_State p1).map .p) from argAV_agg (by kernel_rfl)]
    exact law p0 p1 o0 o1
theorem over : Rows.lockupWaitsRow.holds Tryd.pinned (OpenSpec.ofChange Rows.lockupWaitsSpec) :=
  OpenClaim.holds_of_wide 3 Tryd.f3 rfl rfl rfl rfl rfl rfl rfl ⟨rfl, rfl, rfl, rfl, rfl⟩ rfl rfl rfl rfl rfl (by kernel_rfl) Tryd.func3 (by kernel_rfl)
    (of_decide_eq_true (by kernel_rfl)) (by unfold Func.isWrapper; first | (rw [if_pos (by decide +kernel)]; kernel_rfl) | (rw [if_neg (by decide +kernel)]; exact ⟨rfl, rfl⟩))
    (fun os started H enc _ => lifted os started H enc)
end Go.Proofs.YtfdnamedmjhcfaaDoor.LwLaw
namespace Go.Proofs.YtfdnamedmjhcfaaDoor
theorem lockupWaits_row : Rows.LockupWaitsSaid := LwLaw.over
theorem lockupWaits_card_holds : Rows.LockupWaitsCardSaid :=
  Claim7.holds_tied_plain_at .later [] [.listed, .data] true (true, "592a95ae9b489047b7f8729ab7aad537ec6b2c15888b8a616c1a119af2f6f5ab") false
    lockupWaits_row (fun _ h => by cases h) (by kernel_rfl) (fun _ h => by cases h) lockupWaits_row_tie rfl ⟨rfl, rfl⟩ (by kernel_rfl) rfl
    (fun f fn hf hfn => by
      obtain rfl : f = 3 := Option.some.inj ((show Tryd.prog.funcNamed "backstitch/backstitchlaw4.LockupWaits" = some 3 by kernel_rfl).symm.trans hf) |>.symm
      obtain rfl : fn = Tryd.f3 := (Option.some.inj (Tryd.func3.symm.trans hfn)).symm
      exact ⟨by kernel_rfl, fun j t ht => by
        rw [Tryd.params3] at ht
        have hm : t ∈ [26, 32] := by simpa using Array.mem_of_getElem? ht
        have hall : ([26, 32].all fun u => !Tryd.prog.wantsStandIn u) = true := by kernel_rfl
        exact (show Tryd.prog.wantsStandIn t = false by simpa using List.all_eq_true.1 hall t hm)⟩)
    (by kernel_rfl)
#print axioms lockupWaits_card_holds
end Go.Proofs.YtfdnamedmjhcfaaDoor
