/-
It is proved that the law FactsDoes returns true for every input, and that its arguments read behind the call as before. Conditions: the two laid variables, tied to the program's text.
-/
import Derived.Test.YtnjfpnoamgipjaaDoorKfP
import Derived.Test.YtnjfpnoamgipjaaDoorTy
import Derived.Test.YtnjfpnoamgipjaaDoorTie
import Derived.Test.YtnjfpnoamgipjaaDoorCards
import Derived.SevenTiedAt
import Derived.LaidMore
import Derived.OpenShut
import Derived.Stop.Joined
set_option linter.unusedVariables false
set_option linter.unusedSimpArgs false
namespace Go.Proofs.YtnjfpnoamgipjaaDoor.KgLaw
open Go Go.AM Go.Proofs.YtnjfpnoamgipjaaDoor
open Go.ChangeShapes Go.WideShapes Go.ChangeAt Go.RowKit
theorem law (p0:A_Prog)(p1:A_TTrace)(h0:ok_Prog p0)(h1:ok_TTrace p1):∃ H',O.ent 8 [.agg ((enc_Prog p0).map .p),.agg ((enc_TTrace p1).map .p)] [] [] = some ([B true],H') := by
  exact ⟨[],Ir.ent8 h0 h1⟩
theorem closed:closedB Tryd.prog [26,22,76,3,4,40,74,153,23,36,24,9,34,27,38,28,32,29,95,30,97] = true := by kernel_rfl
set_option maxRecDepth 100000 in
theorem lifted (os:Os)(started:os.Started)(H:Type)(enc:TypeId × Value → H) :
    ReturnsInHanded {} Tryd.checked os 8 .any (fun w args => (Rows.factsDoesSpec.pre enc Tryd.prog Tryd.f8 [] false w args ∧ laidMetH Tryd.prog Ir.laid2 w) ∧ sizedMet enc Tryd.prog Tryd.f8 (OpenSpec.ofChange Rows.factsDoesSpec) false w args)
      (Rows.factsDoesSpec.post enc Tryd.prog Tryd.f8 false true false false) := by
  refine returnsInHanded_of_change_and (C := Tryd.checked) (X := fun w _ => laidMetH Tryd.prog Ir.laid2 w) (fun _ _ _ hh h => h.of_heap hh) own started (by kernel_rfl) Tryd.func8
    (ChangeSpec.witness_shaped (enc := enc) (C := Tryd.checked) (os := os) (X := fun w _ => laidMetH Tryd.prog Ir.laid2 w) false (World.doorLaid Tryd.prog 33 os) #[.agg #[.slice none 0 0,.slice none 0 0,.slice none 0 0],.agg #[.int .i64 0,.int .i64 0,.int .i64 0,.slice none 0 0,.slice none 0 0,.int .i64 0,.int .i64 0,.slice none 0 0,.slice none 0 0,.int .i64 0,.int .i64 0,.slice none 0 0,.slice none 0 0]] 8 rfl (World.shaped_of_RefB (by kernel_rfl) (by kernel_rfl)) (by kernel_rfl) (by kernel_rfl) (by kernel_rfl) (Ir.door_met os _)) ?_
  intro W base args ds gs before hval hW _ _ hL _
  refine law_post (cfg := cfg) (bulkOk H) closed (by rw [Tryd.params8]; decide) laidOut (by rw [Tryd.params8]; intro t ht; simp at ht; rcases ht with rfl | rfl <;> exact ⟨by kernel_rfl,of_decide_eq_true (by kernel_rfl)⟩) (tb := 4) (by kernel_rfl) Tryd.underlying4 (s := Rows.factsDoesSpec) rfl ?_ hval hW ?_ (hx := Ir.extOk) (hkn := Ir.known_of hL)
  · intro hl
    rw [Tryd.params8] at hl
    match ds,hl with
    | [d0,d1],_ => rfl
  · intro avs hty
    rw [Tryd.params8] at hty
    obtain ⟨x0,r0,m0,rfl,t0,hty,q0⟩ := tyArgs_cons hty
    obtain ⟨x1,r1,m1,rfl,t1,hty,q1⟩ := tyArgs_cons hty
    obtain rfl := tyArgs_nil hty
    obtain ⟨p0,rfl,o0,s0⟩ := of_Prog t0
    obtain ⟨p1,rfl,o1,s1⟩ := of_TTrace t1
    rw [show argAV Tryd.prog 26 (enc_Prog p0) = .agg ((enc_Prog p0).map .p) from argAV_agg (by kernel_rfl)]
    rw [show argAV Tryd.prog 34 (enc_TTrace p1) = .agg ((enc_TTrace p1).map .p) from argAV_agg (by kernel_rfl)]
    exact law p0 p1 o0 o1
theorem over:Rows.factsDoesRow.holds Tryd.pinned (OpenSpec.ofChange Rows.factsDoesSpec) :=
  OpenClaim.holds_of_wide 8 Tryd.f8 rfl rfl rfl rfl rfl rfl rfl ⟨rfl,rfl,rfl,rfl,rfl⟩ rfl rfl rfl rfl rfl (by kernel_rfl) Tryd.func8 (by kernel_rfl)
    (of_decide_eq_true (by kernel_rfl)) (by unfold Func.isWrapper; first | (rw [if_pos (by decide +kernel)]; kernel_rfl) | (rw [if_neg (by decide +kernel)]; exact ⟨rfl,rfl⟩))
    (fun os started H enc _ => lifted os started H enc)
end Go.Proofs.YtnjfpnoamgipjaaDoor.KgLaw
namespace Go.Proofs.YtnjfpnoamgipjaaDoor
theorem factsDoes_row:Rows.FactsDoesSaid := KgLaw.over
theorem factsDoes_card_holds:Rows.FactsDoesCardSaid :=
  Claim7.holds_tied_plain_at .later [] [.listed,.data] true (true,"ec216e15b5e855b586eae21178a7a68b6c376c5f94f582552495f8a4e5f10422") false
    factsDoes_row (fun _ h => by cases h) (by kernel_rfl) (fun _ h => by cases h) factsDoes_row_tie rfl ⟨rfl,rfl⟩ (by kernel_rfl) rfl
    (fun f fn hf hfn => by
      obtain rfl:f = 8 := Option.some.inj ((show Tryd.prog.funcNamed "backstitch/backstitchlaw2.FactsDoes" = some 8 by kernel_rfl).symm.trans hf) |>.symm
      obtain rfl:fn = Tryd.f8 := (Option.some.inj (Tryd.func8.symm.trans hfn)).symm
      exact ⟨by kernel_rfl,fun j t ht => by
        rw [Tryd.params8] at ht
        have hm:t ∈ [26,34] := by simpa using Array.mem_of_getElem? ht
        have hall:([26,34].all fun u => !Tryd.prog.wantsStandIn u) = true := by kernel_rfl
        exact (show Tryd.prog.wantsStandIn t = false by simpa using List.all_eq_true.1 hall t hm)⟩)
    (by kernel_rfl)
#print axioms factsDoes_card_holds
end Go.Proofs.YtnjfpnoamgipjaaDoor

