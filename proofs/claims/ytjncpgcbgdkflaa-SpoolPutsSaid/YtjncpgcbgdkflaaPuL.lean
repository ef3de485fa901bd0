/-
It is proved that the law SpoolPuts returns true for every input, and that its arguments read behind the call as before. Conditions: none.
-/
import Derived.Test.YtjncpgcbgdkflaaPuX
import Derived.Test.YtjncpgcbgdkflaaBackT
import Derived.Test.YtjncpgcbgdkflaaAm39
import Derived.Test.YtjncpgcbgdkflaaTy
set_option linter.unusedVariables false
set_option linter.unusedSimpArgs false
namespace Go.Proofs.Ytjncpgcbgdkflaa.PuLaw
open Go Go.AM Go.Proofs.Ytjncpgcbgdkflaa
open Go.ChangeShapes Go.WideShapes Go.ChangeAt Go.RowKit
theorem law (p0 : A_Lu8) (p1 : A_Val) (p2 : A_LVal) (h0 : ok_Lu8 p0) (h1 : ok_Val p1) (h2 : ok_LVal p2) (h3 : p0.2.length ≤ reachBytes) : ∃ H', O.ent 4 [.p (.sl p0.1 false p0.2.length (p0.2.map (fun z => .v (.int .u8 z)))), .agg ((enc_Val p1).map .p), .p (.sl p2.1 false p2.2.length (p2.2.flatMap enc_Val))] [] [] = some ([B true], H') := by
  obtain ⟨nl, zs⟩ := p0
  have hz : zs.map (fun z => PV.v (.int .u8 z)) = (zs.map Int.toNat).map U8 := by
    rw [List.map_map]
    refine List.map_congr_left fun z hm => ?_
    have e := u8_wf (h0.2 z hm)
    show PV.v (.int .u8 z) = PV.v (.int .u8 (z.toNat : Int))
    rw [Int.toNat_of_nonneg e.1]
  have hlen : zs.length = (zs.map Int.toNat).length := by simp
  have hm : reachBytes < 2 ^ 60 := by decide
  have l0 : zs.length ≤ reachBytes := h3
  simp only
  rw [hz, hlen]
  exact ⟨_, Spool.ent4 (by omega) p1.1 p1.2⟩
theorem closed : closedB Try.prog [44, 5, 24, 3, 45] = true := by kernel_rfl
set_option maxRecDepth 100000 in
theorem lifted (os : Os) (started : os.Started) (H : Type) (enc : TypeId × Value → H) :
    ReturnsInHanded {} Try.checked os 4 .any (Rows.spoolPutsSpec.pre6 enc Try.prog Try.f4 Rows.spoolPutsRow.domain false) (Rows.spoolPutsSpec.post enc Try.prog Try.f4 false true false false) := by
  refine returnsInHanded_of_change_sized (C := Try.checked) own started (by kernel_rfl) Try.func4
    (ChangeSpec.witness6 (enc := enc) (C := Try.checked) false ⟨#[], #[.slice none 0 0, .agg #[.int .i64 0, .int .i64 0], .slice none 0 0], []⟩ 8 (by kernel_rfl) (by kernel_rfl) (by kernel_rfl) (by kernel_rfl)) ?_
  intro W base args ds gs before hval hW hcnd hsz _
  refine law_post_light (hsz := hsz) (cfg := cfg) (bulkOk H) closed (by rw [Try.params4]; decide) laidOut (by rw [Try.params4]; intro t ht; simp at ht; rcases ht with rfl | rfl | rfl <;> exact ⟨by kernel_rfl, of_decide_eq_true (by kernel_rfl)⟩) (tb := 4) (by kernel_rfl) Try.underlying4 (s := Rows.spoolPutsSpec) rfl ?_ hval hW ?_ (hg := rngOk)
  · intro hl
    rw [Try.params4] at hl
    match ds, hl with
    | [d0, d1, d2], _ => rfl
  · intro avs hty hlight
    rw [Try.params4] at hty
    obtain ⟨x0, r0, m0, rfl, t0, hty, q0⟩ := tyArgs_cons hty
    obtain ⟨x1, r1, m1, rfl, t1, hty, q1⟩ := tyArgs_cons hty
    obtain ⟨x2, r2, m2, rfl, t2, hty, q2⟩ := tyArgs_cons hty
    obtain rfl := tyArgs_nil hty
    obtain ⟨p0, rfl, o0, s0⟩ := of_Lu8 t0
    obtain ⟨p1, rfl, o1, s1⟩ := of_Val t1
    obtain ⟨p2, rfl, o2, s2⟩ := of_LVal t2
    rw [show argAV Try.prog 44 (enc_Lu8 p0) = .p (.sl p0.1 false p0.2.length (p0.2.map (fun z => .v (.int .u8 z)))) from argAV_one (by kernel_rfl)]
    rw [show argAV Try.prog 24 (enc_Val p1) = .agg ((enc_Val p1).map .p) from argAV_agg (by kernel_rfl)]
    rw [show argAV Try.prog 45 (enc_LVal p2) = .p (.sl p2.1 false p2.2.length (p2.2.flatMap enc_Val)) from argAV_one (by kernel_rfl)]
    refine law p0 p1 p2 o0 o1 o2 ?_
    have := hlight 0 44 5 _ _ _ _ (by rw [Try.params4]; rfl) (by kernel_rfl) rfl
    rwa [show Try.prog.bytesOf 5 = 1 by kernel_rfl, Nat.mul_one] at this
theorem over : Rows.spoolPutsRow.holds Try.pinned (OpenSpec.ofChange Rows.spoolPutsSpec) :=
  OpenClaim.holds_of_wide 4 Try.f4 rfl rfl rfl rfl rfl rfl rfl ⟨rfl, rfl, rfl, rfl, rfl⟩ rfl rfl rfl rfl rfl (by kernel_rfl) Try.func4 (by kernel_rfl)
    (of_decide_eq_true (by kernel_rfl)) (by unfold Func.isWrapper; first | (rw [if_pos (by decide +kernel)]; kernel_rfl) | (rw [if_neg (by decide +kernel)]; exact ⟨rfl, rfl⟩))
    (fun os started H enc _ => lifted os started H enc)
end Go.Proofs.Ytjncpgcbgdkflaa.PuLaw
namespace Go.Proofs.Ytjncpgcbgdkflaa
theorem spoolPuts_holds : Rows.SpoolPutsSaid := PuLaw.over
#print axioms spoolPuts_holds
end Go.Proofs.Ytjncpgcbgdkflaa
