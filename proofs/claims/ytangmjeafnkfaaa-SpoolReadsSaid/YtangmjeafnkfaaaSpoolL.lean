/-
It is proved that the law SpoolReads returns true for every input, and that its arguments read behind the call as before. Conditions: none.
-/
import Derived.Test.YtangmjeafnkfaaaSpoolV
import Derived.Test.YtangmjeafnkfaaaTy
set_option linter.unusedVariables false
set_option linter.unusedSimpArgs false
namespace Go.Proofs.Ytangmjeafnkfaaa.SpoolLaw
open Go Go.AM Go.Proofs.Ytangmjeafnkfaaa
open Go.ChangeShapes Go.WideShapes Go.ChangeAt Go.RowKit
theorem law (p0 : A_Lu8) (h0 : ok_Lu8 p0) : ∃ H', O.ent 6 [.p (.sl p0.1 false p0.2.length (p0.2.map (fun z => .v (.int .u8 z))))] [] [] = some ([B true], H') := by
  obtain ⟨nl, zs⟩ := p0
  have hz : zs.map (fun z => PV.v (.int .u8 z)) = (zs.map Int.toNat).map U8 := by
    rw [List.map_map]
    refine List.map_congr_left fun z hm => ?_
    have e := u8_wf (h0.2 z hm)
    show PV.v (.int .u8 z) = PV.v (.int .u8 (z.toNat : Int))
    rw [Int.toNat_of_nonneg e.1]
  have hlen : zs.length = (zs.map Int.toNat).length := by simp
  simp only
  rw [hz, hlen]
  exact Spool.law fun x hx => by
    obtain ⟨z, hm, rfl⟩ := List.mem_map.mp hx
    have e := u8_wf (h0.2 z hm)
    omega
theorem closed : closedB Try.prog [53, 5] = true := by kernel_rfl
set_option maxRecDepth 100000 in
theorem lifted (os : Os) (started : os.Started) (H : Type) (enc : TypeId × Value → H) :
    ReturnsInHanded {} Try.checked os 6 .any (Rows.spoolReadsSpec.pre6 enc Try.prog Try.f6 Rows.spoolReadsRow.domain false) (Rows.spoolReadsSpec.post enc Try.prog Try.f6 false true false false) := by
  refine returnsInHanded_of_change_sized (C := Try.checked) own started (by kernel_rfl) Try.func6
    (ChangeSpec.witness6 (enc := enc) (C := Try.checked) false ⟨#[], #[.slice none 0 0], []⟩ 8 (by kernel_rfl) (by kernel_rfl) (by kernel_rfl) (by kernel_rfl)) ?_
  intro W base args ds gs before hval hW hcnd hsz _
  refine law_post (cfg := cfg) (bulkOk H) closed (by rw [Try.params6]; decide) laidOut (by rw [Try.params6]; intro t ht; simp at ht; rcases ht with rfl <;> exact ⟨by kernel_rfl, of_decide_eq_true (by kernel_rfl)⟩) (tb := 4) (by kernel_rfl) Try.underlying4 (s := Rows.spoolReadsSpec) rfl ?_ hval hW ?_
  · intro hl
    rw [Try.params6] at hl
    match ds, hl with
    | [d0], _ => rfl
  · intro avs hty
    rw [Try.params6] at hty
    obtain ⟨x0, r0, m0, rfl, t0, hty, _⟩ := tyArgs_cons hty
    obtain rfl := tyArgs_nil hty
    obtain ⟨p0, rfl, o0, s0⟩ := of_Lu8 t0
    rw [show argAV Try.prog 53 (enc_Lu8 p0) = .p (.sl p0.1 false p0.2.length (p0.2.map (fun z => .v (.int .u8 z)))) from argAV_one (by kernel_rfl)]
    exact law p0 o0
theorem over : Rows.spoolReadsRow.holds Try.pinned (OpenSpec.ofChange Rows.spoolReadsSpec) :=
  OpenClaim.holds_of_wide 6 Try.f6 rfl rfl rfl rfl rfl rfl rfl ⟨rfl, rfl, rfl, rfl, rfl⟩ rfl rfl rfl rfl rfl (by kernel_rfl) Try.func6 (by kernel_rfl)
    (of_decide_eq_true (by kernel_rfl)) (by unfold Func.isWrapper; first | (rw [if_pos (by decide +kernel)]; kernel_rfl) | (rw [if_neg (by decide +kernel)]; exact ⟨rfl, rfl⟩))
    (fun os started H enc _ => lifted os started H enc)
end Go.Proofs.Ytangmjeafnkfaaa.SpoolLaw
namespace Go.Proofs.Ytangmjeafnkfaaa
theorem spoolReads_holds : Rows.SpoolReadsSaid := SpoolLaw.over
#print axioms spoolReads_holds
end Go.Proofs.Ytangmjeafnkfaaa
