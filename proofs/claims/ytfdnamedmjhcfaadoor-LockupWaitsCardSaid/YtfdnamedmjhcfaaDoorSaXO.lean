import Derived.Test.YtfdnamedmjhcfaaDoorSnC
import Derived.Test.YtfdnamedmjhcfaaDoorAm36
import Derived.Test.YtfdnamedmjhcfaaDoorProg
import Derived.KernelRfl
import Derived.Shelf.Lays
import Derived.Lib.LaidTab
import Derived.ProofKit
import Derived.Test.YtfdnamedmjhcfaaDoorRows
import Derived.LaidMore
import Derived.OpenShut
import Derived.Stop.Joined
set_option linter.unusedVariables false
set_option linter.unusedSimpArgs false
set_option maxRecDepth 100000
namespace Go.Proofs.YtfdnamedmjhcfaaDoor
open Go Go.AM
namespace Ir
/-- The cells of strings.asciiSpace are known. -/
instance known : Know := spKnow 0
def fieldsL_ren : Go.Shelf.Ren where
  f := fun x => match x with | 157 => 86 | 229 => 128 | 199 => 129 | 261 => 150 | 311 => 163 | 312 => 164 | n => n
  t := fun x => match x with | 9 => 9 | 31 => 24 | 3 => 3 | 5 => 5 | 4 => 4 | 119 => 210 | 0 => 0 | 40 => 212 | 152 => 229 | 21 => 21 | 154 => 231 | 51 => 232 | 141 => 234 | 196 => 245 | 193 => 242 | 198 => 248 | 49 => 246 | 194 => 243 | 201 => 251 | 226 => 262 | 46 => 253 | 227 => 263 | n => n
  g := fun x => match x with | 0 => 0 | 6 => 1 | n => n
theorem fieldsL : Go.Proofs.Lays.n157 Tryd.prog fieldsL_ren where
  mixed := by kernel_rfl
  f157 := Tryd.func86.trans (congrArg some (by kernel_rfl))
  f199 := Tryd.func129.trans (congrArg some (by kernel_rfl))
  f229 := Tryd.func128.trans (congrArg some (by kernel_rfl))
  f261 := Tryd.func150.trans (congrArg some (by kernel_rfl))
  f311 := Tryd.func163.trans (congrArg some (by kernel_rfl))
  f312 := Tryd.func164.trans (congrArg some (by kernel_rfl))
  t0 := Tryd.underlying0
  a0 := Tryd.isAgg0
  z0 := Tryd.sizeOf0
  v0 := Tryd.zeroValue0
  t3 := Tryd.underlying3
  a3 := Tryd.isAgg3
  z3 := Tryd.sizeOf3
  v3 := Tryd.zeroValue3
  t4 := Tryd.underlying4
  a4 := Tryd.isAgg4
  z4 := Tryd.sizeOf4
  v4 := Tryd.zeroValue4
  t5 := Tryd.underlying5
  a5 := Tryd.isAgg5
  z5 := Tryd.sizeOf5
  v5 := Tryd.zeroValue5
  t9 := Tryd.underlying9
  a9 := Tryd.isAgg9
  z9 := Tryd.sizeOf9
  v9 := Tryd.zeroValue9
  t21 := Tryd.underlying21
  a21 := Tryd.isAgg21
  z21 := Tryd.sizeOf21
  v21 := Tryd.zeroValue21
  t31 := Tryd.underlying24
  a31 := Tryd.isAgg24
  z31 := Tryd.sizeOf24
  v31 := Tryd.zeroValue24
  t40 := Tryd.underlying212
  a40 := Tryd.isAgg212
  z40 := Tryd.sizeOf212
  v40 := Tryd.zeroValue212
  t46 := Tryd.underlying253
  a46 := Tryd.isAgg253
  z46 := Tryd.sizeOf253
  v46 := Tryd.zeroValue253
  t49 := Tryd.underlying246
  a49 := Tryd.isAgg246
  z49 := Tryd.sizeOf246
  v49 := Tryd.zeroValue246
  t51 := Tryd.underlying232
  a51 := Tryd.isAgg232
  z51 := Tryd.sizeOf232
  v51 := Tryd.zeroValue232
  t119 := Tryd.underlying210
  a119 := Tryd.isAgg210
  z119 := Tryd.sizeOf210
  t141 := Tryd.underlying234
  a141 := Tryd.isAgg234
  z141 := Tryd.sizeOf234
  v141 := Tryd.zeroValue234
  t152 := Tryd.underlying229
  a152 := Tryd.isAgg229
  z152 := Tryd.sizeOf229
  v152 := Tryd.zeroValue229
  t154 := Tryd.underlying231
  a154 := Tryd.isAgg231
  z154 := Tryd.sizeOf231
  v154 := Tryd.zeroValue231
  t193 := Tryd.underlying242
  a193 := Tryd.isAgg242
  z193 := Tryd.sizeOf242
  v193 := Tryd.zeroValue242
  t194 := Tryd.underlying243
  a194 := Tryd.isAgg243
  z194 := Tryd.sizeOf243
  v194 := Tryd.zeroValue243
  t196 := Tryd.underlying245
  a196 := Tryd.isAgg245
  z196 := Tryd.sizeOf245
  v196 := Tryd.zeroValue245
  t198 := Tryd.underlying248
  a198 := Tryd.isAgg248
  z198 := Tryd.sizeOf248
  v198 := Tryd.zeroValue248
  t201 := Tryd.underlying251
  a201 := Tryd.isAgg251
  z201 := Tryd.sizeOf251
  v201 := Tryd.zeroValue251
  t226 := Tryd.underlying262
  a226 := Tryd.isAgg262
  z226 := Tryd.sizeOf262
  v226 := Tryd.zeroValue262
  t227 := Tryd.underlying263
  a227 := Tryd.isAgg263
  z227 := Tryd.sizeOf263
  v227 := Tryd.zeroValue263
  g0 := by kernel_rfl
  g6 := by kernel_rfl

theorem extOk : ExtOk Tryd.prog cfg := by
  refine ExtOk.fields (P := Tryd.prog) (cfg := cfg) (f := 86) (g := 0) ?_ ⟨_, Tryd.func86, by kernel_rfl, by kernel_rfl⟩ (fieldsC_of fieldsL (by kernel_rfl)) ?_
  · intro q k h
    change AM.look q exts = some k at h
    unfold exts at h
    simp only [AM.look] at h
    cases e : Nat.beq 86 q with
    | true => rw [e] at h; exact ⟨(Nat.eq_of_beq_eq_true e).symm, by simpa using h.symm⟩
    | false => rw [e] at h; simp at h
  · intro c hc
    show (if (0 : Nat) = 0 ∧ c < 256 then some (spCell c) else none) = _
    rw [if_pos ⟨rfl, hc⟩]

/-! ### The condition: what lies in the package's variables -/
theorem gSpace : Tryd.prog.globalNamed "strings.asciiSpace" = some 0 := by kernel_rfl
theorem tSpace : (Tryd.prog.globals[0]?).map (·.type) = some 210 := by kernel_rfl
abbrev laid2 : List (String × DataW Unit) := [("unicode.White_Space", Rows.laid_unicode_White_Space), ("strings.asciiSpace", Rows.laid_strings_asciiSpace)]
def spZ : List Int := (List.range 256).map fun c => if Lib.isSp (UInt8.ofNat c) then 1 else 0
theorem spData : (Rows.laid_strings_asciiSpace : DataW Unit) = Lib.tabData .u8 spZ := by kernel_rfl
theorem known_of {W : World} (h : laidMetH Tryd.prog laid2 W) : ∀ b j v, Know.cell b j = some v → W.cell? ⟨b, j, none⟩ = some v := by
  rw [MakeChecks.laidMetH_plain _ _ _ (by kernel_rfl)] at h
  obtain ⟨ps, ⟨g0, t0, cs0, f0, p0, q0, _, _, _, _, ⟨g1, t1, cs1, f1, p1, q1, hg1, ht1, hv1, hd1, _, _⟩, _⟩, _, _⟩ := h
  obtain rfl := Option.some.inj (gSpace.symm.trans hg1)
  obtain rfl := Option.some.inj (tSpace.symm.trans ht1)
  rw [spData] at hd1
  have hc := Lib.cells_of_tab (P := Tryd.prog) (t := 210) (e := 5) (n := 256) Tryd.underlying210 Tryd.underlying5 (by kernel_rfl) (by kernel_rfl) hd1
  have ht : Lib.TabIs Tryd.prog W "strings.asciiSpace" .u8 spZ := by
    unfold Lib.TabIs
    rw [hv1, ← hc]
  intro b j v hk
  change (if b = 0 ∧ j < 256 then some (spCell j) else none) = some v at hk
  split at hk
  · rename_i q
    obtain ⟨rfl, hj⟩ := q
    cases hk
    have e := ht.cell gSpace j (by simp [spZ, hj])
    rw [e]
    simp [spZ, List.getD, hj, spCell]
  · cases hk

/-- The door's own heap meets the condition: three closed facts. -/
theorem door_met (os : Os) (args : Array Value) : laidMetH Tryd.prog laid2 ((World.doorLaid Tryd.prog 58 os).forCall (fun _ _ => 0) ⟨#[], args, []⟩).memory :=
  laidMetH_of_parts3 (fuel := 8) (laidMet_of_run' 8 (by kernel_rfl) (by kernel_rfl)) (by kernel_rfl) (by kernel_rfl)
end Ir
end Go.Proofs.YtfdnamedmjhcfaaDoor
