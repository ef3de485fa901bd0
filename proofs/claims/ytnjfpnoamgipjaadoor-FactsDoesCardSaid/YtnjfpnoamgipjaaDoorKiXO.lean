import Derived.Test.YtnjfpnoamgipjaaDoorKnB
import Derived.Test.YtnjfpnoamgipjaaDoorAm36
import Derived.Test.YtnjfpnoamgipjaaDoorProg
import Derived.KernelRfl
import Derived.Shelf.Lays
import Derived.Lib.LaidTab
import Derived.ProofKit
import Derived.Test.YtnjfpnoamgipjaaDoorRows
import Derived.LaidMore
import Derived.OpenShut
import Derived.Stop.Joined
set_option linter.unusedVariables false
set_option linter.unusedSimpArgs false
set_option maxRecDepth 100000
namespace Go.Proofs.YtnjfpnoamgipjaaDoor
open Go Go.AM
namespace Ir
instance known:Know := spKnow 0
def fieldsL_ren:Go.Shelf.Ren where
  f := fun x => match x with | 157 => 134 | 229 => 159 | 199 => 160 | 261 => 172 | 311 => 173 | 312 => 174 | n => n
  t := fun x => match x with | 9 => 9 | 31 => 24 | 3 => 3 | 5 => 5 | 4 => 4 | 119 => 201 | 0 => 0 | 40 => 203 | 152 => 214 | 21 => 21 | 154 => 216 | 51 => 217 | 141 => 219 | 196 => 223 | 193 => 220 | 198 => 226 | 49 => 224 | 194 => 221 | 201 => 229 | 226 => 231 | 46 => 232 | 227 => 233 | n => n
  g := fun x => match x with | 0 => 0 | 6 => 1 | n => n
theorem fieldsL:Go.Proofs.Lays.n157 Tryd.prog fieldsL_ren where
  mixed := by kernel_rfl
  f157 := Tryd.func134.trans (congrArg some (by kernel_rfl))
  f199 := Tryd.func160.trans (congrArg some (by kernel_rfl))
  f229 := Tryd.func159.trans (congrArg some (by kernel_rfl))
  f261 := Tryd.func172.trans (congrArg some (by kernel_rfl))
  f311 := Tryd.func173.trans (congrArg some (by kernel_rfl))
  f312 := Tryd.func174.trans (congrArg some (by kernel_rfl))
  t0 := Tryd.underlying0
  a0 := Tryd.isAgg0
  z0 := Tryd.sizeOf0
  v0 := Tryd.zeroValue0
  t3 := Tryd.underlying3
  a3 := Tryd.isAgg3
  z3 := Tryd.sizeOf3
  v3 := Tryd.zeroValue3
  t4 := Tryd.underlying4
  a4 := Tryd.isAgg4
  z4 := Tryd.sizeOf4
  v4 := Tryd.zeroValue4
  t5 := Tryd.underlying5
  a5 := Tryd.isAgg5
  z5 := Tryd.sizeOf5
  v5 := Tryd.zeroValue5
  t9 := Tryd.underlying9
  a9 := Tryd.isAgg9
  z9 := Tryd.sizeOf9
  v9 := Tryd.zeroValue9
  t21 := Tryd.underlying21
  a21 := Tryd.isAgg21
  z21 := Tryd.sizeOf21
  v21 := Tryd.zeroValue21
  t31 := Tryd.underlying24
  a31 := Tryd.isAgg24
  z31 := Tryd.sizeOf24
  v31 := Tryd.zeroValue24
  t40 := Tryd.underlying203
  a40 := Tryd.isAgg203
  z40 := Tryd.sizeOf203
  v40 := Tryd.zeroValue203
  t46 := Tryd.underlying232
  a46 := Tryd.isAgg232
  z46 := Tryd.sizeOf232
  v46 := Tryd.zeroValue232
  t49 := Tryd.underlying224
  a49 := Tryd.isAgg224
  z49 := Tryd.sizeOf224
  v49 := Tryd.zeroValue224
  t51 := Tryd.underlying217
  a51 := Tryd.isAgg217
  z51 := Tryd.sizeOf217
  v51 := Tryd.zeroValue217
  t119 := Tryd.underlying201
  a119 := Tryd.isAgg201
  z119 := Tryd.sizeOf201
  t141 := Tryd.underlying219
  a141 := Tryd.isAgg219
  z141 := Tryd.sizeOf219
  v141 := Tryd.zeroValue219
  t152 := Tryd.underlying214
  a152 := Tryd.isAgg214
  z152 := Tryd.sizeOf214
  v152 := Tryd.zeroValue214
  t154 := Tryd.underlying216
  a154 := Tryd.isAgg216
  z154 := Tryd.sizeOf216
  v154 := Tryd.zeroValue216
  t193 := Tryd.underlying220
  a193 := Tryd.isAgg220
  z193 := Tryd.sizeOf220
  v193 := Tryd.zeroValue220
  t194 := Tryd.underlying221
  a194 := Tryd.isAgg221
  z194 := Tryd.sizeOf221
  v194 := Tryd.zeroValue221
  t196 := Tryd.underlying223
  a196 := Tryd.isAgg223
  z196 := Tryd.sizeOf223
  v196 := Tryd.zeroValue223
  t198 := Tryd.underlying226
  a198 := Tryd.isAgg226
  z198 := Tryd.sizeOf226
  v198 := Tryd.zeroValue226
  t201 := Tryd.underlying229
  a201 := Tryd.isAgg229
  z201 := Tryd.sizeOf229
  v201 := Tryd.zeroValue229
  t226 := Tryd.underlying231
  a226 := Tryd.isAgg231
  z226 := Tryd.sizeOf231
  v226 := Tryd.zeroValue231
  t227 := Tryd.underlying233
  a227 := Tryd.isAgg233
  z227 := Tryd.sizeOf233
  v227 := Tryd.zeroValue233
  g0 := by kernel_rfl
  g6 := by kernel_rfl
theorem extOk:ExtOk Tryd.prog cfg := by
  refine ExtOk.fields (P := Tryd.prog) (cfg := cfg) (f := 134) (g := 0) ?_ ⟨_,Tryd.func134,by kernel_rfl,by kernel_rfl⟩ (fieldsC_of fieldsL (by kernel_rfl)) ?_
  · intro q k h
    change AM.look q exts = some k at h
    unfold exts at h
    simp only [AM.look] at h
    cases e:Nat.beq 134 q with
    | true => rw [e] at h; exact ⟨(Nat.eq_of_beq_eq_true e).symm,by simpa using h.symm⟩
    | false => rw [e] at h; simp at h
  · intro c hc
    show (if (0:Nat) = 0 ∧ c < 256 then some (spCell c) else none) = _
    rw [if_pos ⟨rfl,hc⟩]
theorem gSpace:Tryd.prog.globalNamed "strings.asciiSpace" = some 0 := by kernel_rfl
theorem tSpace:(Tryd.prog.globals[0]?).map (·.type) = some 201 := by kernel_rfl
abbrev laid2:List (String × DataW Unit) := [("unicode.White_Space",Rows.laid_unicode_White_Space),("strings.asciiSpace",Rows.laid_strings_asciiSpace)]
def spZ:List Int := (List.range 256).map fun c => if Lib.isSp (UInt8.ofNat c) then 1 else 0
theorem spData:(Rows.laid_strings_asciiSpace:DataW Unit) = Lib.tabData .u8 spZ := by kernel_rfl
theorem known_of {W:World}(h:laidMetH Tryd.prog laid2 W):∀ b j v,Know.cell b j = some v → W.cell? ⟨b,j,none⟩ = some v := by
  rw [MakeChecks.laidMetH_plain _ _ _ (by kernel_rfl)] at h
  obtain ⟨ps,⟨g0,t0,cs0,f0,p0,q0,_,_,_,_,⟨g1,t1,cs1,f1,p1,q1,hg1,ht1,hv1,hd1,_,_⟩,_⟩,_,_⟩ := h
  obtain rfl := Option.some.inj (gSpace.symm.trans hg1)
  obtain rfl := Option.some.inj (tSpace.symm.trans ht1)
  rw [spData] at hd1
  have hc := Lib.cells_of_tab (P := Tryd.prog) (t := 201) (e := 5) (n := 256) Tryd.underlying201 Tryd.underlying5 (by kernel_rfl) (by kernel_rfl) hd1
  have ht:Lib.TabIs Tryd.prog W "strings.asciiSpace" .u8 spZ := by
    unfold Lib.TabIs
    rw [hv1,← hc]
  intro b j v hk
  change (if b = 0 ∧ j < 256 then some (spCell j) else none) = some v at hk
  split at hk
  · rename_i q
    obtain ⟨rfl,hj⟩ := q
    cases hk
    have e := ht.cell gSpace j (by simp [spZ,hj])
    rw [e]
    simp [spZ,List.getD,hj,spCell]
  · cases hk
theorem door_met (os:Os)(args:Array Value):laidMetH Tryd.prog laid2 ((World.doorLaid Tryd.prog 33 os).forCall (fun _ _ => 0) ⟨#[],args,[]⟩).memory :=
  laidMetH_of_parts3 (fuel := 8) (laidMet_of_run' 8 (by kernel_rfl) (by kernel_rfl)) (by kernel_rfl) (by kernel_rfl)
end Ir
end Go.Proofs.YtnjfpnoamgipjaaDoor

