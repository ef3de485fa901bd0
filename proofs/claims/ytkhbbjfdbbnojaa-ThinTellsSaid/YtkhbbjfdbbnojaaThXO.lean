import Derived.Test.YtkhbbjfdbbnojaaThX
import Derived.Test.YtkhbbjfdbbnojaaProg
import Derived.KernelRfl
set_option linter.unusedVariables false
set_option maxRecDepth 100000
namespace Go.Proofs.Ytkhbbjfdbbnojaa
open Go Go.AM
namespace Th
def hints_ren : Go.Shelf.Ren where
  f := fun x => match x with | 189 => 152 | 125 => 149 | 257 => 181 | 128 => 171 | 129 => 172 | 294 => 195 | 295 => 196 | 296 => 197 | 297 => 198 | 298 => 199 | 299 => 200 | 216 => 139 | 300 => 201 | 301 => 202 | 328 => 206 | 329 => 188 | 330 => 189 | 331 => 207 | 332 => 208 | 215 => 150 | 343 => 209 | n => n
  t := fun x => match x with | 28 => 30 | 3 => 3 | 46 => 188 | 0 => 0 | 51 => 139 | 53 => 137 | 4 => 4 | 183 => 217 | 182 => 216 | 131 => 144 | 5 => 5 | 9 => 9 | 218 => 232 | 222 => 236 | 228 => 245 | 229 => 246 | n => n
  g := fun x => x
theorem hints : Go.Proofs.Lays.n189 Try.prog hints_ren where
  mixed := by kernel_rfl
  f125 := Try.func149.trans (congrArg some (by kernel_rfl))
  f128 := Try.func171.trans (congrArg some (by kernel_rfl))
  f129 := Try.func172.trans (congrArg some (by kernel_rfl))
  f189 := Try.func152.trans (congrArg some (by kernel_rfl))
  f215 := Try.func150.trans (congrArg some (by kernel_rfl))
  f216 := Try.func139.trans (congrArg some (by kernel_rfl))
  f257 := Try.func181.trans (congrArg some (by kernel_rfl))
  f294 := Try.func195.trans (congrArg some (by kernel_rfl))
  f295 := Try.func196.trans (congrArg some (by kernel_rfl))
  f296 := Try.func197.trans (congrArg some (by kernel_rfl))
  f297 := Try.func198.trans (congrArg some (by kernel_rfl))
  f298 := Try.func199.trans (congrArg some (by kernel_rfl))
  f299 := Try.func200.trans (congrArg some (by kernel_rfl))
  f300 := Try.func201.trans (congrArg some (by kernel_rfl))
  f301 := Try.func202.trans (congrArg some (by kernel_rfl))
  f328 := Try.func206.trans (congrArg some (by kernel_rfl))
  f329 := Try.func188.trans (congrArg some (by kernel_rfl))
  f330 := Try.func189.trans (congrArg some (by kernel_rfl))
  f331 := Try.func207.trans (congrArg some (by kernel_rfl))
  f332 := Try.func208.trans (congrArg some (by kernel_rfl))
  f343 := Try.func209.trans (congrArg some (by kernel_rfl))
  t0 := Try.underlying0
  a0 := Try.isAgg0
  z0 := Try.sizeOf0
  v0 := Try.zeroValue0
  t3 := Try.underlying3
  a3 := Try.isAgg3
  z3 := Try.sizeOf3
  v3 := Try.zeroValue3
  t4 := Try.underlying4
  a4 := Try.isAgg4
  z4 := Try.sizeOf4
  v4 := Try.zeroValue4
  t5 := Try.underlying5
  a5 := Try.isAgg5
  z5 := Try.sizeOf5
  v5 := Try.zeroValue5
  t9 := Try.underlying9
  a9 := Try.isAgg9
  z9 := Try.sizeOf9
  v9 := Try.zeroValue9
  t28 := Try.underlying30
  a28 := Try.isAgg30
  z28 := Try.sizeOf30
  v28 := Try.zeroValue30
  t46 := Try.underlying188
  a46 := Try.isAgg188
  z46 := Try.sizeOf188
  v46 := Try.zeroValue188
  t51 := Try.underlying139
  a51 := Try.isAgg139
  z51 := Try.sizeOf139
  v51 := Try.zeroValue139
  t53 := Try.underlying137
  a53 := Try.isAgg137
  z53 := Try.sizeOf137
  v53 := Try.zeroValue137
  t131 := Try.underlying144
  a131 := Try.isAgg144
  z131 := Try.sizeOf144
  v131 := Try.zeroValue144
  t182 := Try.underlying216
  a182 := Try.isAgg216
  z182 := Try.sizeOf216
  v182 := Try.zeroValue216
  t183 := Try.underlying217
  a183 := Try.isAgg217
  z183 := Try.sizeOf217
  v183 := Try.zeroValue217
  t218 := Try.underlying232
  a218 := Try.isAgg232
  z218 := Try.sizeOf232
  v218 := Try.zeroValue232
  t222 := Try.underlying236
  a222 := Try.isAgg236
  z222 := Try.sizeOf236
  v222 := Try.zeroValue236
  t228 := Try.underlying245
  a228 := Try.isAgg245
  z228 := Try.sizeOf245
  v228 := Try.zeroValue245
  t229 := Try.underlying246
  a229 := Try.isAgg246
  z229 := Try.sizeOf246
  v229 := Try.zeroValue246
theorem extOk : ExtOk Try.prog cfg := by
  refine ExtOk.oneInts (f := 152) (fun g q hg => ?_) ⟨_, Try.func152, by kernel_rfl, by kernel_rfl⟩ (intsC_of hints) (intsN_of hints)
  have h : AM.look g exts = some q := hg
  simp only [exts, AM.look] at h
  cases e : Nat.beq 152 g with
  | true => rw [e] at h; exact ⟨(Nat.eq_of_beq_eq_true e).symm, by simpa using h.symm⟩
  | false => rw [e] at h; simp at h
end Th
end Go.Proofs.Ytkhbbjfdbbnojaa
