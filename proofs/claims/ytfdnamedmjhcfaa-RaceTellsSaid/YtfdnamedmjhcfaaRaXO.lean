/- What the library's sorts do. -/
import Derived.Test.YtfdnamedmjhcfaaCf
import Derived.Test.YtfdnamedmjhcfaaAm33
import Derived.Test.YtfdnamedmjhcfaaProg
import Derived.KernelRfl
set_option linter.unusedVariables false
set_option maxRecDepth 100000
namespace Go.Proofs.Ytfdnamedmjhcfaa
open Go Go.AM
namespace Ra
def hsort_ren : Go.Shelf.Ren where
  f := fun x => match x with | 6 => 40 | 15 => 48 | 14 => 55 | 28 => 65 | 29 => 66 | 20 => 67 | 21 => 68 | 22 => 69 | 23 => 70 | 24 => 71 | 25 => 72 | 26 => 73 | 27 => 74 | 46 => 80 | 47 => 76 | 48 => 77 | 49 => 81 | 50 => 82 | 57 => 84 | n => n
  t := fun x => match x with | 22 => 27 | 24 => 44 | 25 => 82 | 3 => 3 | 39 => 88 | 0 => 0 | 53 => 103 | 55 => 105 | 4 => 4 | 46 => 97 | 45 => 96 | 50 => 67 | 5 => 5 | 9 => 9 | 66 => 111 | 70 => 115 | 76 => 119 | 77 => 120 | n => n
  g := fun x => x
theorem hsort : Go.Proofs.SlLaysF0.n6 Try.prog hsort_ren where
  mixed := by kernel_rfl
  f6 := Exists.intro "slices.SortFunc[[]backstitch/api.DPair,backstitch/api.DPair]" ⟨of_decide_eq_true (id (Eq.refl true)), Try.func40.trans (congrArg some (by kernel_rfl))⟩
  f14 := Exists.intro "slices.pdqsortCmpFunc[backstitch/api.DPair]" ⟨of_decide_eq_true (id (Eq.refl true)), Try.func55.trans (congrArg some (by kernel_rfl))⟩
  f15 := Try.func48.trans (congrArg some (by kernel_rfl))
  f20 := Exists.intro "slices.insertionSortCmpFunc[backstitch/api.DPair]" ⟨of_decide_eq_true (id (Eq.refl true)), Try.func67.trans (congrArg some (by kernel_rfl))⟩
  f21 := Exists.intro "slices.heapSortCmpFunc[backstitch/api.DPair]" ⟨of_decide_eq_true (id (Eq.refl true)), Try.func68.trans (congrArg some (by kernel_rfl))⟩
  f22 := Exists.intro "slices.breakPatternsCmpFunc[backstitch/api.DPair]" ⟨of_decide_eq_true (id (Eq.refl true)), Try.func69.trans (congrArg some (by kernel_rfl))⟩
  f23 := Exists.intro "slices.choosePivotCmpFunc[backstitch/api.DPair]" ⟨of_decide_eq_true (id (Eq.refl true)), Try.func70.trans (congrArg some (by kernel_rfl))⟩
  f24 := Exists.intro "slices.reverseRangeCmpFunc[backstitch/api.DPair]" ⟨of_decide_eq_true (id (Eq.refl true)), Try.func71.trans (congrArg some (by kernel_rfl))⟩
  f25 := Exists.intro "slices.partialInsertionSortCmpFunc[backstitch/api.DPair]" ⟨of_decide_eq_true (id (Eq.refl true)), Try.func72.trans (congrArg some (by kernel_rfl))⟩
  f26 := Exists.intro "slices.partitionEqualCmpFunc[backstitch/api.DPair]" ⟨of_decide_eq_true (id (Eq.refl true)), Try.func73.trans (congrArg some (by kernel_rfl))⟩
  f27 := Exists.intro "slices.partitionCmpFunc[backstitch/api.DPair]" ⟨of_decide_eq_true (id (Eq.refl true)), Try.func74.trans (congrArg some (by kernel_rfl))⟩
  f28 := Try.func65.trans (congrArg some (by kernel_rfl))
  f29 := Try.func66.trans (congrArg some (by kernel_rfl))
  f46 := Exists.intro "slices.siftDownCmpFunc[backstitch/api.DPair]" ⟨of_decide_eq_true (id (Eq.refl true)), Try.func80.trans (congrArg some (by kernel_rfl))⟩
  f47 := Try.func76.trans (congrArg some (by kernel_rfl))
  f48 := Try.func77.trans (congrArg some (by kernel_rfl))
  f49 := Exists.intro "slices.medianAdjacentCmpFunc[backstitch/api.DPair]" ⟨of_decide_eq_true (id (Eq.refl true)), Try.func81.trans (congrArg some (by kernel_rfl))⟩
  f50 := Exists.intro "slices.medianCmpFunc[backstitch/api.DPair]" ⟨of_decide_eq_true (id (Eq.refl true)), Try.func82.trans (congrArg some (by kernel_rfl))⟩
  f57 := Exists.intro "slices.order2CmpFunc[backstitch/api.DPair]" ⟨of_decide_eq_true (id (Eq.refl true)), Try.func84.trans (congrArg some (by kernel_rfl))⟩
  t0 := Try.underlying0
  a0 := Try.isAgg0
  z0 := Try.sizeOf0
  v0 := Try.zeroValue0
  t3 := Try.underlying3
  a3 := Try.isAgg3
  z3 := Try.sizeOf3
  v3 := Try.zeroValue3
  t4 := Try.underlying4
  a4 := Try.isAgg4
  z4 := Try.sizeOf4
  v4 := Try.zeroValue4
  t5 := Try.underlying5
  a5 := Try.isAgg5
  z5 := Try.sizeOf5
  v5 := Try.zeroValue5
  t9 := Try.underlying9
  a9 := Try.isAgg9
  z9 := Try.sizeOf9
  v9 := Try.zeroValue9
  t22 := Try.underlying27
  a22 := Try.isAgg27
  z22 := Try.sizeOf27
  v22 := Try.zeroValue27
  t25 := Try.underlying82
  a25 := Try.isAgg82
  z25 := Try.sizeOf82
  v25 := Try.zeroValue82
  t39 := Try.underlying88
  a39 := Try.isAgg88
  z39 := Try.sizeOf88
  v39 := Try.zeroValue88
  t45 := Try.underlying96
  a45 := Try.isAgg96
  z45 := Try.sizeOf96
  v45 := Try.zeroValue96
  t46 := Try.underlying97
  a46 := Try.isAgg97
  z46 := Try.sizeOf97
  v46 := Try.zeroValue97
  t50 := Try.underlying67
  a50 := Try.isAgg67
  z50 := Try.sizeOf67
  v50 := Try.zeroValue67
  t53 := Try.underlying103
  a53 := Try.isAgg103
  z53 := Try.sizeOf103
  v53 := Try.zeroValue103
  t55 := Try.underlying105
  a55 := Try.isAgg105
  z55 := Try.sizeOf105
  v55 := Try.zeroValue105
  t66 := Try.underlying111
  a66 := Try.isAgg111
  z66 := Try.sizeOf111
  v66 := Try.zeroValue111
  t70 := Try.underlying115
  a70 := Try.isAgg115
  z70 := Try.sizeOf115
  v70 := Try.zeroValue115
  t76 := Try.underlying119
  a76 := Try.isAgg119
  z76 := Try.sizeOf119
  v76 := Try.zeroValue119
  t77 := Try.underlying120
  a77 := Try.isAgg120
  z77 := Try.sizeOf120
  v77 := Try.zeroValue120
def hints_ren : Go.Shelf.Ren where
  f := fun x => match x with | 189 => 32 | 125 => 48 | 257 => 47 | 128 => 65 | 129 => 66 | 294 => 57 | 295 => 58 | 296 => 59 | 297 => 60 | 298 => 61 | 299 => 62 | 216 => 49 | 300 => 63 | 301 => 64 | 328 => 75 | 329 => 76 | 330 => 77 | 331 => 78 | 332 => 79 | 215 => 56 | 343 => 83 | n => n
  t := fun x => match x with | 28 => 23 | 3 => 3 | 46 => 88 | 0 => 0 | 51 => 103 | 53 => 105 | 4 => 4 | 183 => 97 | 182 => 96 | 131 => 67 | 5 => 5 | 9 => 9 | 218 => 111 | 222 => 115 | 228 => 119 | 229 => 120 | n => n
  g := fun x => x
theorem hints : Go.Proofs.Lays.n189 Try.prog hints_ren where
  mixed := by kernel_rfl
  f125 := Try.func48.trans (congrArg some (by kernel_rfl))
  f128 := Try.func65.trans (congrArg some (by kernel_rfl))
  f129 := Try.func66.trans (congrArg some (by kernel_rfl))
  f189 := Try.func32.trans (congrArg some (by kernel_rfl))
  f215 := Try.func56.trans (congrArg some (by kernel_rfl))
  f216 := Try.func49.trans (congrArg some (by kernel_rfl))
  f257 := Try.func47.trans (congrArg some (by kernel_rfl))
  f294 := Try.func57.trans (congrArg some (by kernel_rfl))
  f295 := Try.func58.trans (congrArg some (by kernel_rfl))
  f296 := Try.func59.trans (congrArg some (by kernel_rfl))
  f297 := Try.func60.trans (congrArg some (by kernel_rfl))
  f298 := Try.func61.trans (congrArg some (by kernel_rfl))
  f299 := Try.func62.trans (congrArg some (by kernel_rfl))
  f300 := Try.func63.trans (congrArg some (by kernel_rfl))
  f301 := Try.func64.trans (congrArg some (by kernel_rfl))
  f328 := Try.func75.trans (congrArg some (by kernel_rfl))
  f329 := Try.func76.trans (congrArg some (by kernel_rfl))
  f330 := Try.func77.trans (congrArg some (by kernel_rfl))
  f331 := Try.func78.trans (congrArg some (by kernel_rfl))
  f332 := Try.func79.trans (congrArg some (by kernel_rfl))
  f343 := Try.func83.trans (congrArg some (by kernel_rfl))
  t0 := Try.underlying0
  a0 := Try.isAgg0
  z0 := Try.sizeOf0
  v0 := Try.zeroValue0
  t3 := Try.underlying3
  a3 := Try.isAgg3
  z3 := Try.sizeOf3
  v3 := Try.zeroValue3
  t4 := Try.underlying4
  a4 := Try.isAgg4
  z4 := Try.sizeOf4
  v4 := Try.zeroValue4
  t5 := Try.underlying5
  a5 := Try.isAgg5
  z5 := Try.sizeOf5
  v5 := Try.zeroValue5
  t9 := Try.underlying9
  a9 := Try.isAgg9
  z9 := Try.sizeOf9
  v9 := Try.zeroValue9
  t28 := Try.underlying23
  a28 := Try.isAgg23
  z28 := Try.sizeOf23
  v28 := Try.zeroValue23
  t46 := Try.underlying88
  a46 := Try.isAgg88
  z46 := Try.sizeOf88
  v46 := Try.zeroValue88
  t51 := Try.underlying103
  a51 := Try.isAgg103
  z51 := Try.sizeOf103
  v51 := Try.zeroValue103
  t53 := Try.underlying105
  a53 := Try.isAgg105
  z53 := Try.sizeOf105
  v53 := Try.zeroValue105
  t131 := Try.underlying67
  a131 := Try.isAgg67
  z131 := Try.sizeOf67
  v131 := Try.zeroValue67
  t182 := Try.underlying96
  a182 := Try.isAgg96
  z182 := Try.sizeOf96
  v182 := Try.zeroValue96
  t183 := Try.underlying97
  a183 := Try.isAgg97
  z183 := Try.sizeOf97
  v183 := Try.zeroValue97
  t218 := Try.underlying111
  a218 := Try.isAgg111
  z218 := Try.sizeOf111
  v218 := Try.zeroValue111
  t222 := Try.underlying115
  a222 := Try.isAgg115
  z222 := Try.sizeOf115
  v222 := Try.zeroValue115
  t228 := Try.underlying119
  a228 := Try.isAgg119
  z228 := Try.sizeOf119
  v228 := Try.zeroValue119
  t229 := Try.underlying120
  a229 := Try.isAgg120
  z229 := Try.sizeOf120
  v229 := Try.zeroValue120
theorem extOk : ExtOk Try.prog cfg := by
  intro g q hg O hO args lo H rs H' he vs w β F hI hv hlo
  have h : AM.look g exts = some q := hg
  simp only [exts, AM.look] at h
  cases e : Nat.beq 32 g with
  | true =>
    rw [e] at h
    obtain rfl := Nat.eq_of_beq_eq_true e
    obtain rfl : ExtK.ints = q := by simpa using h
    exact ints_sound ⟨_, Try.func32, by kernel_rfl, by kernel_rfl⟩ (intsC_of hints) (intsN_of hints) he hI hv hlo
  | false =>
    rw [e] at h
    cases e2 : Nat.beq 40 g with
    | true =>
      rw [e2] at h
      obtain rfl := Nat.eq_of_beq_eq_true e2
      obtain rfl : ExtK.sort true 2 = q := by simpa using h
      exact sort_sound hO ⟨_, Try.func40, by kernel_rfl, by kernel_rfl⟩ (sortC_of hsort Try.isAgg44 Try.sizeOf44) (sortN_of hsort) he hI hv hlo
    | false => rw [e2] at h; simp at h
end Ra
end Go.Proofs.Ytfdnamedmjhcfaa
