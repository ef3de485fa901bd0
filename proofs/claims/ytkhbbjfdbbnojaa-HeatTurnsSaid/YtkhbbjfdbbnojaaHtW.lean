import Derived.Test.YtkhbbjfdbbnojaaHtV
import Derived.Test.YtkhbbjfdbbnojaaProg
import Derived.KernelRfl
set_option linter.unusedVariables false
set_option maxRecDepth 100000
namespace Go.Proofs.Ytkhbbjfdbbnojaa
open Go Go.AM
namespace Ht
def hsort_ren : Go.Shelf.Ren where
  f := fun x => match x with | 6 => 116 | 15 => 149 | 14 => 148 | 28 => 171 | 29 => 172 | 20 => 163 | 21 => 164 | 22 => 165 | 23 => 166 | 24 => 167 | 25 => 168 | 26 => 169 | 27 => 170 | 46 => 187 | 47 => 188 | 48 => 189 | 49 => 190 | 50 => 191 | 57 => 204 | n => n
  t := fun x => match x with | 22 => 97 | 24 => 102 | 25 => 174 | 3 => 3 | 39 => 188 | 0 => 0 | 53 => 139 | 55 => 137 | 4 => 4 | 46 => 217 | 45 => 216 | 50 => 144 | 5 => 5 | 9 => 9 | 66 => 232 | 70 => 236 | 76 => 245 | 77 => 246 | n => n
  g := fun x => x
theorem hsort : Go.Proofs.SlLaysF0.n6 Try.prog hsort_ren where
  mixed := by kernel_rfl
  f6 := Exists.intro "slices.SortFunc[[]backstitch/api.THead,backstitch/api.THead]" ⟨of_decide_eq_true (id (Eq.refl true)), Try.func116.trans (congrArg some (by kernel_rfl))⟩
  f14 := Exists.intro "slices.pdqsortCmpFunc[backstitch/api.THead]" ⟨of_decide_eq_true (id (Eq.refl true)), Try.func148.trans (congrArg some (by kernel_rfl))⟩
  f15 := Try.func149.trans (congrArg some (by kernel_rfl))
  f20 := Exists.intro "slices.insertionSortCmpFunc[backstitch/api.THead]" ⟨of_decide_eq_true (id (Eq.refl true)), Try.func163.trans (congrArg some (by kernel_rfl))⟩
  f21 := Exists.intro "slices.heapSortCmpFunc[backstitch/api.THead]" ⟨of_decide_eq_true (id (Eq.refl true)), Try.func164.trans (congrArg some (by kernel_rfl))⟩
  f22 := Exists.intro "slices.breakPatternsCmpFunc[backstitch/api.THead]" ⟨of_decide_eq_true (id (Eq.refl true)), Try.func165.trans (congrArg some (by kernel_rfl))⟩
  f23 := Exists.intro "slices.choosePivotCmpFunc[backstitch/api.THead]" ⟨of_decide_eq_true (id (Eq.refl true)), Try.func166.trans (congrArg some (by kernel_rfl))⟩
  f24 := Exists.intro "slices.reverseRangeCmpFunc[backstitch/api.THead]" ⟨of_decide_eq_true (id (Eq.refl true)), Try.func167.trans (congrArg some (by kernel_rfl))⟩
  f25 := Exists.intro "slices.partialInsertionSortCmpFunc[backstitch/api.THead]" ⟨of_decide_eq_true (id (Eq.refl true)), Try.func168.trans (congrArg some (by kernel_rfl))⟩
  f26 := Exists.intro "slices.partitionEqualCmpFunc[backstitch/api.THead]" ⟨of_decide_eq_true (id (Eq.refl true)), Try.func169.trans (congrArg some (by kernel_rfl))⟩
  f27 := Exists.intro "slices.partitionCmpFunc[backstitch/api.THead]" ⟨of_decide_eq_true (id (Eq.refl true)), Try.func170.trans (congrArg some (by kernel_rfl))⟩
  f28 := Try.func171.trans (congrArg some (by kernel_rfl))
  f29 := Try.func172.trans (congrArg some (by kernel_rfl))
  f46 := Exists.intro "slices.siftDownCmpFunc[backstitch/api.THead]" ⟨of_decide_eq_true (id (Eq.refl true)), Try.func187.trans (congrArg some (by kernel_rfl))⟩
  f47 := Try.func188.trans (congrArg some (by kernel_rfl))
  f48 := Try.func189.trans (congrArg some (by kernel_rfl))
  f49 := Exists.intro "slices.medianAdjacentCmpFunc[backstitch/api.THead]" ⟨of_decide_eq_true (id (Eq.refl true)), Try.func190.trans (congrArg some (by kernel_rfl))⟩
  f50 := Exists.intro "slices.medianCmpFunc[backstitch/api.THead]" ⟨of_decide_eq_true (id (Eq.refl true)), Try.func191.trans (congrArg some (by kernel_rfl))⟩
  f57 := Exists.intro "slices.order2CmpFunc[backstitch/api.THead]" ⟨of_decide_eq_true (id (Eq.refl true)), Try.func204.trans (congrArg some (by kernel_rfl))⟩
  t0 := Try.underlying0
  a0 := Try.isAgg0
  z0 := Try.sizeOf0
  v0 := Try.zeroValue0
  t3 := Try.underlying3
  a3 := Try.isAgg3
  z3 := Try.sizeOf3
  v3 := Try.zeroValue3
  t4 := Try.underlying4
  a4 := Try.isAgg4
  z4 := Try.sizeOf4
  v4 := Try.zeroValue4
  t5 := Try.underlying5
  a5 := Try.isAgg5
  z5 := Try.sizeOf5
  v5 := Try.zeroValue5
  t9 := Try.underlying9
  a9 := Try.isAgg9
  z9 := Try.sizeOf9
  v9 := Try.zeroValue9
  t22 := Try.underlying97
  a22 := Try.isAgg97
  z22 := Try.sizeOf97
  v22 := Try.zeroValue97
  t25 := Try.underlying174
  a25 := Try.isAgg174
  z25 := Try.sizeOf174
  v25 := Try.zeroValue174
  t39 := Try.underlying188
  a39 := Try.isAgg188
  z39 := Try.sizeOf188
  v39 := Try.zeroValue188
  t45 := Try.underlying216
  a45 := Try.isAgg216
  z45 := Try.sizeOf216
  v45 := Try.zeroValue216
  t46 := Try.underlying217
  a46 := Try.isAgg217
  z46 := Try.sizeOf217
  v46 := Try.zeroValue217
  t50 := Try.underlying144
  a50 := Try.isAgg144
  z50 := Try.sizeOf144
  v50 := Try.zeroValue144
  t53 := Try.underlying139
  a53 := Try.isAgg139
  z53 := Try.sizeOf139
  v53 := Try.zeroValue139
  t55 := Try.underlying137
  a55 := Try.isAgg137
  z55 := Try.sizeOf137
  v55 := Try.zeroValue137
  t66 := Try.underlying232
  a66 := Try.isAgg232
  z66 := Try.sizeOf232
  v66 := Try.zeroValue232
  t70 := Try.underlying236
  a70 := Try.isAgg236
  z70 := Try.sizeOf236
  v70 := Try.zeroValue236
  t76 := Try.underlying245
  a76 := Try.isAgg245
  z76 := Try.sizeOf245
  v76 := Try.zeroValue245
  t77 := Try.underlying246
  a77 := Try.isAgg246
  z77 := Try.sizeOf246
  v77 := Try.zeroValue246
end Ht
end Go.Proofs.Ytkhbbjfdbbnojaa
