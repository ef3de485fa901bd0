import Derived.Test.YtkhbbjfdbbnojaaLoW
import Derived.Test.YtkhbbjfdbbnojaaProg
import Derived.KernelRfl
set_option linter.unusedVariables false
set_option maxRecDepth 100000
namespace Go.Proofs.Ytkhbbjfdbbnojaa
open Go Go.AM
namespace Lo
def hsort_ren : Go.Shelf.Ren where
  f := fun x => match x with | 6 => 122 | 15 => 149 | 14 => 151 | 28 => 171 | 29 => 172 | 20 => 173 | 21 => 174 | 22 => 175 | 23 => 176 | 24 => 177 | 25 => 178 | 26 => 179 | 27 => 180 | 46 => 192 | 47 => 188 | 48 => 189 | 49 => 193 | 50 => 194 | 57 => 205 | n => n
  t := fun x => match x with | 22 => 106 | 24 => 110 | 25 => 178 | 3 => 3 | 39 => 188 | 0 => 0 | 53 => 139 | 55 => 137 | 4 => 4 | 46 => 217 | 45 => 216 | 50 => 144 | 5 => 5 | 9 => 9 | 66 => 232 | 70 => 236 | 76 => 245 | 77 => 246 | n => n
  g := fun x => x
theorem hsort : Go.Proofs.SlLaysF0.n6 Try.prog hsort_ren where
  mixed := by kernel_rfl
  f6 := Exists.intro "slices.SortFunc[[]backstitch/api.DPair,backstitch/api.DPair]" ⟨of_decide_eq_true (id (Eq.refl true)), Try.func122.trans (congrArg some (by kernel_rfl))⟩
  f14 := Exists.intro "slices.pdqsortCmpFunc[backstitch/api.DPair]" ⟨of_decide_eq_true (id (Eq.refl true)), Try.func151.trans (congrArg some (by kernel_rfl))⟩
  f15 := Try.func149.trans (congrArg some (by kernel_rfl))
  f20 := Exists.intro "slices.insertionSortCmpFunc[backstitch/api.DPair]" ⟨of_decide_eq_true (id (Eq.refl true)), Try.func173.trans (congrArg some (by kernel_rfl))⟩
  f21 := Exists.intro "slices.heapSortCmpFunc[backstitch/api.DPair]" ⟨of_decide_eq_true (id (Eq.refl true)), Try.func174.trans (congrArg some (by kernel_rfl))⟩
  f22 := Exists.intro "slices.breakPatternsCmpFunc[backstitch/api.DPair]" ⟨of_decide_eq_true (id (Eq.refl true)), Try.func175.trans (congrArg some (by kernel_rfl))⟩
  f23 := Exists.intro "slices.choosePivotCmpFunc[backstitch/api.DPair]" ⟨of_decide_eq_true (id (Eq.refl true)), Try.func176.trans (congrArg some (by kernel_rfl))⟩
  f24 := Exists.intro "slices.reverseRangeCmpFunc[backstitch/api.DPair]" ⟨of_decide_eq_true (id (Eq.refl true)), Try.func177.trans (congrArg some (by kernel_rfl))⟩
  f25 := Exists.intro "slices.partialInsertionSortCmpFunc[backstitch/api.DPair]" ⟨of_decide_eq_true (id (Eq.refl true)), Try.func178.trans (congrArg some (by kernel_rfl))⟩
  f26 := Exists.intro "slices.partitionEqualCmpFunc[backstitch/api.DPair]" ⟨of_decide_eq_true (id (Eq.refl true)), Try.func179.trans (congrArg some (by kernel_rfl))⟩
  f27 := Exists.intro "slices.partitionCmpFunc[backstitch/api.DPair]" ⟨of_decide_eq_true (id (Eq.refl true)), Try.func180.trans (congrArg some (by kernel_rfl))⟩
  f28 := Try.func171.trans (congrArg some (by kernel_rfl))
  f29 := Try.func172.trans (congrArg some (by kernel_rfl))
  f46 := Exists.intro "slices.siftDownCmpFunc[backstitch/api.DPair]" ⟨of_decide_eq_true (id (Eq.refl true)), Try.func192.trans (congrArg some (by kernel_rfl))⟩
  f47 := Try.func188.trans (congrArg some (by kernel_rfl))
  f48 := Try.func189.trans (congrArg some (by kernel_rfl))
  f49 := Exists.intro "slices.medianAdjacentCmpFunc[backstitch/api.DPair]" ⟨of_decide_eq_true (id (Eq.refl true)), Try.func193.trans (congrArg some (by kernel_rfl))⟩
  f50 := Exists.intro "slices.medianCmpFunc[backstitch/api.DPair]" ⟨of_decide_eq_true (id (Eq.refl true)), Try.func194.trans (congrArg some (by kernel_rfl))⟩
  f57 := Exists.intro "slices.order2CmpFunc[backstitch/api.DPair]" ⟨of_decide_eq_true (id (Eq.refl true)), Try.func205.trans (congrArg some (by kernel_rfl))⟩
  t0 := Try.underlying0
  a0 := Try.isAgg0
  z0 := Try.sizeOf0
  v0 := Try.zeroValue0
  t3 := Try.underlying3
  a3 := Try.isAgg3
  z3 := Try.sizeOf3
  v3 := Try.zeroValue3
  t4 := Try.underlying4
  a4 := Try.isAgg4
  z4 := Try.sizeOf4
  v4 := Try.zeroValue4
  t5 := Try.underlying5
  a5 := Try.isAgg5
  z5 := Try.sizeOf5
  v5 := Try.zeroValue5
  t9 := Try.underlying9
  a9 := Try.isAgg9
  z9 := Try.sizeOf9
  v9 := Try.zeroValue9
  t22 := Try.underlying106
  a22 := Try.isAgg106
  z22 := Try.sizeOf106
  v22 := Try.zeroValue106
  t25 := Try.underlying178
  a25 := Try.isAgg178
  z25 := Try.sizeOf178
  v25 := Try.zeroValue178
  t39 := Try.underlying188
  a39 := Try.isAgg188
  z39 := Try.sizeOf188
  v39 := Try.zeroValue188
  t45 := Try.underlying216
  a45 := Try.isAgg216
  z45 := Try.sizeOf216
  v45 := Try.zeroValue216
  t46 := Try.underlying217
  a46 := Try.isAgg217
  z46 := Try.sizeOf217
  v46 := Try.zeroValue217
  t50 := Try.underlying144
  a50 := Try.isAgg144
  z50 := Try.sizeOf144
  v50 := Try.zeroValue144
  t53 := Try.underlying139
  a53 := Try.isAgg139
  z53 := Try.sizeOf139
  v53 := Try.zeroValue139
  t55 := Try.underlying137
  a55 := Try.isAgg137
  z55 := Try.sizeOf137
  v55 := Try.zeroValue137
  t66 := Try.underlying232
  a66 := Try.isAgg232
  z66 := Try.sizeOf232
  v66 := Try.zeroValue232
  t70 := Try.underlying236
  a70 := Try.isAgg236
  z70 := Try.sizeOf236
  v70 := Try.zeroValue236
  t76 := Try.underlying245
  a76 := Try.isAgg245
  z76 := Try.sizeOf245
  v76 := Try.zeroValue245
  t77 := Try.underlying246
  a77 := Try.isAgg246
  z77 := Try.sizeOf246
  v77 := Try.zeroValue246
def hdel_ren : Go.Shelf.Ren where
  f := fun x => match x with | 23 => 121 | n => n
  t := fun x => match x with | 22 => 30 | 3 => 3 | 4 => 4 | 0 => 0 | n => n
  g := fun x => x
theorem hdel : Go.Proofs.Lays2.n23 Try.prog hdel_ren where
  mixed := by kernel_rfl
  f23 := Try.func121.trans (congrArg some (by kernel_rfl))
  t0 := Try.underlying0
  a0 := Try.isAgg0
  z0 := Try.sizeOf0
  v0 := Try.zeroValue0
  t3 := Try.underlying3
  a3 := Try.isAgg3
  z3 := Try.sizeOf3
  v3 := Try.zeroValue3
  t4 := Try.underlying4
  a4 := Try.isAgg4
  z4 := Try.sizeOf4
  v4 := Try.zeroValue4
  t22 := Try.underlying30
  a22 := Try.isAgg30
  z22 := Try.sizeOf30
  v22 := Try.zeroValue30
  i3 := Eq.refl (Option.some (Option.some (Go.Value.int Go.IntKind.i64 0), 1, 8))
theorem extOk : ExtOk Try.prog cfg := by
  refine ExtOk.sortDel (fs := 122) (fd := 121) (k := 2) (fun g q hg => ?_) ⟨_, Try.func122, by kernel_rfl, by kernel_rfl⟩ (sortC_of hsort Try.isAgg110 Try.sizeOf110) (sortN_of hsort) ⟨_, Try.func121, by kernel_rfl, by kernel_rfl⟩ (delC_of hdel)
  have h : AM.look g exts = some q := hg
  simp only [exts, AM.look] at h
  cases e : Nat.beq 121 g with
  | true => rw [e] at h; exact .inr ⟨(Nat.eq_of_beq_eq_true e).symm, by simpa using h.symm⟩
  | false =>
    rw [e] at h
    cases e2 : Nat.beq 122 g with
    | true => rw [e2] at h; exact .inl ⟨(Nat.eq_of_beq_eq_true e2).symm, by simpa using h.symm⟩
    | false => rw [e2] at h; simp at h
end Lo
end Go.Proofs.Ytkhbbjfdbbnojaa
