import Derived.Test.YtangmjeafnkfaaaCf
set_option linter.unusedVariables false
set_option maxRecDepth 100000
namespace Go.Proofs.Ytangmjeafnkfaaa
open Go Go.AM
-- backstitch/backstitchlaw4.SchedPacks
noncomputable def T14_18 : List It := labAt Try.prog cfg 14 18 (fun _ => none)
noncomputable def L14_18 (vals : List AV) (lo : List Nat) (H : Heap) : Res := O.lab 14 [5, 6, 7, 8, 9, 10, 11, 12, 13] (T14_18) vals lo H
theorem L14_18_eq (lo : List Nat) (v5 v6 v7 v8 v9 v10 v11 v12 v13 : AV) (H : Heap) : L14_18 [v5, v6, v7, v8, v9, v10, v11, v12, v13] lo H = (
(lenA .slice v5 H).bind fun x1 =>
(bin .lss .int v13 x1).bind fun x2 =>
cond x2 (
(idxA 2 v5 v13).bind fun x3 =>
(ld true 2 x3 H).bind fun x4 =>
(idxA 2 v7 v13).bind fun x5 =>
(ld true 2 x5 H).bind fun x6 =>
(bin .neq (.agg 2 [(0, .int), (1, .int)]) x4 x6).bind fun x7 =>
cond x7 (
leave 0 lo [B false] H) (
(bin .add .int v13 (I 1)).bind fun x8 =>
L14_18 [v5, v6, v7, v8, v9, v10, v11, v12, x8] lo H)) (
(bin .eql .int v6 v8).bind fun x9 =>
(gd x9 true (some v9)).bind fun x10 =>
(gd x9 true (some v11)).bind fun x11 =>
(gdH x9 true (callA cfg O 17 [x10, x11] lo H) H).bind fun r12 =>
(pickA x9 r12.1 (B false)).bind fun x13 =>
(gd x13 true (some v10)).bind fun x14 =>
(gd x13 true (some v12)).bind fun x15 =>
(gd x13 true (bin .eql .int x14 x15)).bind fun x16 =>
(pickA x13 x16 (B false)).bind fun x17 =>
leave 0 lo [x17] r12.2)) := by
  show O.lab _ _ _ _ _ _ = _
  rw [O_lab]
  kernel_rfl
theorem f14_eq (a0 a1 : AV) : O.ent 14 [a0, a1] [] [] = (
(callA cfg O 57 [a0] [] []).bind fun r1 =>
(extractA r1.1 0).bind fun x2 =>
(extractA r1.1 1).bind fun x3 =>
(callA cfg O 58 [a0] [] r1.2).bind fun r4 =>
(extractA r4.1 0).bind fun x5 =>
(extractA r4.1 1).bind fun x6 =>
(callA cfg O 59 [a1] [] r4.2).bind fun r7 =>
(extractA r7.1 0).bind fun x8 =>
(extractA r7.1 1).bind fun x9 =>
(callA cfg O 60 [a1] [] r7.2).bind fun r10 =>
(extractA r10.1 0).bind fun x11 =>
(extractA r10.1 1).bind fun x12 =>
(lenA .slice x2 r10.2).bind fun x13 =>
(lenA .slice x5 r10.2).bind fun x14 =>
(bin .neq .int x13 x14).bind fun x15 =>
cond x15 (
leave 0 [] [B false] r10.2) (
L14_18 [x2, x3, x5, x6, x8, x9, x11, x12, I 0] [] r10.2)) := by
  rw [O_ent]
  kernel_rfl
-- backstitch/sched.Pack
noncomputable def T57_16 : List It := labAt Try.prog cfg 57 16 (fun _ => none)
noncomputable def L57_16 (vals : List AV) (lo : List Nat) (H : Heap) : Res := O.lab 57 [4, 15, 16, 17] (T57_16) vals lo H
noncomputable def T57_29 : List It := labAt Try.prog cfg 57 29 (fun _ => none)
noncomputable def L57_29 (vals : List AV) (lo : List Nat) (H : Heap) : Res := O.lab 57 [4, 15, 16, 17] (T57_29) vals lo H
theorem L57_16_eq (lo : List Nat) (v4 v15 v16 v17 : AV) (H : Heap) : L57_16 [v4, v15, v16, v17] lo H = (
(bin .lss .int v17 v16).bind fun x1 =>
cond x1 (
(idxA 1 v15 v17).bind fun x2 =>
(ld false 1 x2 H).bind fun x3 =>
(lenA .slice v4 H).bind fun x4 =>
(bin .sub .int x4 (I 1)).bind fun x5 =>
(bin .geq .int x5 (I 0)).bind fun x6 =>
(gd x6 true (some v4)).bind fun x7 =>
(gd x6 true (some x5)).bind fun x8 =>
(gd x6 true (idxA 2 x7 x8)).bind fun x9 =>
(gd x6 true (fldA 0 x9)).bind fun x10 =>
(gd x6 true (ld false 1 x10 H)).bind fun x11 =>
(gd x6 true (some x3)).bind fun x12 =>
(gd x6 true (bin .eql .int x11 x12)).bind fun x13 =>
(pickA x6 x13 (B false)).bind fun x14 =>
cond x14 (
(idxA 2 v4 x5).bind fun x15 =>
(fldA 1 x15).bind fun x16 =>
(ld false 1 x16 H).bind fun x17 =>
(bin .add .int x17 (I 1)).bind fun x18 =>
(idxA 2 v4 x5).bind fun x19 =>
(fldA 1 x19).bind fun x20 =>
((stA 1 x20 x18 lo H).map fun H' => (undefA, H')).bind fun r21 =>
L57_29 [v4, v15, v16, v17] lo r21.2) (
(buildA [(I 0), (I 0)] [(0, 1, x3), (1, 1, I 1)]).bind fun x22 =>
(litA false 2 [x22] H).bind fun r23 =>
(appA 2 16 v4 r23.1 r23.2).bind fun r24 =>
L57_29 [r24.1, v15, v16, v17] lo r24.2)) (
leave 0 lo [v4, I 0] H)) := by
  show O.lab _ _ _ _ _ _ = _
  rw [O_lab]
  kernel_rfl
theorem L57_29_eq (lo : List Nat) (v4 v15 v16 v17 : AV) (H : Heap) : L57_29 [v4, v15, v16, v17] lo H = (
(bin .add .int v17 (I 1)).bind fun x1 =>
L57_16 [v4, v15, v16, x1] lo H) := by
  show O.lab _ _ _ _ _ _ = _
  rw [O_lab]
  kernel_rfl
theorem f57_eq (a0 : AV) : O.ent 57 [a0] [] [] = (
(lenA .slice a0 []).bind fun x1 =>
(bin .gtr .int x1 (I 200)).bind fun x2 =>
cond x2 (
leave 0 [] [.p nilS, I 2] []) (
(callA cfg O 122 [a0, .fn 123 [] []] [] []).bind fun r3 =>
cond r3.1 (
leave 0 [] [.p nilS, I 1] r3.2) (
(lenA .slice a0 r3.2).bind fun x4 =>
L57_16 [.p nilS, a0, x4, I 0] [] r3.2))) := by
  rw [O_ent]
  kernel_rfl
-- backstitch/backstitchref4.SchedPack
noncomputable def T58_10 : List It := labAt Try.prog cfg 58 10 (fun _ => none)
noncomputable def L58_10 (vals : List AV) (lo : List Nat) (H : Heap) : Res := O.lab 58 [0, 4] (T58_10) vals lo H
noncomputable def T58_22 : List It := labAt Try.prog cfg 58 22 (fun _ => none)
noncomputable def L58_22 (vals : List AV) (lo : List Nat) (H : Heap) : Res := O.lab 58 [0, 5, 6] (T58_22) vals lo H
noncomputable def T58_26 : List It := labAt Try.prog cfg 58 26 (fun _ => none)
noncomputable def L58_26 (vals : List AV) (lo : List Nat) (H : Heap) : Res := O.lab 58 [0, 5, 6, 7] (T58_26) vals lo H
theorem L58_10_eq (lo : List Nat) (v0 v4 : AV) (H : Heap) : L58_10 [v0, v4] lo H = (
(lenA .slice v0 H).bind fun x1 =>
(bin .lss .int v4 x1).bind fun x2 =>
cond x2 (
(idxA 1 v0 v4).bind fun x3 =>
(ld false 1 x3 H).bind fun x4 =>
(callA cfg O 61 [x4, I 0, I 7] lo H).bind fun r5 =>
(un .not r5.1).bind fun x6 =>
cond x6 (
leave 0 lo [.p nilS, I 1] r5.2) (
(bin .add .int v4 (I 1)).bind fun x7 =>
L58_10 [v0, x7] lo r5.2)) (
L58_22 [v0, .p nilS, I 0] lo H)) := by
  show O.lab _ _ _ _ _ _ = _
  rw [O_lab]
  kernel_rfl
theorem L58_22_eq (lo : List Nat) (v0 v5 v6 : AV) (H : Heap) : L58_22 [v0, v5, v6] lo H = (
(lenA .slice v0 H).bind fun x1 =>
(bin .lss .int v6 x1).bind fun x2 =>
cond x2 (
L58_26 [v0, v5, v6, v6] lo H) (
leave 0 lo [v5, I 0] H)) := by
  show O.lab _ _ _ _ _ _ = _
  rw [O_lab]
  kernel_rfl
theorem L58_26_eq (lo : List Nat) (v0 v5 v6 v7 : AV) (H : Heap) : L58_26 [v0, v5, v6, v7] lo H = (
(lenA .slice v0 H).bind fun x1 =>
(bin .lss .int v7 x1).bind fun x2 =>
(gd x2 true (some v0)).bind fun x3 =>
(gd x2 true (some v7)).bind fun x4 =>
(gd x2 true (idxA 1 x3 x4)).bind fun x5 =>
(gd x2 true (ld false 1 x5 H)).bind fun x6 =>
(gd x2 true (some v0)).bind fun x7 =>
(gd x2 true (some v6)).bind fun x8 =>
(gd x2 true (idxA 1 x7 x8)).bind fun x9 =>
(gd x2 true (ld false 1 x9 H)).bind fun x10 =>
(gd x2 true (bin .eql .int x6 x10)).bind fun x11 =>
(pickA x2 x11 (B false)).bind fun x12 =>
cond x12 (
(bin .add .int v7 (I 1)).bind fun x13 =>
L58_26 [v0, v5, v6, x13] lo H) (
(idxA 1 v0 v6).bind fun x14 =>
(ld false 1 x14 H).bind fun x15 =>
(bin .sub .int v7 v6).bind fun x16 =>
(buildA [(I 0), (I 0)] [(0, 1, x15), (1, 1, x16)]).bind fun x17 =>
(litA false 2 [x17] H).bind fun r18 =>
(appA 2 16 v5 r18.1 r18.2).bind fun r19 =>
L58_22 [v0, r19.1, v7] lo r19.2)) := by
  show O.lab _ _ _ _ _ _ = _
  rw [O_lab]
  kernel_rfl
theorem f58_eq (a0 : AV) : O.ent 58 [a0] [] [] = (
(lenA .slice a0 []).bind fun x1 =>
(bin .gtr .int x1 (I 200)).bind fun x2 =>
cond x2 (
leave 0 [] [.p nilS, I 2] []) (
L58_10 [a0, I 0] [] [])) := by
  rw [O_ent]
  kernel_rfl
-- backstitch/sched.Unpack
noncomputable def T59_8 : List It := labAt Try.prog cfg 59 8 (fun _ => none)
noncomputable def L59_8 (vals : List AV) (lo : List Nat) (H : Heap) : Res := O.lab 59 [0, 4, 7, 8, 9] (T59_8) vals lo H
theorem L59_8_eq (lo : List Nat) (v0 v4 v7 v8 v9 : AV) (H : Heap) : L59_8 [v0, v4, v7, v8, v9] lo H = (
(bin .lss .int v9 v8).bind fun x1 =>
cond x1 (
(idxA 2 v7 v9).bind fun x2 =>
(ld true 2 x2 H).bind fun x3 =>
(boxO [] [(I 0), (I 0)] H).bind fun r4 =>
((stA 2 r4.1 x3 lo r4.2).map fun H' => (undefA, H')).bind fun r5 =>
(fldA 0 r4.1).bind fun x6 =>
(ld false 1 x6 r5.2).bind fun x7 =>
(callA cfg O 124 [x7] lo r5.2).bind fun r8 =>
(un .not r8.1).bind fun x9 =>
cond x9 (
leave 0 lo [.p nilS, I 1] r8.2) (
(fldA 1 r4.1).bind fun x10 =>
(ld false 1 x10 r8.2).bind fun x11 =>
(bin .lss .int x11 (I 1)).bind fun x12 =>
(gd x12 false (some v9)).bind fun x13 =>
(gd x12 false (bin .gtr .int x13 (I 0))).bind fun x14 =>
(gd x12 false (some x14)).bind fun x15 =>
(gd x15 true (some v0)).bind fun x16 =>
(gd x15 true (some v9)).bind fun x17 =>
(gd x15 true (bin .sub .int x17 (I 1))).bind fun x18 =>
(gd x15 true (idxA 2 x16 x18)).bind fun x19 =>
(gd x15 true (fldA 0 x19)).bind fun x20 =>
(gd x15 true (ld false 1 x20 r8.2)).bind fun x21 =>
(gd x15 true (fldA 0 r4.1)).bind fun x22 =>
(gd x15 true (ld false 1 x22 r8.2)).bind fun x23 =>
(gd x15 true (bin .eql .int x21 x23)).bind fun x24 =>
(gd x12 false (pickA x15 x24 (B false))).bind fun x25 =>
(pickA x12 (B true) x25).bind fun x26 =>
cond x26 (
leave 0 lo [.p nilS, I 3] r8.2) (
(fldA 1 r4.1).bind fun x27 =>
(ld false 1 x27 r8.2).bind fun x28 =>
(lenA .slice v4 r8.2).bind fun x29 =>
(bin .sub .int (I 200) x29).bind fun x30 =>
(bin .gtr .int x28 x30).bind fun x31 =>
cond x31 (
leave 0 lo [.p nilS, I 2] r8.2) (
(fldA 0 r4.1).bind fun x32 =>
(ld false 1 x32 r8.2).bind fun x33 =>
(litA false 1 [x33] r8.2).bind fun r34 =>
(fldA 1 r4.1).bind fun x35 =>
(ld false 1 x35 r34.2).bind fun x36 =>
(callA cfg O 125 [r34.1, x36] lo r34.2).bind fun r37 =>
(appA 1 8 v4 r37.1 r37.2).bind fun r38 =>
(bin .add .int v9 (I 1)).bind fun x39 =>
L59_8 [v0, r38.1, v7, v8, x39] lo r38.2)))) (
leave 0 lo [v4, I 0] H)) := by
  show O.lab _ _ _ _ _ _ = _
  rw [O_lab]
  kernel_rfl
theorem f59_eq (a0 : AV) : O.ent 59 [a0] [] [] = (
(lenA .slice a0 []).bind fun x1 =>
L59_8 [a0, .p nilS, a0, x1, I 0] [] []) := by
  rw [O_ent]
  kernel_rfl
-- backstitch/backstitchref4.SchedUnpack
noncomputable def T60_8 : List It := labAt Try.prog cfg 60 8 (fun _ => none)
noncomputable def L60_8 (vals : List AV) (lo : List Nat) (H : Heap) : Res := O.lab 60 [0, 4, 5] (T60_8) vals lo H
noncomputable def T60_22 : List It := labAt Try.prog cfg 60 22 (fun _ => none)
noncomputable def L60_22 (vals : List AV) (lo : List Nat) (H : Heap) : Res := O.lab 60 [0, 4, 5, 6] (T60_22) vals lo H
theorem L60_8_eq (lo : List Nat) (v0 v4 v5 : AV) (H : Heap) : L60_8 [v0, v4, v5] lo H = (
(lenA .slice v0 H).bind fun x1 =>
(bin .lss .int v5 x1).bind fun x2 =>
cond x2 (
(idxA 2 v0 v5).bind fun x3 =>
(fldA 0 x3).bind fun x4 =>
(ld false 1 x4 H).bind fun x5 =>
(callA cfg O 61 [x5, I 0, I 7] lo H).bind fun r6 =>
(un .not r6.1).bind fun x7 =>
cond x7 (
leave 0 lo [.p nilS, I 1] r6.2) (
(idxA 2 v0 v5).bind fun x8 =>
(fldA 1 x8).bind fun x9 =>
(ld false 1 x9 r6.2).bind fun x10 =>
(bin .lss .int x10 (I 1)).bind fun x11 =>
(gd x11 false (some v5)).bind fun x12 =>
(gd x11 false (bin .gtr .int x12 (I 0))).bind fun x13 =>
(gd x11 false (some x13)).bind fun x14 =>
(gd x14 true (some v0)).bind fun x15 =>
(gd x14 true (some v5)).bind fun x16 =>
(gd x14 true (bin .sub .int x16 (I 1))).bind fun x17 =>
(gd x14 true (idxA 2 x15 x17)).bind fun x18 =>
(gd x14 true (fldA 0 x18)).bind fun x19 =>
(gd x14 true (ld false 1 x19 r6.2)).bind fun x20 =>
(gd x14 true (some v0)).bind fun x21 =>
(gd x14 true (some v5)).bind fun x22 =>
(gd x14 true (idxA 2 x21 x22)).bind fun x23 =>
(gd x14 true (fldA 0 x23)).bind fun x24 =>
(gd x14 true (ld false 1 x24 r6.2)).bind fun x25 =>
(gd x14 true (bin .eql .int x20 x25)).bind fun x26 =>
(gd x11 false (pickA x14 x26 (B false))).bind fun x27 =>
(pickA x11 (B true) x27).bind fun x28 =>
cond x28 (
leave 0 lo [.p nilS, I 3] r6.2) (
L60_22 [v0, v4, v5, I 0] lo r6.2))) (
leave 0 lo [v4, I 0] H)) := by
  show O.lab _ _ _ _ _ _ = _
  rw [O_lab]
  kernel_rfl
theorem L60_22_eq (lo : List Nat) (v0 v4 v5 v6 : AV) (H : Heap) : L60_22 [v0, v4, v5, v6] lo H = (
(idxA 2 v0 v5).bind fun x1 =>
(fldA 1 x1).bind fun x2 =>
(ld false 1 x2 H).bind fun x3 =>
(bin .lss .int v6 x3).bind fun x4 =>
cond x4 (
(lenA .slice v4 H).bind fun x5 =>
(bin .eql .int x5 (I 200)).bind fun x6 =>
cond x6 (
leave 0 lo [.p nilS, I 2] H) (
(idxA 2 v0 v5).bind fun x7 =>
(fldA 0 x7).bind fun x8 =>
(ld false 1 x8 H).bind fun x9 =>
(litA false 1 [x9] H).bind fun r10 =>
(appA 1 8 v4 r10.1 r10.2).bind fun r11 =>
(bin .add .int v6 (I 1)).bind fun x12 =>
L60_22 [v0, r11.1, v5, x12] lo r11.2)) (
(bin .add .int v5 (I 1)).bind fun x13 =>
L60_8 [v0, v4, x13] lo H)) := by
  show O.lab _ _ _ _ _ _ = _
  rw [O_lab]
  kernel_rfl
theorem f60_eq (a0 : AV) : O.ent 60 [a0] [] [] = (
L60_8 [a0, .p nilS, I 0] [] []) := by
  rw [O_ent]
  kernel_rfl
-- slices.ContainsFunc[[]int,int]
theorem f122_eq (a0 a1 : AV) (lo : List Nat) (H : Heap) : O.ent 122 [a0, a1] lo H = (
(callA cfg O 147 [a0, a1] (List.length H :: lo) H).bind fun r1 =>
(bin .geq .int r1.1 (I 0)).bind fun x2 =>
leave 3 (List.length H :: lo) [x2] r1.2) := by
  rw [O_ent]
  kernel_rfl
-- backstitch/sched.Pack$1
theorem f123_eq (a0 : AV) : O.ent 123 [a0] [] [] = (
(callA cfg O 124 [a0] [] []).bind fun r1 =>
(un .not r1.1).bind fun x2 =>
leave 0 [] [x2] r1.2) := by
  rw [O_ent]
  kernel_rfl
-- backstitch/sched.thread
theorem f124_eq (a0 : AV) : O.ent 124 [a0] [] [] = (
(bin .geq .int a0 (I 0)).bind fun x1 =>
(gd x1 true (some a0)).bind fun x2 =>
(gd x1 true (bin .lss .int x2 (I 8))).bind fun x3 =>
(pickA x1 x3 (B false)).bind fun x4 =>
leave 0 [] [x4] []) := by
  rw [O_ent]
  kernel_rfl
-- slices.Repeat[[]int,int]
noncomputable def T125_9 : List It := labAt Try.prog cfg 125 9 (fun _ => none)
noncomputable def L125_9 (vals : List AV) (lo : List Nat) (H : Heap) : Res := O.lab 125 [0, 1] (T125_9) vals lo H
noncomputable def T125_15 : List It := labAt Try.prog cfg 125 15 (fun _ => none)
noncomputable def L125_15 (vals : List AV) (lo : List Nat) (H : Heap) : Res := O.lab 125 [0, 6] (T125_15) vals lo H
noncomputable def T125_18 : List It := labAt Try.prog cfg 125 18 (fun _ => none)
noncomputable def L125_18 (vals : List AV) (lo : List Nat) (H : Heap) : Res := O.lab 125 [7, 8] (T125_18) vals lo H
theorem L125_9_eq (lo : List Nat) (v0 v1 : AV) (H : Heap) : L125_9 [v0, v1] lo H = (
(lenA .slice v0 H).bind fun x1 =>
(conv (.int .u64) x1).bind fun x2 =>
(conv (.int .u64) v1).bind fun x3 =>
(callA cfg O 148 [x2, x3] lo H).bind fun r4 =>
(extractA r4.1 0).bind fun x5 =>
(extractA r4.1 1).bind fun x6 =>
(bin .gtr .int x5 (.p (.v (.int .u64 0)))).bind fun x7 =>
(gd x7 false (some x6)).bind fun x8 =>
(gd x7 false (bin .gtr .int x8 (.p (.v (.int .u64 9223372036854775807))))).bind fun x9 =>
(pickA x7 (B true) x9).bind fun x10 =>
cond x10 (
none) (
L125_15 [v0, x6] lo r4.2)) := by
  show O.lab _ _ _ _ _ _ = _
  rw [O_lab]
  kernel_rfl
theorem L125_15_eq (lo : List Nat) (v0 v6 : AV) (H : Heap) : L125_15 [v0, v6] lo H = (
(conv (.int .i64) v6).bind fun x1 =>
(mkRow 1 8 [(.v (.int .i64 0))] x1 x1 H).bind fun r2 =>
(copyA 1 r2.1 v0 r2.2).bind fun r3 =>
L125_18 [r2.1, r3.1] lo r3.2) := by
  show O.lab _ _ _ _ _ _ = _
  rw [O_lab]
  kernel_rfl
theorem L125_18_eq (lo : List Nat) (v7 v8 : AV) (H : Heap) : L125_18 [v7, v8] lo H = (
(lenA .slice v7 H).bind fun x1 =>
(bin .lss .int v8 x1).bind fun x2 =>
cond x2 (
(cutA 1 v7 (some v8) none none H).bind fun x3 =>
(cutA 1 v7 none (some v8) none H).bind fun x4 =>
(copyA 1 x3 x4 H).bind fun r5 =>
(bin .add .int v8 r5.1).bind fun x6 =>
L125_18 [v7, x6] lo r5.2) (
leave 0 lo [v7] H)) := by
  show O.lab _ _ _ _ _ _ = _
  rw [O_lab]
  kernel_rfl
theorem f125_eq (a0 a1 : AV) : O.ent 125 [a0, a1] [] [] = (
(bin .lss .int a1 (I 0)).bind fun x1 =>
cond x1 (
none) (
L125_9 [a0, a1] [] [])) := by
  rw [O_ent]
  kernel_rfl
-- slices.IndexFunc[[]int,int]
noncomputable def T147_6 : List It := labAt Try.prog cfg 147 6 (fun _ => none)
noncomputable def L147_6 (vals : List AV) (lo : List Nat) (H : Heap) : Res := O.lab 147 [0, 1, 7, 8] (T147_6) vals lo H
theorem L147_6_eq (lo : List Nat) (v0 v1 v7 v8 : AV) (H : Heap) : L147_6 [v0, v1, v7, v8] lo H = (
(bin .lss .int v8 v7).bind fun x1 =>
cond x1 (
(idxA 1 v0 v8).bind fun x2 =>
(ld false 1 x2 H).bind fun x3 =>
(callV cfg O v1 [x3] lo H).bind fun r4 =>
cond r4.1 (
leave 1 lo [v8] r4.2) (
(bin .add .int v8 (I 1)).bind fun x5 =>
L147_6 [v0, v1, v7, x5] lo r4.2)) (
leave 1 lo [I (-1)] H)) := by
  show O.lab _ _ _ _ _ _ = _
  rw [O_lab]
  kernel_rfl
theorem f147_eq (a0 a1 : AV) (lo : List Nat) (H : Heap) : O.ent 147 [a0, a1] lo H = (
(lenA .slice a0 H).bind fun x1 =>
L147_6 [a0, a1, x1, I 0] lo H) := by
  rw [O_ent]
  kernel_rfl
-- math/bits.Mul
theorem f148_eq (a0 a1 : AV) : O.ent 148 [a0, a1] [] [] = (
cond (B false) (
(conv (.int .u32) a0).bind fun x1 =>
(conv (.int .u32) a1).bind fun x2 =>
(callA cfg O 156 [x1, x2] [] []).bind fun r3 =>
(extractA r3.1 0).bind fun x4 =>
(extractA r3.1 1).bind fun x5 =>
(conv (.int .u64) x4).bind fun x6 =>
(conv (.int .u64) x5).bind fun x7 =>
leave 0 [] [x6, x7] r3.2) (
(callA cfg O 157 [a0, a1] [] []).bind fun r8 =>
(extractA r8.1 0).bind fun x9 =>
(extractA r8.1 1).bind fun x10 =>
leave 0 [] [x9, x10] r8.2)) := by
  rw [O_ent]
  kernel_rfl
-- math/bits.Mul32
theorem f156_eq (a0 a1 : AV) : O.ent 156 [a0, a1] [] [] = (
(conv (.int .u64) a0).bind fun x1 =>
(conv (.int .u64) a1).bind fun x2 =>
(bin .mul .int x1 x2).bind fun x3 =>
(bin .shr .int x3 (.p (.v (.int .u64 32)))).bind fun x4 =>
(conv (.int .u32) x4).bind fun x5 =>
(conv (.int .u32) x3).bind fun x6 =>
leave 0 [] [x5, x6] []) := by
  rw [O_ent]
  kernel_rfl
-- math/bits.Mul64
theorem f157_eq (a0 a1 : AV) : O.ent 157 [a0, a1] [] [] = (
(bin .and .int a0 (.p (.v (.int .u64 4294967295)))).bind fun x1 =>
(bin .shr .int a0 (.p (.v (.int .u64 32)))).bind fun x2 =>
(bin .and .int a1 (.p (.v (.int .u64 4294967295)))).bind fun x3 =>
(bin .shr .int a1 (.p (.v (.int .u64 32)))).bind fun x4 =>
(bin .mul .int x1 x3).bind fun x5 =>
(bin .mul .int x2 x3).bind fun x6 =>
(bin .shr .int x5 (.p (.v (.int .u64 32)))).bind fun x7 =>
(bin .add .int x6 x7).bind fun x8 =>
(bin .and .int x8 (.p (.v (.int .u64 4294967295)))).bind fun x9 =>
(bin .shr .int x8 (.p (.v (.int .u64 32)))).bind fun x10 =>
(bin .mul .int x1 x4).bind fun x11 =>
(bin .add .int x9 x11).bind fun x12 =>
(bin .mul .int x2 x4).bind fun x13 =>
(bin .add .int x13 x10).bind fun x14 =>
(bin .shr .int x12 (.p (.v (.int .u64 32)))).bind fun x15 =>
(bin .add .int x14 x15).bind fun x16 =>
(bin .mul .int a0 a1).bind fun x17 =>
leave 0 [] [x16, x17] []) := by
  rw [O_ent]
  kernel_rfl
end Go.Proofs.Ytangmjeafnkfaaa
