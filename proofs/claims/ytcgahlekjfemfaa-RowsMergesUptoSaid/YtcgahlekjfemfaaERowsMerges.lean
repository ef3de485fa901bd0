import Derived.Test.YtcgahlekjfemfaaCf
set_option linter.unusedVariables false
set_option maxRecDepth 100000
namespace Go.Proofs.Ytcgahlekjfemfaa
open Go Go.AM
-- backstitch/backstitchlaw4.RowsMerges
noncomputable def T4_21 : List It := labAt Try.prog cfg 4 21 (fun _ => none)
noncomputable def L4_21 (vals : List AV) (lo : List Nat) (H : Heap) : Res := O.lab 4 [5, 6, 7, 8] (T4_21) vals lo H
theorem L4_21_eq (lo : List Nat) (v5 v6 v7 v8 : AV) (H : Heap) : L4_21 [v5, v6, v7, v8] lo H = (
(callA cfg O 25 [v5, v8] lo H).bind fun r1 =>
(gd r1.1 true (some v6)).bind fun x2 =>
(gd r1.1 true (some v7)).bind fun x3 =>
(gd r1.1 true (bin .eql .int x2 x3)).bind fun x4 =>
(pickA r1.1 x4 (B false)).bind fun x5 =>
leave 0 lo [x5] r1.2) := by
  show O.lab _ _ _ _ _ _ = _
  rw [O_lab]
  kernel_rfl
theorem f4_eq (a0 a1 : AV) : O.ent 4 [a0, a1] [] [] = (
(callA cfg O 22 [a0, a1] [] []).bind fun r1 =>
(extractA r1.1 0).bind fun x2 =>
(extractA r1.1 1).bind fun x3 =>
(lenA .slice a0 r1.2).bind fun x4 =>
(lenA .slice a1 r1.2).bind fun x5 =>
(bin .add .int x4 x5).bind fun x6 =>
(bin .gtr .int x6 (I 200)).bind fun x7 =>
cond x7 (
L4_21 [x2, x3, I 2, .p nilS] [] r1.2) (
(callA cfg O 23 [a0] [] r1.2).bind fun r8 =>
(un .not r8.1).bind fun x9 =>
(gd x9 false (some a1)).bind fun x10 =>
(gdH x9 false (callA cfg O 23 [x10] [] r8.2) r8.2).bind fun r11 =>
(gd x9 false (un .not r11.1)).bind fun x12 =>
(pickA x9 (B true) x12).bind fun x13 =>
cond x13 (
L4_21 [x2, x3, I 3, .p nilS] [] r11.2) (
(callA cfg O 24 [a0, a1] [] r11.2).bind fun r14 =>
L4_21 [x2, x3, I 0, r14.1] [] r14.2))) := by
  rw [O_ent]
  kernel_rfl
-- backstitch/rows.Merge
theorem f22_eq (a0 a1 : AV) : O.ent 22 [a0, a1] [] [] = (
(lenA .slice a0 []).bind fun x1 =>
(lenA .slice a1 []).bind fun x2 =>
(bin .add .int x1 x2).bind fun x3 =>
(bin .gtr .int x3 (I 200)).bind fun x4 =>
cond x4 (
leave 0 [] [.p nilS, I 2] []) (
(callA cfg O 63 [a0, .fn 64 [] []] [] []).bind fun r5 =>
(un .not r5.1).bind fun x6 =>
(gd x6 false (some a1)).bind fun x7 =>
(gdH x6 false (callA cfg O 63 [x7, .fn 64 [] []] [] r5.2) r5.2).bind fun r8 =>
(gd x6 false (un .not r8.1)).bind fun x9 =>
(pickA x6 (B true) x9).bind fun x10 =>
cond x10 (
leave 0 [] [.p nilS, I 3] r8.2) (
(litA false 1 [a0, a1] r8.2).bind fun r11 =>
(callA cfg O 65 [r11.1] [] r11.2).bind fun r12 =>
(callA cfg O 66 [r12.1, .fn 64 [] []] [] r12.2).bind fun r13 =>
leave 0 [] [r12.1, I 0] r13.2))) := by
  rw [O_ent]
  kernel_rfl
-- backstitch/backstitchref4.Steady
noncomputable def T23_6 : List It := labAt Try.prog cfg 23 6 (fun _ => none)
noncomputable def L23_6 (vals : List AV) (lo : List Nat) (H : Heap) : Res := O.lab 23 [0, 3] (T23_6) vals lo H
theorem L23_6_eq (lo : List Nat) (v0 v3 : AV) (H : Heap) : L23_6 [v0, v3] lo H = (
(lenA .slice v0 H).bind fun x1 =>
(bin .lss .int v3 x1).bind fun x2 =>
cond x2 (
(idxA 12 v0 v3).bind fun x3 =>
(fldA 1 x3).bind fun x4 =>
(ld false 1 x4 H).bind fun x5 =>
(bin .sub .int v3 (I 1)).bind fun x6 =>
(idxA 12 v0 x6).bind fun x7 =>
(fldA 1 x7).bind fun x8 =>
(ld false 1 x8 H).bind fun x9 =>
(bin .lss .int x5 x9).bind fun x10 =>
cond x10 (
leave 0 lo [B false] H) (
(bin .add .int v3 (I 1)).bind fun x11 =>
L23_6 [v0, x11] lo H)) (
leave 0 lo [B true] H)) := by
  show O.lab _ _ _ _ _ _ = _
  rw [O_lab]
  kernel_rfl
theorem f23_eq (a0 : AV) : O.ent 23 [a0] [] [] = (
L23_6 [a0, I 1] [] []) := by
  rw [O_ent]
  kernel_rfl
-- backstitch/backstitchref4.RowsMerge
noncomputable def T24_8 : List It := labAt Try.prog cfg 24 8 (fun _ => none)
noncomputable def L24_8 (vals : List AV) (lo : List Nat) (H : Heap) : Res := O.lab 24 [0, 1, 5, 6, 7] (T24_8) vals lo H
theorem L24_8_eq (lo : List Nat) (v0 v1 v5 v6 v7 : AV) (H : Heap) : L24_8 [v0, v1, v5, v6, v7] lo H = (
(lenA .slice v0 H).bind fun x1 =>
(bin .lss .int v6 x1).bind fun x2 =>
(gd x2 false (some v7)).bind fun x3 =>
(gd x2 false (some v1)).bind fun x4 =>
(gd x2 false (lenA .slice x4 H)).bind fun x5 =>
(gd x2 false (bin .lss .int x3 x5)).bind fun x6 =>
(pickA x2 (B true) x6).bind fun x7 =>
cond x7 (
(lenA .slice v1 H).bind fun x8 =>
(bin .eql .int v7 x8).bind fun x9 =>
(gd x9 false (some v6)).bind fun x10 =>
(gd x9 false (some v0)).bind fun x11 =>
(gd x9 false (lenA .slice x11 H)).bind fun x12 =>
(gd x9 false (bin .lss .int x10 x12)).bind fun x13 =>
(gd x9 false (some x13)).bind fun x14 =>
(gd x14 true (some v0)).bind fun x15 =>
(gd x14 true (some v6)).bind fun x16 =>
(gd x14 true (idxA 12 x15 x16)).bind fun x17 =>
(gd x14 true (fldA 1 x17)).bind fun x18 =>
(gd x14 true (ld false 1 x18 H)).bind fun x19 =>
(gd x14 true (some v1)).bind fun x20 =>
(gd x14 true (some v7)).bind fun x21 =>
(gd x14 true (idxA 12 x20 x21)).bind fun x22 =>
(gd x14 true (fldA 1 x22)).bind fun x23 =>
(gd x14 true (ld false 1 x23 H)).bind fun x24 =>
(gd x14 true (bin .leq .int x19 x24)).bind fun x25 =>
(gd x9 false (pickA x14 x25 (B false))).bind fun x26 =>
(pickA x9 (B true) x26).bind fun x27 =>
cond x27 (
(idxA 12 v0 v6).bind fun x28 =>
(ld true 12 x28 H).bind fun x29 =>
(litA false 12 [x29] H).bind fun r30 =>
(appA 12 96 v5 r30.1 r30.2).bind fun r31 =>
(bin .add .int v6 (I 1)).bind fun x32 =>
L24_8 [v0, v1, r31.1, x32, v7] lo r31.2) (
(idxA 12 v1 v7).bind fun x33 =>
(ld true 12 x33 H).bind fun x34 =>
(litA false 12 [x34] H).bind fun r35 =>
(appA 12 96 v5 r35.1 r35.2).bind fun r36 =>
(bin .add .int v7 (I 1)).bind fun x37 =>
L24_8 [v0, v1, r36.1, v6, x37] lo r36.2)) (
leave 0 lo [v5] H)) := by
  show O.lab _ _ _ _ _ _ = _
  rw [O_lab]
  kernel_rfl
theorem f24_eq (a0 a1 : AV) : O.ent 24 [a0, a1] [] [] = (
L24_8 [a0, a1, .p nilS, I 0, I 0] [] []) := by
  rw [O_ent]
  kernel_rfl
-- backstitch/backstitchref4.SameEvents
noncomputable def T25_10 : List It := labAt Try.prog cfg 25 10 (fun _ => none)
noncomputable def L25_10 (vals : List AV) (lo : List Nat) (H : Heap) : Res := O.lab 25 [0, 1, 5] (T25_10) vals lo H
theorem L25_10_eq (lo : List Nat) (v0 v1 v5 : AV) (H : Heap) : L25_10 [v0, v1, v5] lo H = (
(lenA .slice v0 H).bind fun x1 =>
(bin .lss .int v5 x1).bind fun x2 =>
cond x2 (
(idxA 12 v0 v5).bind fun x3 =>
(ld true 12 x3 H).bind fun x4 =>
(idxA 12 v1 v5).bind fun x5 =>
(ld true 12 x5 H).bind fun x6 =>
(bin .neq (.agg 12 [(0, .int), (1, .int), (2, .int), (3, .int), (4, .int), (5, .int), (6, .int), (7, .int), (8, .int), (9, .int), (10, .int), (11, .int)]) x4 x6).bind fun x7 =>
cond x7 (
leave 0 lo [B false] H) (
(bin .add .int v5 (I 1)).bind fun x8 =>
L25_10 [v0, v1, x8] lo H)) (
leave 0 lo [B true] H)) := by
  show O.lab _ _ _ _ _ _ = _
  rw [O_lab]
  kernel_rfl
theorem f25_eq (a0 a1 : AV) : O.ent 25 [a0, a1] [] [] = (
(lenA .slice a0 []).bind fun x1 =>
(lenA .slice a1 []).bind fun x2 =>
(bin .neq .int x1 x2).bind fun x3 =>
cond x3 (
leave 0 [] [B false] []) (
L25_10 [a0, a1, I 0] [] [])) := by
  rw [O_ent]
  kernel_rfl
-- slices.IsSortedFunc[[]backstitch/api.Event,backstitch/api.Event]
noncomputable def T63_6 : List It := labAt Try.prog cfg 63 6 (fun _ => none)
noncomputable def L63_6 (vals : List AV) (lo : List Nat) (H : Heap) : Res := O.lab 63 [0, 1, 5] (T63_6) vals lo H
theorem L63_6_eq (lo : List Nat) (v0 v1 v5 : AV) (H : Heap) : L63_6 [v0, v1, v5] lo H = (
(bin .gtr .int v5 (I 0)).bind fun x1 =>
cond x1 (
(idxA 12 v0 v5).bind fun x2 =>
(ld true 12 x2 H).bind fun x3 =>
(bin .sub .int v5 (I 1)).bind fun x4 =>
(idxA 12 v0 x4).bind fun x5 =>
(ld true 12 x5 H).bind fun x6 =>
(callV cfg O v1 [x3, x6] lo H).bind fun r7 =>
(bin .lss .int r7.1 (I 0)).bind fun x8 =>
cond x8 (
leave 0 lo [B false] r7.2) (
(bin .sub .int v5 (I 1)).bind fun x9 =>
L63_6 [v0, v1, x9] lo r7.2)) (
leave 0 lo [B true] H)) := by
  show O.lab _ _ _ _ _ _ = _
  rw [O_lab]
  kernel_rfl
theorem f63_eq (a0 a1 : AV) : O.ent 63 [a0, a1] [] [] = (
(lenA .slice a0 []).bind fun x1 =>
(bin .sub .int x1 (I 1)).bind fun x2 =>
L63_6 [a0, a1, x2] [] []) := by
  rw [O_ent]
  kernel_rfl
-- backstitch/rows.byStep
theorem f64_eq (a0 a1 : AV) : O.ent 64 [a0, a1] [] [] = (
(boxO [] (AV.cells a0) []).bind fun r1 =>
(boxO [] (AV.cells a1) r1.2).bind fun r2 =>
(fldA 1 r1.1).bind fun x3 =>
(ld false 1 x3 r2.2).bind fun x4 =>
(fldA 1 r2.1).bind fun x5 =>
(ld false 1 x5 r2.2).bind fun x6 =>
(callA cfg O 71 [x4, x6] [] r2.2).bind fun r7 =>
leave 0 [] [r7.1] r7.2) := by
  rw [O_ent]
  kernel_rfl
-- slices.Concat[[]backstitch/api.Event,backstitch/api.Event]
noncomputable def T65_8 : List It := labAt Try.prog cfg 65 8 (fun _ => none)
noncomputable def L65_8 (vals : List AV) (lo : List Nat) (H : Heap) : Res := O.lab 65 [0, 3, 9, 10, 11] (T65_8) vals lo H
noncomputable def T65_19 : List It := labAt Try.prog cfg 65 19 (fun _ => none)
noncomputable def L65_19 (vals : List AV) (lo : List Nat) (H : Heap) : Res := O.lab 65 [0, 3, 9, 10, 11] (T65_19) vals lo H
noncomputable def T65_24 : List It := labAt Try.prog cfg 65 24 (fun _ => none)
noncomputable def L65_24 (vals : List AV) (lo : List Nat) (H : Heap) : Res := O.lab 65 [6, 25, 26, 27] (T65_24) vals lo H
theorem L65_8_eq (lo : List Nat) (v0 v3 v9 v10 v11 : AV) (H : Heap) : L65_8 [v0, v3, v9, v10, v11] lo H = (
(bin .lss .int v11 v10).bind fun x1 =>
cond x1 (
(idxA 1 v9 v11).bind fun x2 =>
(ld false 1 x2 H).bind fun x3 =>
(lenA .slice x3 H).bind fun x4 =>
(bin .add .int v3 x4).bind fun x5 =>
(bin .lss .int x5 (I 0)).bind fun x6 =>
cond x6 (
none) (
L65_19 [v0, x5, v9, v10, v11] lo H)) (
(callA cfg O 88 [.p nilS, v3] lo H).bind fun r7 =>
(lenA .slice v0 r7.2).bind fun x8 =>
L65_24 [r7.1, v0, x8, I 0] lo r7.2)) := by
  show O.lab _ _ _ _ _ _ = _
  rw [O_lab]
  kernel_rfl
theorem L65_19_eq (lo : List Nat) (v0 v3 v9 v10 v11 : AV) (H : Heap) : L65_19 [v0, v3, v9, v10, v11] lo H = (
(bin .add .int v11 (I 1)).bind fun x1 =>
L65_8 [v0, v3, v9, v10, x1] lo H) := by
  show O.lab _ _ _ _ _ _ = _
  rw [O_lab]
  kernel_rfl
theorem L65_24_eq (lo : List Nat) (v6 v25 v26 v27 : AV) (H : Heap) : L65_24 [v6, v25, v26, v27] lo H = (
(bin .lss .int v27 v26).bind fun x1 =>
cond x1 (
(idxA 1 v25 v27).bind fun x2 =>
(ld false 1 x2 H).bind fun x3 =>
(appA 12 96 v6 x3 H).bind fun r4 =>
(bin .add .int v27 (I 1)).bind fun x5 =>
L65_24 [r4.1, v25, v26, x5] lo r4.2) (
leave 1 lo [v6] H)) := by
  show O.lab _ _ _ _ _ _ = _
  rw [O_lab]
  kernel_rfl
theorem f65_eq (a0 : AV) (lo : List Nat) (H : Heap) : O.ent 65 [a0] lo H = (
(lenA .slice a0 H).bind fun x1 =>
L65_8 [a0, I 0, a0, x1, I 0] lo H) := by
  rw [O_ent]
  kernel_rfl
-- slices.SortStableFunc[[]backstitch/api.Event,backstitch/api.Event]
theorem f66_eq (a0 a1 : AV) (lo : List Nat) (H : Heap) : O.ent 66 [a0, a1] lo H = (
(lenA .slice a0 H).bind fun x1 =>
(callA cfg O 89 [a0, x1, a1] lo H).bind fun r2 =>
leave 1 lo [] r2.2) := by
  rw [O_ent]
  kernel_rfl
-- cmp.Compare[int]
theorem f71_eq (a0 a1 : AV) : O.ent 71 [a0, a1] [] [] = (
(callA cfg O 92 [a0] [] []).bind fun r1 =>
(callA cfg O 92 [a1] [] r1.2).bind fun r2 =>
cond r1.1 (
cond r2.1 (
leave 0 [] [I 0] r2.2) (
leave 0 [] [I (-1)] r2.2)) (
cond r2.1 (
leave 0 [] [I 1] r2.2) (
(bin .lss .int a0 a1).bind fun x3 =>
cond x3 (
leave 0 [] [I (-1)] r2.2) (
(bin .gtr .int a0 a1).bind fun x4 =>
cond x4 (
leave 0 [] [I 1] r2.2) (
leave 0 [] [I 0] r2.2))))) := by
  rw [O_ent]
  kernel_rfl
-- slices.Grow[[]backstitch/api.Event,backstitch/api.Event]
noncomputable def T88_9 : List It := labAt Try.prog cfg 88 9 (fun _ => none)
noncomputable def L88_9 (vals : List AV) (lo : List Nat) (H : Heap) : Res := O.lab 88 [0, 1] (T88_9) vals lo H
noncomputable def T88_15 : List It := labAt Try.prog cfg 88 15 (fun _ => none)
noncomputable def L88_15 (vals : List AV) (lo : List Nat) (H : Heap) : Res := O.lab 88 [0] (T88_15) vals lo H
theorem L88_9_eq (lo : List Nat) (v0 v1 : AV) (H : Heap) : L88_9 [v0, v1] lo H = (
(capA v0).bind fun x1 =>
(lenA .slice v0 H).bind fun x2 =>
(bin .sub .int x1 x2).bind fun x3 =>
(bin .sub .int v1 x3).bind fun x4 =>
(bin .gtr .int x4 (I 0)).bind fun x5 =>
cond x5 (
(capA v0).bind fun x6 =>
(cutA 12 v0 none (some x6) none H).bind fun x7 =>
(appZ 12 96 [(.v (.int .i64 0)), (.v (.int .i64 0)), (.v (.int .i64 0)), (.v (.int .i64 0)), (.v (.int .i64 0)), (.v (.int .i64 0)), (.v (.int .i64 0)), (.v (.int .i64 0)), (.v (.int .i64 0)), (.v (.int .i64 0)), (.v (.int .i64 0)), (.v (.int .i64 0))] x7 x4 H).bind fun r8 =>
(lenA .slice v0 r8.2).bind fun x9 =>
(cutA 12 r8.1 none (some x9) none r8.2).bind fun x10 =>
L88_15 [x10] lo r8.2) (
L88_15 [v0] lo H)) := by
  show O.lab _ _ _ _ _ _ = _
  rw [O_lab]
  kernel_rfl
theorem L88_15_eq (lo : List Nat) (v0 : AV) (H : Heap) : L88_15 [v0] lo H = (
leave 1 lo [v0] H) := by
  show O.lab _ _ _ _ _ _ = _
  rw [O_lab]
  kernel_rfl
theorem f88_eq (a0 a1 : AV) (lo : List Nat) (H : Heap) : O.ent 88 [a0, a1] lo H = (
(bin .lss .int a1 (I 0)).bind fun x1 =>
cond x1 (
none) (
L88_9 [a0, a1] lo H)) := by
  rw [O_ent]
  kernel_rfl
-- slices.stableCmpFunc[backstitch/api.Event]
noncomputable def T89_6 : List It := labAt Try.prog cfg 89 6 (fun _ => none)
noncomputable def L89_6 (vals : List AV) (lo : List Nat) (H : Heap) : Res := O.lab 89 [0, 1, 2, 6, 7, 8] (T89_6) vals lo H
noncomputable def T89_16 : List It := labAt Try.prog cfg 89 16 (fun _ => none)
noncomputable def L89_16 (vals : List AV) (lo : List Nat) (H : Heap) : Res := O.lab 89 [0, 1, 2, 6] (T89_16) vals lo H
noncomputable def T89_20 : List It := labAt Try.prog cfg 89 20 (fun _ => none)
noncomputable def L89_20 (vals : List AV) (lo : List Nat) (H : Heap) : Res := O.lab 89 [0, 1, 2, 6, 7, 8] (T89_20) vals lo H
noncomputable def T89_35 : List It := labAt Try.prog cfg 89 35 (fun _ => none)
noncomputable def L89_35 (vals : List AV) (lo : List Nat) (H : Heap) : Res := O.lab 89 [0, 1, 2, 6] (T89_35) vals lo H
theorem L89_6_eq (lo : List Nat) (v0 v1 v2 v6 v7 v8 : AV) (H : Heap) : L89_6 [v0, v1, v2, v6, v7, v8] lo H = (
(bin .leq .int v8 v1).bind fun x1 =>
cond x1 (
(callA cfg O 102 [v0, v7, v8, v2] lo H).bind fun r2 =>
(bin .add .int v8 v6).bind fun x3 =>
L89_6 [v0, v1, v2, v6, v8, x3] lo r2.2) (
(callA cfg O 102 [v0, v7, v1, v2] lo H).bind fun r4 =>
L89_16 [v0, v1, v2, v6] lo r4.2)) := by
  show O.lab _ _ _ _ _ _ = _
  rw [O_lab]
  kernel_rfl
theorem L89_16_eq (lo : List Nat) (v0 v1 v2 v6 : AV) (H : Heap) : L89_16 [v0, v1, v2, v6] lo H = (
(bin .lss .int v6 v1).bind fun x1 =>
cond x1 (
(bin .mul .int (I 2) v6).bind fun x2 =>
L89_20 [v0, v1, v2, v6, I 0, x2] lo H) (
leave 1 lo [] H)) := by
  show O.lab _ _ _ _ _ _ = _
  rw [O_lab]
  kernel_rfl
theorem L89_20_eq (lo : List Nat) (v0 v1 v2 v6 v7 v8 : AV) (H : Heap) : L89_20 [v0, v1, v2, v6, v7, v8] lo H = (
(bin .leq .int v8 v1).bind fun x1 =>
cond x1 (
(bin .add .int v7 v6).bind fun x2 =>
(callA cfg O 103 [v0, v7, x2, v8, v2] lo H).bind fun r3 =>
(bin .mul .int (I 2) v6).bind fun x4 =>
(bin .add .int v8 x4).bind fun x5 =>
L89_20 [v0, v1, v2, v6, v8, x5] lo r3.2) (
(bin .add .int v7 v6).bind fun x6 =>
(bin .lss .int x6 v1).bind fun x7 =>
cond x7 (
(callA cfg O 103 [v0, v7, x6, v1, v2] lo H).bind fun r8 =>
L89_35 [v0, v1, v2, v6] lo r8.2) (
L89_35 [v0, v1, v2, v6] lo H))) := by
  show O.lab _ _ _ _ _ _ = _
  rw [O_lab]
  kernel_rfl
theorem L89_35_eq (lo : List Nat) (v0 v1 v2 v6 : AV) (H : Heap) : L89_35 [v0, v1, v2, v6] lo H = (
(bin .mul .int v6 (I 2)).bind fun x1 =>
L89_16 [v0, v1, v2, x1] lo H) := by
  show O.lab _ _ _ _ _ _ = _
  rw [O_lab]
  kernel_rfl
theorem f89_eq (a0 a1 a2 : AV) (lo : List Nat) (H : Heap) : O.ent 89 [a0, a1, a2] lo H = (
L89_6 [a0, a1, a2, I 20, I 0, I 20] lo H) := by
  rw [O_ent]
  kernel_rfl
-- cmp.isNaN[int]
theorem f92_eq (a0 : AV) : O.ent 92 [a0] [] [] = (
(bin .neq .int a0 a0).bind fun x1 =>
leave 0 [] [x1] []) := by
  rw [O_ent]
  kernel_rfl
-- slices.insertionSortCmpFunc[backstitch/api.Event]
noncomputable def T102_4 : List It := labAt Try.prog cfg 102 4 (fun _ => none)
noncomputable def L102_4 (vals : List AV) (lo : List Nat) (H : Heap) : Res := O.lab 102 [0, 1, 2, 3, 8] (T102_4) vals lo H
noncomputable def T102_10 : List It := labAt Try.prog cfg 102 10 (fun _ => none)
noncomputable def L102_10 (vals : List AV) (lo : List Nat) (H : Heap) : Res := O.lab 102 [0, 1, 2, 3, 8, 9] (T102_10) vals lo H
theorem L102_4_eq (lo : List Nat) (v0 v1 v2 v3 v8 : AV) (H : Heap) : L102_4 [v0, v1, v2, v3, v8] lo H = (
(bin .lss .int v8 v2).bind fun x1 =>
cond x1 (
L102_10 [v0, v1, v2, v3, v8, v8] lo H) (
leave 1 lo [] H)) := by
  show O.lab _ _ _ _ _ _ = _
  rw [O_lab]
  kernel_rfl
theorem L102_10_eq (lo : List Nat) (v0 v1 v2 v3 v8 v9 : AV) (H : Heap) : L102_10 [v0, v1, v2, v3, v8, v9] lo H = (
(bin .gtr .int v9 v1).bind fun x1 =>
(gd x1 true (some v3)).bind fun x2 =>
(gd x1 true (some v0)).bind fun x3 =>
(gd x1 true (some v9)).bind fun x4 =>
(gd x1 true (idxA 12 x3 x4)).bind fun x5 =>
(gd x1 true (ld true 12 x5 H)).bind fun x6 =>
(gd x1 true (some v0)).bind fun x7 =>
(gd x1 true (some v9)).bind fun x8 =>
(gd x1 true (bin .sub .int x8 (I 1))).bind fun x9 =>
(gd x1 true (idxA 12 x7 x9)).bind fun x10 =>
(gd x1 true (ld true 12 x10 H)).bind fun x11 =>
(gdH x1 true (callV cfg O x2 [x6, x11] lo H) H).bind fun r12 =>
(gd x1 true (bin .lss .int r12.1 (I 0))).bind fun x13 =>
(pickA x1 x13 (B false)).bind fun x14 =>
cond x14 (
(bin .sub .int v9 (I 1)).bind fun x15 =>
(bin .sub .int v9 (I 1)).bind fun x16 =>
(idxA 12 v0 x16).bind fun x17 =>
(ld true 12 x17 r12.2).bind fun x18 =>
(idxA 12 v0 v9).bind fun x19 =>
(ld true 12 x19 r12.2).bind fun x20 =>
(idxA 12 v0 v9).bind fun x21 =>
((stA 12 x21 x18 lo r12.2).map fun H' => (undefA, H')).bind fun r22 =>
(idxA 12 v0 x15).bind fun x23 =>
((stA 12 x23 x20 lo r22.2).map fun H' => (undefA, H')).bind fun r24 =>
(bin .sub .int v9 (I 1)).bind fun x25 =>
L102_10 [v0, v1, v2, v3, v8, x25] lo r24.2) (
(bin .add .int v8 (I 1)).bind fun x26 =>
L102_4 [v0, v1, v2, v3, x26] lo r12.2)) := by
  show O.lab _ _ _ _ _ _ = _
  rw [O_lab]
  kernel_rfl
theorem f102_eq (a0 a1 a2 a3 : AV) (lo : List Nat) (H : Heap) : O.ent 102 [a0, a1, a2, a3] lo H = (
(bin .add .int a1 (I 1)).bind fun x1 =>
L102_4 [a0, a1, a2, a3, x1] lo H) := by
  rw [O_ent]
  kernel_rfl
-- slices.symMergeCmpFunc[backstitch/api.Event]
noncomputable def T103_8 : List It := labAt Try.prog cfg 103 8 (fun _ => none)
noncomputable def L103_8 (vals : List AV) (lo : List Nat) (H : Heap) : Res := O.lab 103 [0, 1, 4, 10, 11] (T103_8) vals lo H
noncomputable def T103_20 : List It := labAt Try.prog cfg 103 20 (fun _ => none)
noncomputable def L103_20 (vals : List AV) (lo : List Nat) (H : Heap) : Res := O.lab 103 [0, 10, 13] (T103_20) vals lo H
noncomputable def T103_32 : List It := labAt Try.prog cfg 103 32 (fun _ => none)
noncomputable def L103_32 (vals : List AV) (lo : List Nat) (H : Heap) : Res := O.lab 103 [0, 2, 4, 14, 15] (T103_32) vals lo H
noncomputable def T103_44 : List It := labAt Try.prog cfg 103 44 (fun _ => none)
noncomputable def L103_44 (vals : List AV) (lo : List Nat) (H : Heap) : Res := O.lab 103 [0, 14, 17] (T103_44) vals lo H
noncomputable def T103_67 : List It := labAt Try.prog cfg 103 67 (fun _ => none)
noncomputable def L103_67 (vals : List AV) (lo : List Nat) (H : Heap) : Res := O.lab 103 [0, 1, 2, 3, 4, 18, 19, 20, 21] (T103_67) vals lo H
noncomputable def T103_68 : List It := labAt Try.prog cfg 103 68 (fun _ => none)
noncomputable def L103_68 (vals : List AV) (lo : List Nat) (H : Heap) : Res := O.lab 103 [0, 1, 2, 3, 4, 18, 19, 20, 21, 22] (T103_68) vals lo H
noncomputable def T103_85 : List It := labAt Try.prog cfg 103 85 (fun _ => none)
noncomputable def L103_85 (vals : List AV) (lo : List Nat) (H : Heap) : Res := O.lab 103 [0, 1, 3, 4, 18, 20, 24] (T103_85) vals lo H
noncomputable def T103_89 : List It := labAt Try.prog cfg 103 89 (fun _ => none)
noncomputable def L103_89 (vals : List AV) (lo : List Nat) (H : Heap) : Res := O.lab 103 [0, 3, 4, 18, 24] (T103_89) vals lo H
theorem L103_8_eq (lo : List Nat) (v0 v1 v4 v10 v11 : AV) (H : Heap) : L103_8 [v0, v1, v4, v10, v11] lo H = (
(bin .lss .int v10 v11).bind fun x1 =>
cond x1 (
(bin .add .int v10 v11).bind fun x2 =>
(conv (.int .u64) x2).bind fun x3 =>
(bin .shr .int x3 (.p (.v (.int .u64 1)))).bind fun x4 =>
(conv (.int .i64) x4).bind fun x5 =>
(idxA 12 v0 x5).bind fun x6 =>
(ld true 12 x6 H).bind fun x7 =>
(idxA 12 v0 v1).bind fun x8 =>
(ld true 12 x8 H).bind fun x9 =>
(callV cfg O v4 [x7, x9] lo H).bind fun r10 =>
(bin .lss .int r10.1 (I 0)).bind fun x11 =>
cond x11 (
(bin .add .int x5 (I 1)).bind fun x12 =>
L103_8 [v0, v1, v4, x12, v11] lo r10.2) (
L103_8 [v0, v1, v4, v10, x5] lo r10.2)) (
L103_20 [v0, v10, v1] lo H)) := by
  show O.lab _ _ _ _ _ _ = _
  rw [O_lab]
  kernel_rfl
theorem L103_20_eq (lo : List Nat) (v0 v10 v13 : AV) (H : Heap) : L103_20 [v0, v10, v13] lo H = (
(bin .sub .int v10 (I 1)).bind fun x1 =>
(bin .lss .int v13 x1).bind fun x2 =>
cond x2 (
(bin .add .int v13 (I 1)).bind fun x3 =>
(bin .add .int v13 (I 1)).bind fun x4 =>
(idxA 12 v0 x4).bind fun x5 =>
(ld true 12 x5 H).bind fun x6 =>
(idxA 12 v0 v13).bind fun x7 =>
(ld true 12 x7 H).bind fun x8 =>
(idxA 12 v0 v13).bind fun x9 =>
((stA 12 x9 x6 lo H).map fun H' => (undefA, H')).bind fun r10 =>
(idxA 12 v0 x3).bind fun x11 =>
((stA 12 x11 x8 lo r10.2).map fun H' => (undefA, H')).bind fun r12 =>
(bin .add .int v13 (I 1)).bind fun x13 =>
L103_20 [v0, v10, x13] lo r12.2) (
leave 1 lo [] H)) := by
  show O.lab _ _ _ _ _ _ = _
  rw [O_lab]
  kernel_rfl
theorem L103_32_eq (lo : List Nat) (v0 v2 v4 v14 v15 : AV) (H : Heap) : L103_32 [v0, v2, v4, v14, v15] lo H = (
(bin .lss .int v14 v15).bind fun x1 =>
cond x1 (
(bin .add .int v14 v15).bind fun x2 =>
(conv (.int .u64) x2).bind fun x3 =>
(bin .shr .int x3 (.p (.v (.int .u64 1)))).bind fun x4 =>
(conv (.int .i64) x4).bind fun x5 =>
(idxA 12 v0 v2).bind fun x6 =>
(ld true 12 x6 H).bind fun x7 =>
(idxA 12 v0 x5).bind fun x8 =>
(ld true 12 x8 H).bind fun x9 =>
(callV cfg O v4 [x7, x9] lo H).bind fun r10 =>
(bin .lss .int r10.1 (I 0)).bind fun x11 =>
(un .not x11).bind fun x12 =>
cond x12 (
(bin .add .int x5 (I 1)).bind fun x13 =>
L103_32 [v0, v2, v4, x13, v15] lo r10.2) (
L103_32 [v0, v2, v4, v14, x5] lo r10.2)) (
L103_44 [v0, v14, v2] lo H)) := by
  show O.lab _ _ _ _ _ _ = _
  rw [O_lab]
  kernel_rfl
theorem L103_44_eq (lo : List Nat) (v0 v14 v17 : AV) (H : Heap) : L103_44 [v0, v14, v17] lo H = (
(bin .gtr .int v17 v14).bind fun x1 =>
cond x1 (
(bin .sub .int v17 (I 1)).bind fun x2 =>
(bin .sub .int v17 (I 1)).bind fun x3 =>
(idxA 12 v0 x3).bind fun x4 =>
(ld true 12 x4 H).bind fun x5 =>
(idxA 12 v0 v17).bind fun x6 =>
(ld true 12 x6 H).bind fun x7 =>
(idxA 12 v0 v17).bind fun x8 =>
((stA 12 x8 x5 lo H).map fun H' => (undefA, H')).bind fun r9 =>
(idxA 12 v0 x2).bind fun x10 =>
((stA 12 x10 x7 lo r9.2).map fun H' => (undefA, H')).bind fun r11 =>
(bin .sub .int v17 (I 1)).bind fun x12 =>
L103_44 [v0, v14, x12] lo r11.2) (
leave 1 lo [] H)) := by
  show O.lab _ _ _ _ _ _ = _
  rw [O_lab]
  kernel_rfl
theorem L103_67_eq (lo : List Nat) (v0 v1 v2 v3 v4 v18 v19 v20 v21 : AV) (H : Heap) : L103_67 [v0, v1, v2, v3, v4, v18, v19, v20, v21] lo H = (
(bin .sub .int v19 (I 1)).bind fun x1 =>
L103_68 [v0, v1, v2, v3, v4, v18, v19, v20, v21, x1] lo H) := by
  show O.lab _ _ _ _ _ _ = _
  rw [O_lab]
  kernel_rfl
theorem L103_68_eq (lo : List Nat) (v0 v1 v2 v3 v4 v18 v19 v20 v21 v22 : AV) (H : Heap) : L103_68 [v0, v1, v2, v3, v4, v18, v19, v20, v21, v22] lo H = (
(bin .lss .int v20 v21).bind fun x1 =>
cond x1 (
(bin .add .int v20 v21).bind fun x2 =>
(conv (.int .u64) x2).bind fun x3 =>
(bin .shr .int x3 (.p (.v (.int .u64 1)))).bind fun x4 =>
(conv (.int .i64) x4).bind fun x5 =>
(bin .sub .int v22 x5).bind fun x6 =>
(idxA 12 v0 x6).bind fun x7 =>
(ld true 12 x7 H).bind fun x8 =>
(idxA 12 v0 x5).bind fun x9 =>
(ld true 12 x9 H).bind fun x10 =>
(callV cfg O v4 [x8, x10] lo H).bind fun r11 =>
(bin .lss .int r11.1 (I 0)).bind fun x12 =>
(un .not x12).bind fun x13 =>
cond x13 (
(bin .add .int x5 (I 1)).bind fun x14 =>
L103_68 [v0, v1, v2, v3, v4, v18, v19, x14, v21, v22] lo r11.2) (
L103_68 [v0, v1, v2, v3, v4, v18, v19, v20, x5, v22] lo r11.2)) (
(bin .sub .int v19 v20).bind fun x15 =>
(bin .lss .int v20 v2).bind fun x16 =>
(gd x16 true (some v2)).bind fun x17 =>
(gd x16 true (some x15)).bind fun x18 =>
(gd x16 true (bin .lss .int x17 x18)).bind fun x19 =>
(pickA x16 x19 (B false)).bind fun x20 =>
cond x20 (
(callA cfg O 126 [v0, v20, v2, x15, v4] lo H).bind fun r21 =>
L103_85 [v0, v1, v3, v4, v18, v20, x15] lo r21.2) (
L103_85 [v0, v1, v3, v4, v18, v20, x15] lo H))) := by
  show O.lab _ _ _ _ _ _ = _
  rw [O_lab]
  kernel_rfl
theorem L103_85_eq (lo : List Nat) (v0 v1 v3 v4 v18 v20 v24 : AV) (H : Heap) : L103_85 [v0, v1, v3, v4, v18, v20, v24] lo H = (
(bin .lss .int v1 v20).bind fun x1 =>
(gd x1 true (some v20)).bind fun x2 =>
(gd x1 true (some v18)).bind fun x3 =>
(gd x1 true (bin .lss .int x2 x3)).bind fun x4 =>
(pickA x1 x4 (B false)).bind fun x5 =>
cond x5 (
(callA cfg O 103 [v0, v1, v20, v18, v4] lo H).bind fun r6 =>
L103_89 [v0, v3, v4, v18, v24] lo r6.2) (
L103_89 [v0, v3, v4, v18, v24] lo H)) := by
  show O.lab _ _ _ _ _ _ = _
  rw [O_lab]
  kernel_rfl
theorem L103_89_eq (lo : List Nat) (v0 v3 v4 v18 v24 : AV) (H : Heap) : L103_89 [v0, v3, v4, v18, v24] lo H = (
(bin .lss .int v18 v24).bind fun x1 =>
(gd x1 true (some v24)).bind fun x2 =>
(gd x1 true (some v3)).bind fun x3 =>
(gd x1 true (bin .lss .int x2 x3)).bind fun x4 =>
(pickA x1 x4 (B false)).bind fun x5 =>
cond x5 (
(callA cfg O 103 [v0, v18, v24, v3, v4] lo H).bind fun r6 =>
leave 1 lo [] r6.2) (
leave 1 lo [] H)) := by
  show O.lab _ _ _ _ _ _ = _
  rw [O_lab]
  kernel_rfl
theorem f103_eq (a0 a1 a2 a3 a4 : AV) (lo : List Nat) (H : Heap) : O.ent 103 [a0, a1, a2, a3, a4] lo H = (
(bin .sub .int a2 a1).bind fun x1 =>
(bin .eql .int x1 (I 1)).bind fun x2 =>
cond x2 (
L103_8 [a0, a1, a4, a2, a3] lo H) (
(bin .sub .int a3 a2).bind fun x3 =>
(bin .eql .int x3 (I 1)).bind fun x4 =>
cond x4 (
L103_32 [a0, a2, a4, a1, a2] lo H) (
(bin .add .int a1 a3).bind fun x5 =>
(conv (.int .u64) x5).bind fun x6 =>
(bin .shr .int x6 (.p (.v (.int .u64 1)))).bind fun x7 =>
(conv (.int .i64) x7).bind fun x8 =>
(bin .add .int x8 a2).bind fun x9 =>
(bin .gtr .int a2 x8).bind fun x10 =>
cond x10 (
(bin .sub .int x9 a3).bind fun x11 =>
L103_67 [a0, a1, a2, a3, a4, x8, x9, x11, x8] lo H) (
L103_67 [a0, a1, a2, a3, a4, x8, x9, a1, a2] lo H)))) := by
  rw [O_ent]
  kernel_rfl
-- slices.rotateCmpFunc[backstitch/api.Event]
noncomputable def T126_6 : List It := labAt Try.prog cfg 126 6 (fun _ => none)
noncomputable def L126_6 (vals : List AV) (lo : List Nat) (H : Heap) : Res := O.lab 126 [0, 2, 4, 10, 11] (T126_6) vals lo H
theorem L126_6_eq (lo : List Nat) (v0 v2 v4 v10 v11 : AV) (H : Heap) : L126_6 [v0, v2, v4, v10, v11] lo H = (
(bin .neq .int v10 v11).bind fun x1 =>
cond x1 (
(bin .gtr .int v10 v11).bind fun x2 =>
cond x2 (
(bin .sub .int v2 v10).bind fun x3 =>
(callA cfg O 143 [v0, x3, v2, v11, v4] lo H).bind fun r4 =>
(bin .sub .int v10 v11).bind fun x5 =>
L126_6 [v0, v2, v4, x5, v11] lo r4.2) (
(bin .sub .int v2 v10).bind fun x6 =>
(bin .add .int v2 v11).bind fun x7 =>
(bin .sub .int x7 v10).bind fun x8 =>
(callA cfg O 143 [v0, x6, x8, v10, v4] lo H).bind fun r9 =>
(bin .sub .int v11 v10).bind fun x10 =>
L126_6 [v0, v2, v4, v10, x10] lo r9.2)) (
(bin .sub .int v2 v10).bind fun x11 =>
(callA cfg O 143 [v0, x11, v2, v10, v4] lo H).bind fun r12 =>
leave 1 lo [] r12.2)) := by
  show O.lab _ _ _ _ _ _ = _
  rw [O_lab]
  kernel_rfl
theorem f126_eq (a0 a1 a2 a3 a4 : AV) (lo : List Nat) (H : Heap) : O.ent 126 [a0, a1, a2, a3, a4] lo H = (
(bin .sub .int a2 a1).bind fun x1 =>
(bin .sub .int a3 a2).bind fun x2 =>
L126_6 [a0, a2, a4, x1, x2] lo H) := by
  rw [O_ent]
  kernel_rfl
-- slices.swapRangeCmpFunc[backstitch/api.Event]
noncomputable def T143_4 : List It := labAt Try.prog cfg 143 4 (fun _ => none)
noncomputable def L143_4 (vals : List AV) (lo : List Nat) (H : Heap) : Res := O.lab 143 [0, 1, 2, 3, 10] (T143_4) vals lo H
theorem L143_4_eq (lo : List Nat) (v0 v1 v2 v3 v10 : AV) (H : Heap) : L143_4 [v0, v1, v2, v3, v10] lo H = (
(bin .lss .int v10 v3).bind fun x1 =>
cond x1 (
(bin .add .int v1 v10).bind fun x2 =>
(bin .add .int v2 v10).bind fun x3 =>
(bin .add .int v2 v10).bind fun x4 =>
(idxA 12 v0 x4).bind fun x5 =>
(ld true 12 x5 H).bind fun x6 =>
(bin .add .int v1 v10).bind fun x7 =>
(idxA 12 v0 x7).bind fun x8 =>
(ld true 12 x8 H).bind fun x9 =>
(idxA 12 v0 x2).bind fun x10 =>
((stA 12 x10 x6 lo H).map fun H' => (undefA, H')).bind fun r11 =>
(idxA 12 v0 x3).bind fun x12 =>
((stA 12 x12 x9 lo r11.2).map fun H' => (undefA, H')).bind fun r13 =>
(bin .add .int v10 (I 1)).bind fun x14 =>
L143_4 [v0, v1, v2, v3, x14] lo r13.2) (
leave 1 lo [] H)) := by
  show O.lab _ _ _ _ _ _ = _
  rw [O_lab]
  kernel_rfl
theorem f143_eq (a0 a1 a2 a3 a4 : AV) (lo : List Nat) (H : Heap) : O.ent 143 [a0, a1, a2, a3, a4] lo H = (
L143_4 [a0, a1, a2, a3, I 0] lo H) := by
  rw [O_ent]
  kernel_rfl
end Go.Proofs.Ytcgahlekjfemfaa
