import Derived.Test.YtkhbbjfdbbnojaaCf
set_option linter.unusedVariables false
set_option maxRecDepth 100000
namespace Go.Proofs.Ytkhbbjfdbbnojaa
open Go Go.AM
-- backstitch/backstitchlaw4.ClocksTell
noncomputable def T13_21 : List It := labAt Try.prog cfg 13 21 (fun _ => none)
noncomputable def L13_21 (vals : List AV) (lo : List Nat) (H : Heap) : Res := O.lab 13 [0, 1, 2, 3, 9, 10, 11, 12, 13, 14, 15, 16] (T13_21) vals lo H
noncomputable def T13_29 : List It := labAt Try.prog cfg 13 29 (fun _ => none)
noncomputable def L13_29 (vals : List AV) (lo : List Nat) (H : Heap) : Res := O.lab 13 [0, 1, 9, 10, 11, 12, 13, 14, 15, 16, 17, 18] (T13_29) vals lo H
noncomputable def T13_34 : List It := labAt Try.prog cfg 13 34 (fun _ => none)
noncomputable def L13_34 (vals : List AV) (lo : List Nat) (H : Heap) : Res := O.lab 13 [0, 1, 9, 10, 11, 12, 13, 14, 15, 16, 17, 18, 19] (T13_34) vals lo H
noncomputable def T13_44 : List It := labAt Try.prog cfg 13 44 (fun _ => none)
noncomputable def L13_44 (vals : List AV) (lo : List Nat) (H : Heap) : Res := O.lab 13 [0, 1, 9, 10, 11, 12, 13, 14, 15, 16, 17, 18, 19, 20, 21, 22] (T13_44) vals lo H
noncomputable def T13_47 : List It := labAt Try.prog cfg 13 47 (fun _ => none)
noncomputable def L13_47 (vals : List AV) (lo : List Nat) (H : Heap) : Res := O.lab 13 [0, 1, 9, 10, 11, 12, 13, 14, 15, 16, 17, 18, 19, 20, 21, 22] (T13_47) vals lo H
theorem L13_21_eq (lo : List Nat) (v0 v1 v2 v3 v9 v10 v11 v12 v13 v14 v15 v16 : AV) (H : Heap) : L13_21 [v0, v1, v2, v3, v9, v10, v11, v12, v13, v14, v15, v16] lo H = (
(bin .eql .int v16 (I 0)).bind fun x1 =>
cond x1 (
(callA cfg O 78 [v0, v3] lo H).bind fun r2 =>
(idxA 1 r2.1 v2).bind fun x3 =>
(ld false 1 x3 r2.2).bind fun x4 =>
(bin .neq .int v2 v3).bind fun x5 =>
(gd x5 true (some x4)).bind fun x6 =>
(gd x5 true (un .not x6)).bind fun x7 =>
(pickA x5 x7 (B false)).bind fun x8 =>
(gd x8 true (some v0)).bind fun x9 =>
(gd x8 true (some v2)).bind fun x10 =>
(gdH x8 true (callA cfg O 78 [x9, x10] lo r2.2) r2.2).bind fun r11 =>
(gd x8 true (some v3)).bind fun x12 =>
(gd x8 true (idxA 1 r11.1 x12)).bind fun x13 =>
(gd x8 true (ld false 1 x13 r11.2)).bind fun x14 =>
(gd x8 true (un .not x14)).bind fun x15 =>
(pickA x8 x15 (B false)).bind fun x16 =>
L13_29 [v0, v1, v9, v10, v11, v12, v13, v14, v15, v16, x4, x16] lo r11.2) (
L13_29 [v0, v1, v9, v10, v11, v12, v13, v14, v15, v16, B false, B false] lo H)) := by
  show O.lab _ _ _ _ _ _ = _
  rw [O_lab]
  kernel_rfl
theorem L13_29_eq (lo : List Nat) (v0 v1 v9 v10 v11 v12 v13 v14 v15 v16 v17 v18 : AV) (H : Heap) : L13_29 [v0, v1, v9, v10, v11, v12, v13, v14, v15, v16, v17, v18] lo H = (
(bin .neq .int v15 (I 0)).bind fun x1 =>
(gd x1 true (some v9)).bind fun x2 =>
(gd x1 true (lenA .slice x2 H)).bind fun x3 =>
(gd x1 true (bin .gtr .int x3 (I 0))).bind fun x4 =>
(pickA x1 x4 (B false)).bind fun x5 =>
(gd x5 false (some v15)).bind fun x6 =>
(gd x5 false (bin .eql .int x6 (I 0))).bind fun x7 =>
(gd x5 false (some x7)).bind fun x8 =>
(gd x8 true (some v9)).bind fun x9 =>
(gd x8 true (lenA .slice x9 H)).bind fun x10 =>
(gd x8 true (some v0)).bind fun x11 =>
(gd x8 true (lenA .slice x11 H)).bind fun x12 =>
(gd x8 true (bin .neq .int x10 x12)).bind fun x13 =>
(gd x5 false (pickA x8 x13 (B false))).bind fun x14 =>
(pickA x5 (B true) x14).bind fun x15 =>
cond x15 (
leave 0 lo [B false] H) (
L13_34 [v0, v1, v9, v10, v11, v12, v13, v14, v15, v16, v17, v18, I 0] lo H)) := by
  show O.lab _ _ _ _ _ _ = _
  rw [O_lab]
  kernel_rfl
theorem L13_34_eq (lo : List Nat) (v0 v1 v9 v10 v11 v12 v13 v14 v15 v16 v17 v18 v19 : AV) (H : Heap) : L13_34 [v0, v1, v9, v10, v11, v12, v13, v14, v15, v16, v17, v18, v19] lo H = (
(lenA .slice v9 H).bind fun x1 =>
(bin .lss .int v19 x1).bind fun x2 =>
cond x2 (
(callA cfg O 78 [v0, v19] lo H).bind fun r3 =>
(mkRow 1 8 [(.v (.int .i64 0))] v1 v1 r3.2).bind fun r4 =>
L13_44 [v0, v1, v9, v10, v11, v12, v13, v14, v15, v16, v17, v18, v19, r3.1, r4.1, I 0] lo r4.2) (
(bin .eql .int v10 v15).bind fun x5 =>
(gd x5 true (some v11)).bind fun x6 =>
(gd x5 true (some v17)).bind fun x7 =>
(gd x5 true (bin .eql .bool x6 x7)).bind fun x8 =>
(pickA x5 x8 (B false)).bind fun x9 =>
(gd x9 true (some v12)).bind fun x10 =>
(gd x9 true (some v16)).bind fun x11 =>
(gd x9 true (bin .eql .int x10 x11)).bind fun x12 =>
(pickA x9 x12 (B false)).bind fun x13 =>
(gd x13 true (some v13)).bind fun x14 =>
(gd x13 true (some v18)).bind fun x15 =>
(gd x13 true (bin .eql .bool x14 x15)).bind fun x16 =>
(pickA x13 x16 (B false)).bind fun x17 =>
(gd x17 true (some v14)).bind fun x18 =>
(gd x17 true (some v16)).bind fun x19 =>
(gd x17 true (bin .eql .int x18 x19)).bind fun x20 =>
(pickA x17 x20 (B false)).bind fun x21 =>
leave 0 lo [x21] H)) := by
  show O.lab _ _ _ _ _ _ = _
  rw [O_lab]
  kernel_rfl
theorem L13_44_eq (lo : List Nat) (v0 v1 v9 v10 v11 v12 v13 v14 v15 v16 v17 v18 v19 v20 v21 v22 : AV) (H : Heap) : L13_44 [v0, v1, v9, v10, v11, v12, v13, v14, v15, v16, v17, v18, v19, v20, v21, v22] lo H = (
(lenA .slice v0 H).bind fun x1 =>
(bin .lss .int v22 x1).bind fun x2 =>
cond x2 (
(idxA 1 v20 v22).bind fun x3 =>
(ld false 1 x3 H).bind fun x4 =>
(gd x4 false (some v22)).bind fun x5 =>
(gd x4 false (some v19)).bind fun x6 =>
(gd x4 false (bin .eql .int x5 x6)).bind fun x7 =>
(pickA x4 (B true) x7).bind fun x8 =>
cond x8 (
(idxA 12 v0 v22).bind fun x9 =>
(fldA 2 x9).bind fun x10 =>
(ld false 1 x10 H).bind fun x11 =>
(idxA 1 v21 x11).bind fun x12 =>
(ld false 1 x12 H).bind fun x13 =>
(bin .add .int x13 (I 1)).bind fun x14 =>
(idxA 1 v21 x11).bind fun x15 =>
((stA 1 x15 x14 lo H).map fun H' => (undefA, H')).bind fun r16 =>
L13_47 [v0, v1, v9, v10, v11, v12, v13, v14, v15, v16, v17, v18, v19, v20, v21, v22] lo r16.2) (
L13_47 [v0, v1, v9, v10, v11, v12, v13, v14, v15, v16, v17, v18, v19, v20, v21, v22] lo H)) (
(idxA 1 v9 v19).bind fun x17 =>
(ld false 1 x17 H).bind fun x18 =>
(callA cfg O 23 [x18, v21] lo H).bind fun r19 =>
(un .not r19.1).bind fun x20 =>
cond x20 (
leave 0 lo [B false] r19.2) (
(bin .add .int v19 (I 1)).bind fun x21 =>
L13_34 [v0, v1, v9, v10, v11, v12, v13, v14, v15, v16, v17, v18, x21] lo r19.2))) := by
  show O.lab _ _ _ _ _ _ = _
  rw [O_lab]
  kernel_rfl
theorem L13_47_eq (lo : List Nat) (v0 v1 v9 v10 v11 v12 v13 v14 v15 v16 v17 v18 v19 v20 v21 v22 : AV) (H : Heap) : L13_47 [v0, v1, v9, v10, v11, v12, v13, v14, v15, v16, v17, v18, v19, v20, v21, v22] lo H = (
(bin .add .int v22 (I 1)).bind fun x1 =>
L13_44 [v0, v1, v9, v10, v11, v12, v13, v14, v15, v16, v17, v18, v19, v20, v21, x1] lo H) := by
  show O.lab _ _ _ _ _ _ = _
  rw [O_lab]
  kernel_rfl
theorem f13_eq (a0 a1 a2 a3 : AV) : O.ent 13 [a0, a1, a2, a3] [] [] = (
(callA cfg O 64 [a0, I 40] [] []).bind fun r1 =>
(callA cfg O 75 [r1.1, a1] [] r1.2).bind fun r2 =>
(extractA r2.1 0).bind fun x3 =>
(extractA r2.1 1).bind fun x4 =>
(callA cfg O 76 [r1.1, a1, a2, a3] [] r2.2).bind fun r5 =>
(extractA r5.1 0).bind fun x6 =>
(extractA r5.1 1).bind fun x7 =>
(callA cfg O 77 [r1.1, a1, a2, a3] [] r5.2).bind fun r8 =>
(extractA r8.1 0).bind fun x9 =>
(extractA r8.1 1).bind fun x10 =>
(callA cfg O 73 [r1.1, a1] [] r8.2).bind fun r11 =>
(bin .eql .int r11.1 (I 0)).bind fun x12 =>
(gd x12 true (some a2)).bind fun x13 =>
(gd x12 true (bin .lss .int x13 (I 0))).bind fun x14 =>
(gd x12 true (some x14)).bind fun x15 =>
(gd x15 false (some a2)).bind fun x16 =>
(gd x15 false (some r1.1)).bind fun x17 =>
(gd x15 false (lenA .slice x17 r11.2)).bind fun x18 =>
(gd x15 false (bin .geq .int x16 x18)).bind fun x19 =>
(gd x12 true (pickA x15 (B true) x19)).bind fun x20 =>
(gd x12 true (some x20)).bind fun x21 =>
(gd x21 false (some a3)).bind fun x22 =>
(gd x21 false (bin .lss .int x22 (I 0))).bind fun x23 =>
(gd x12 true (pickA x21 (B true) x23)).bind fun x24 =>
(gd x12 true (some x24)).bind fun x25 =>
(gd x25 false (some a3)).bind fun x26 =>
(gd x25 false (some r1.1)).bind fun x27 =>
(gd x25 false (lenA .slice x27 r11.2)).bind fun x28 =>
(gd x25 false (bin .geq .int x26 x28)).bind fun x29 =>
(gd x12 true (pickA x25 (B true) x29)).bind fun x30 =>
(pickA x12 x30 (B false)).bind fun x31 =>
cond x31 (
L13_21 [r1.1, a1, a2, a3, x3, x4, x6, x7, x9, x10, r11.1, I 1] [] r11.2) (
L13_21 [r1.1, a1, a2, a3, x3, x4, x6, x7, x9, x10, r11.1, r11.1] [] r11.2)) := by
  rw [O_ent]
  kernel_rfl
-- backstitch/backstitchref4.SameInts
noncomputable def T23_10 : List It := labAt Try.prog cfg 23 10 (fun _ => none)
noncomputable def L23_10 (vals : List AV) (lo : List Nat) (H : Heap) : Res := O.lab 23 [0, 1, 5] (T23_10) vals lo H
theorem L23_10_eq (lo : List Nat) (v0 v1 v5 : AV) (H : Heap) : L23_10 [v0, v1, v5] lo H = (
(lenA .slice v0 H).bind fun x1 =>
(bin .lss .int v5 x1).bind fun x2 =>
cond x2 (
(idxA 1 v0 v5).bind fun x3 =>
(ld false 1 x3 H).bind fun x4 =>
(idxA 1 v1 v5).bind fun x5 =>
(ld false 1 x5 H).bind fun x6 =>
(bin .neq .int x4 x6).bind fun x7 =>
cond x7 (
leave 0 lo [B false] H) (
(bin .add .int v5 (I 1)).bind fun x8 =>
L23_10 [v0, v1, x8] lo H)) (
leave 0 lo [B true] H)) := by
  show O.lab _ _ _ _ _ _ = _
  rw [O_lab]
  kernel_rfl
theorem f23_eq (a0 a1 : AV) : O.ent 23 [a0, a1] [] [] = (
(lenA .slice a0 []).bind fun x1 =>
(lenA .slice a1 []).bind fun x2 =>
(bin .neq .int x1 x2).bind fun x3 =>
cond x3 (
leave 0 [] [B false] []) (
L23_10 [a0, a1, I 0] [] [])) := by
  rw [O_ent]
  kernel_rfl
-- backstitch/clocks.Of
theorem f75_eq (a0 a1 : AV) : O.ent 75 [a0, a1] [] [] = (
(callA cfg O 127 [a0, a1] [] []).bind fun r1 =>
(bin .neq .int r1.1 (I 0)).bind fun x2 =>
cond x2 (
leave 0 [] [.p nilS, r1.1] r1.2) (
(callA cfg O 129 [a0, a1] [] r1.2).bind fun r3 =>
leave 0 [] [r3.1, I 0] r3.2)) := by
  rw [O_ent]
  kernel_rfl
-- backstitch/clocks.Before
theorem f76_eq (a0 a1 a2 a3 : AV) : O.ent 76 [a0, a1, a2, a3] [] [] = (
(callA cfg O 130 [a0, a1, a2, a3] [] []).bind fun r1 =>
(bin .neq .int r1.1 (I 0)).bind fun x2 =>
cond x2 (
leave 0 [] [B false, r1.1] r1.2) (
(callA cfg O 129 [a0, a1] [] r1.2).bind fun r3 =>
(callA cfg O 131 [a0, r3.1, a2, a3] [] r3.2).bind fun r4 =>
leave 0 [] [r4.1, I 0] r4.2)) := by
  rw [O_ent]
  kernel_rfl
-- backstitch/clocks.Apart
theorem f77_eq (a0 a1 a2 a3 : AV) : O.ent 77 [a0, a1, a2, a3] [] [] = (
(callA cfg O 130 [a0, a1, a2, a3] [] []).bind fun r1 =>
(bin .neq .int r1.1 (I 0)).bind fun x2 =>
cond x2 (
leave 0 [] [B false, r1.1] r1.2) (
(callA cfg O 129 [a0, a1] [] r1.2).bind fun r3 =>
(bin .neq .int a2 a3).bind fun x4 =>
(gd x4 true (some a0)).bind fun x5 =>
(gd x4 true (some r3.1)).bind fun x6 =>
(gd x4 true (some a2)).bind fun x7 =>
(gd x4 true (some a3)).bind fun x8 =>
(gdH x4 true (callA cfg O 131 [x5, x6, x7, x8] [] r3.2) r3.2).bind fun r9 =>
(gd x4 true (un .not r9.1)).bind fun x10 =>
(pickA x4 x10 (B false)).bind fun x11 =>
(gd x11 true (some a0)).bind fun x12 =>
(gd x11 true (some r3.1)).bind fun x13 =>
(gd x11 true (some a3)).bind fun x14 =>
(gd x11 true (some a2)).bind fun x15 =>
(gdH x11 true (callA cfg O 131 [x12, x13, x14, x15] [] r9.2) r9.2).bind fun r16 =>
(gd x11 true (un .not r16.1)).bind fun x17 =>
(pickA x11 x17 (B false)).bind fun x18 =>
leave 0 [] [x18, I 0] r16.2)) := by
  rw [O_ent]
  kernel_rfl
-- backstitch/backstitchref4.ClockAhead
noncomputable def T78_12 : List It := labAt Try.prog cfg 78 12 (fun _ => none)
noncomputable def L78_12 (vals : List AV) (lo : List Nat) (H : Heap) : Res := O.lab 78 [0, 5, 6, 7] (T78_12) vals lo H
noncomputable def T78_15 : List It := labAt Try.prog cfg 78 15 (fun _ => none)
noncomputable def L78_15 (vals : List AV) (lo : List Nat) (H : Heap) : Res := O.lab 78 [0, 5, 6, 7] (T78_15) vals lo H
noncomputable def T78_20 : List It := labAt Try.prog cfg 78 20 (fun _ => none)
noncomputable def L78_20 (vals : List AV) (lo : List Nat) (H : Heap) : Res := O.lab 78 [0, 5, 6, 7, 8] (T78_20) vals lo H
noncomputable def T78_23 : List It := labAt Try.prog cfg 78 23 (fun _ => none)
noncomputable def L78_23 (vals : List AV) (lo : List Nat) (H : Heap) : Res := O.lab 78 [0, 5, 6, 7, 8] (T78_23) vals lo H
theorem L78_12_eq (lo : List Nat) (v0 v5 v6 v7 : AV) (H : Heap) : L78_12 [v0, v5, v6, v7] lo H = (
(bin .geq .int v7 (I 0)).bind fun x1 =>
cond x1 (
(idxA 1 v6 v7).bind fun x2 =>
(ld false 1 x2 H).bind fun x3 =>
(un .not x3).bind fun x4 =>
cond x4 (
L78_15 [v0, v5, v6, v7] lo H) (
L78_20 [v0, v5, v6, v7, I 0] lo H)) (
leave 0 lo [v5] H)) := by
  show O.lab _ _ _ _ _ _ = _
  rw [O_lab]
  kernel_rfl
theorem L78_15_eq (lo : List Nat) (v0 v5 v6 v7 : AV) (H : Heap) : L78_15 [v0, v5, v6, v7] lo H = (
(bin .sub .int v7 (I 1)).bind fun x1 =>
L78_12 [v0, v5, v6, x1] lo H) := by
  show O.lab _ _ _ _ _ _ = _
  rw [O_lab]
  kernel_rfl
theorem L78_20_eq (lo : List Nat) (v0 v5 v6 v7 v8 : AV) (H : Heap) : L78_20 [v0, v5, v6, v7, v8] lo H = (
(bin .lss .int v8 v7).bind fun x1 =>
cond x1 (
(callA cfg O 74 [v0, v8, v7] lo H).bind fun r2 =>
cond r2.1 (
(idxA 1 v6 v8).bind fun x3 =>
((stA 1 x3 (B true) lo r2.2).map fun H' => (undefA, H')).bind fun r4 =>
(idxA 1 v5 v8).bind fun x5 =>
((stA 1 x5 (B true) lo r4.2).map fun H' => (undefA, H')).bind fun r6 =>
L78_23 [v0, v5, v6, v7, v8] lo r6.2) (
L78_23 [v0, v5, v6, v7, v8] lo r2.2)) (
L78_15 [v0, v5, v6, v7] lo H)) := by
  show O.lab _ _ _ _ _ _ = _
  rw [O_lab]
  kernel_rfl
theorem L78_23_eq (lo : List Nat) (v0 v5 v6 v7 v8 : AV) (H : Heap) : L78_23 [v0, v5, v6, v7, v8] lo H = (
(bin .add .int v8 (I 1)).bind fun x1 =>
L78_20 [v0, v5, v6, v7, x1] lo H) := by
  show O.lab _ _ _ _ _ _ = _
  rw [O_lab]
  kernel_rfl
theorem f78_eq (a0 a1 : AV) : O.ent 78 [a0, a1] [] [] = (
(lenA .slice a0 []).bind fun x1 =>
(mkRow 1 1 [(.v (.bool false))] x1 x1 []).bind fun r2 =>
(lenA .slice a0 r2.2).bind fun x3 =>
(mkRow 1 1 [(.v (.bool false))] x3 x3 r2.2).bind fun r4 =>
(idxA 1 r4.1 a1).bind fun x5 =>
((stA 1 x5 (B true) [] r4.2).map fun H' => (undefA, H')).bind fun r6 =>
L78_12 [a0, r2.1, r4.1, a1] [] r6.2) := by
  rw [O_ent]
  kernel_rfl
-- backstitch/clocks.clocks
noncomputable def T129_8 : List It := labAt Try.prog cfg 129 8 (fun _ => none)
noncomputable def L129_8 (vals : List AV) (lo : List Nat) (H : Heap) : Res := O.lab 129 [0, 1, 5, 16, 17] (T129_8) vals lo H
noncomputable def T129_20 : List It := labAt Try.prog cfg 129 20 (fun _ => none)
noncomputable def L129_20 (vals : List AV) (lo : List Nat) (H : Heap) : Res := O.lab 129 [5, 7, 28, 29, 30] (T129_20) vals lo H
noncomputable def T129_24 : List It := labAt Try.prog cfg 129 24 (fun _ => none)
noncomputable def L129_24 (vals : List AV) (lo : List Nat) (H : Heap) : Res := O.lab 129 [5, 7, 8, 9, 28, 29, 30] (T129_24) vals lo H
noncomputable def T129_28 : List It := labAt Try.prog cfg 129 28 (fun _ => none)
noncomputable def L129_28 (vals : List AV) (lo : List Nat) (H : Heap) : Res := O.lab 129 [5, 7, 8, 9, 28, 29, 30, 52, 53, 54] (T129_28) vals lo H
theorem L129_8_eq (lo : List Nat) (v0 v1 v5 v16 v17 : AV) (H : Heap) : L129_8 [v0, v1, v5, v16, v17] lo H = (
(bin .lss .int v17 v16).bind fun x1 =>
cond x1 (
(mkRow 1 8 [(.v (.int .i64 0))] v1 v1 H).bind fun r2 =>
(idxA 1 v5 v17).bind fun x3 =>
((stA 1 x3 r2.1 lo r2.2).map fun H' => (undefA, H')).bind fun r4 =>
(bin .add .int v17 (I 1)).bind fun x5 =>
L129_8 [v0, v1, v5, v16, x5] lo r4.2) (
(callA cfg O 128 [v0] lo H).bind fun r6 =>
(lenA .slice v0 r6.2).bind fun x7 =>
L129_20 [v5, r6.1, v0, x7, I 0] lo r6.2)) := by
  show O.lab _ _ _ _ _ _ = _
  rw [O_lab]
  kernel_rfl
theorem L129_20_eq (lo : List Nat) (v5 v7 v28 v29 v30 : AV) (H : Heap) : L129_20 [v5, v7, v28, v29, v30] lo H = (
(bin .lss .int v30 v29).bind fun x1 =>
cond x1 (
(idxA 12 v28 v30).bind fun x2 =>
(ld true 12 x2 H).bind fun x3 =>
(boxO [] [(I 0), (I 0), (I 0), (I 0), (I 0), (I 0), (I 0), (I 0), (I 0), (I 0), (I 0), (I 0)] H).bind fun r4 =>
((stA 12 r4.1 x3 lo r4.2).map fun H' => (undefA, H')).bind fun r5 =>
L129_24 [v5, v7, v30, r4.1, v28, v29, v30] lo r5.2) (
leave 0 lo [v5] H)) := by
  show O.lab _ _ _ _ _ _ = _
  rw [O_lab]
  kernel_rfl
theorem L129_24_eq (lo : List Nat) (v5 v7 v8 v9 v28 v29 v30 : AV) (H : Heap) : L129_24 [v5, v7, v8, v9, v28, v29, v30] lo H = (
(lenA .slice v7 H).bind fun x1 =>
(bin .gtr .int x1 (I 0)).bind fun x2 =>
(gd x2 true (some v7)).bind fun x3 =>
(gd x2 true (idxA 2 x3 (I 0))).bind fun x4 =>
(gd x2 true (fldA 1 x4)).bind fun x5 =>
(gd x2 true (ld false 1 x5 H)).bind fun x6 =>
(gd x2 true (some v8)).bind fun x7 =>
(gd x2 true (bin .eql .int x6 x7)).bind fun x8 =>
(pickA x2 x8 (B false)).bind fun x9 =>
cond x9 (
(idxA 2 v7 (I 0)).bind fun x10 =>
(fldA 0 x10).bind fun x11 =>
(ld false 1 x11 H).bind fun x12 =>
(idxA 1 v5 x12).bind fun x13 =>
(ld false 1 x13 H).bind fun x14 =>
(lenA .slice x14 H).bind fun x15 =>
L129_28 [v5, v7, v8, v9, v28, v29, v30, x14, x15, I 0] lo H) (
(idxA 1 v5 v8).bind fun x16 =>
(ld false 1 x16 H).bind fun x17 =>
(fldA 2 v9).bind fun x18 =>
(ld false 1 x18 H).bind fun x19 =>
(idxA 1 x17 x19).bind fun x20 =>
(ld false 1 x20 H).bind fun x21 =>
(bin .add .int x21 (I 1)).bind fun x22 =>
(idxA 1 x17 x19).bind fun x23 =>
((stA 1 x23 x22 lo H).map fun H' => (undefA, H')).bind fun r24 =>
(bin .add .int v30 (I 1)).bind fun x25 =>
L129_20 [v5, v7, v28, v29, x25] lo r24.2)) := by
  show O.lab _ _ _ _ _ _ = _
  rw [O_lab]
  kernel_rfl
theorem L129_28_eq (lo : List Nat) (v5 v7 v8 v9 v28 v29 v30 v52 v53 v54 : AV) (H : Heap) : L129_28 [v5, v7, v8, v9, v28, v29, v30, v52, v53, v54] lo H = (
(bin .lss .int v54 v53).bind fun x1 =>
cond x1 (
(idxA 1 v52 v54).bind fun x2 =>
(ld false 1 x2 H).bind fun x3 =>
(idxA 1 v5 v8).bind fun x4 =>
(ld false 1 x4 H).bind fun x5 =>
(idxA 1 v5 v8).bind fun x6 =>
(ld false 1 x6 H).bind fun x7 =>
(idxA 1 x7 v54).bind fun x8 =>
(ld false 1 x8 H).bind fun x9 =>
(bests true x9 [x3]).bind fun x10 =>
(idxA 1 x5 v54).bind fun x11 =>
((stA 1 x11 x10 lo H).map fun H' => (undefA, H')).bind fun r12 =>
(bin .add .int v54 (I 1)).bind fun x13 =>
L129_28 [v5, v7, v8, v9, v28, v29, v30, v52, v53, x13] lo r12.2) (
(cutA 2 v7 (some (I 1)) none none H).bind fun x14 =>
L129_24 [v5, x14, v8, v9, v28, v29, v30] lo H)) := by
  show O.lab _ _ _ _ _ _ = _
  rw [O_lab]
  kernel_rfl
theorem f129_eq (a0 a1 : AV) : O.ent 129 [a0, a1] [] [] = (
(lenA .slice a0 []).bind fun x1 =>
(mkBsl 1 24 [nilS] x1 x1 []).bind fun r2 =>
(lenA .slice a0 r2.2).bind fun x3 =>
L129_8 [a0, a1, r2.1, x3, I 0] [] r2.2) := by
  rw [O_ent]
  kernel_rfl
-- backstitch/clocks.pair
noncomputable def T130_11 : List It := labAt Try.prog cfg 130 11 (fun _ => none)
noncomputable def L130_11 (vals : List AV) (lo : List Nat) (H : Heap) : Res := O.lab 130 [9] (T130_11) vals lo H
theorem L130_11_eq (lo : List Nat) (v9 : AV) (H : Heap) : L130_11 [v9] lo H = (
leave 0 lo [v9] H) := by
  show O.lab _ _ _ _ _ _ = _
  rw [O_lab]
  kernel_rfl
theorem f130_eq (a0 a1 a2 a3 : AV) : O.ent 130 [a0, a1, a2, a3] [] [] = (
(callA cfg O 127 [a0, a1] [] []).bind fun r1 =>
(bin .eql .int r1.1 (I 0)).bind fun x2 =>
(gd x2 true (some a2)).bind fun x3 =>
(gd x2 true (bin .lss .int x3 (I 0))).bind fun x4 =>
(gd x2 true (some x4)).bind fun x5 =>
(gd x5 false (some a2)).bind fun x6 =>
(gd x5 false (some a0)).bind fun x7 =>
(gd x5 false (lenA .slice x7 r1.2)).bind fun x8 =>
(gd x5 false (bin .geq .int x6 x8)).bind fun x9 =>
(gd x2 true (pickA x5 (B true) x9)).bind fun x10 =>
(gd x2 true (some x10)).bind fun x11 =>
(gd x11 false (some a3)).bind fun x12 =>
(gd x11 false (bin .lss .int x12 (I 0))).bind fun x13 =>
(gd x2 true (pickA x11 (B true) x13)).bind fun x14 =>
(gd x2 true (some x14)).bind fun x15 =>
(gd x15 false (some a3)).bind fun x16 =>
(gd x15 false (some a0)).bind fun x17 =>
(gd x15 false (lenA .slice x17 r1.2)).bind fun x18 =>
(gd x15 false (bin .geq .int x16 x18)).bind fun x19 =>
(gd x2 true (pickA x15 (B true) x19)).bind fun x20 =>
(pickA x2 x20 (B false)).bind fun x21 =>
cond x21 (
L130_11 [I 1] [] r1.2) (
L130_11 [r1.1] [] r1.2)) := by
  rw [O_ent]
  kernel_rfl
-- backstitch/clocks.before
theorem f131_eq (a0 a1 a2 a3 : AV) : O.ent 131 [a0, a1, a2, a3] [] [] = (
(idxA 12 a0 a2).bind fun x1 =>
(fldA 2 x1).bind fun x2 =>
(ld false 1 x2 []).bind fun x3 =>
(bin .neq .int a2 a3).bind fun x4 =>
(gd x4 true (some a1)).bind fun x5 =>
(gd x4 true (some a2)).bind fun x6 =>
(gd x4 true (idxA 1 x5 x6)).bind fun x7 =>
(gd x4 true (ld false 1 x7 [])).bind fun x8 =>
(gd x4 true (some x3)).bind fun x9 =>
(gd x4 true (idxA 1 x8 x9)).bind fun x10 =>
(gd x4 true (ld false 1 x10 [])).bind fun x11 =>
(gd x4 true (some a1)).bind fun x12 =>
(gd x4 true (some a3)).bind fun x13 =>
(gd x4 true (idxA 1 x12 x13)).bind fun x14 =>
(gd x4 true (ld false 1 x14 [])).bind fun x15 =>
(gd x4 true (some x3)).bind fun x16 =>
(gd x4 true (idxA 1 x15 x16)).bind fun x17 =>
(gd x4 true (ld false 1 x17 [])).bind fun x18 =>
(gd x4 true (bin .leq .int x11 x18)).bind fun x19 =>
(pickA x4 x19 (B false)).bind fun x20 =>
leave 0 [] [x20] []) := by
  rw [O_ent]
  kernel_rfl
end Go.Proofs.Ytkhbbjfdbbnojaa
