import Derived.Test.YtangmjeafnkfaaaCf
set_option linter.unusedVariables false
set_option maxRecDepth 100000
namespace Go.Proofs.Ytangmjeafnkfaaa
open Go Go.AM
-- backstitch/backstitchlaw4.SnapFlats
theorem f4_eq (a0 : AV) : O.ent 4 [a0] [] [] = (
(boxO [] (AV.cells a0) []).bind fun r1 =>
(ld true 8 r1.1 r1.2).bind fun x2 =>
(callA cfg O 18 [x2] [] r1.2).bind fun r3 =>
(ld true 8 r1.1 r3.2).bind fun x4 =>
(callA cfg O 19 [x4] [] r3.2).bind fun r5 =>
(callA cfg O 17 [r3.1, r5.1] [] r5.2).bind fun r6 =>
leave 0 [] [r6.1] r6.2) := by
  rw [O_ent]
  kernel_rfl
-- backstitch/snap.Flat
theorem f18_eq (a0 : AV) : O.ent 18 [a0] [] [] = (
(boxO [] (AV.cells a0) []).bind fun r1 =>
(buildA [(.p nilS)] []).bind fun x2 =>
(boxO [] (AV.cells x2) r1.2).bind fun r3 =>
(boxO [] [(.p (.v (.pointer none)))] r3.2).bind fun r4 =>
((stA 1 r4.1 r3.1 [] r4.2).map fun H' => (undefA, H')).bind fun r5 =>
(ld false 1 r4.1 r5.2).bind fun x6 =>
(fldA 0 r1.1).bind fun x7 =>
(ld false 1 x7 r5.2).bind fun x8 =>
(ld false 1 r4.1 r5.2).bind fun x9 =>
(callA cfg O 62 [x6, x8, .fn 63 [x9] []] [] r5.2).bind fun r10 =>
(ld false 1 r4.1 r10.2).bind fun x11 =>
(fldA 1 r1.1).bind fun x12 =>
(ld false 1 x12 r10.2).bind fun x13 =>
(callA cfg O 64 [x11, x13, .fn 65 [] [r4.1]] [] r10.2).bind fun r14 =>
(ld false 1 r4.1 r14.2).bind fun x15 =>
(fldA 2 r1.1).bind fun x16 =>
(ld false 1 x16 r14.2).bind fun x17 =>
(ld false 1 r4.1 r14.2).bind fun x18 =>
(callA cfg O 67 [x15, x17, .fn 68 [x18] []] [] r14.2).bind fun r19 =>
(ld false 1 r4.1 r19.2).bind fun x20 =>
(fldA 3 r1.1).bind fun x21 =>
(ld false 1 x21 r19.2).bind fun x22 =>
(ld false 1 r4.1 r19.2).bind fun x23 =>
(callA cfg O 69 [x20, x22, .fn 70 [x23] []] [] r19.2).bind fun r24 =>
(ld false 1 r4.1 r24.2).bind fun x25 =>
(fldA 4 r1.1).bind fun x26 =>
(ld false 1 x26 r24.2).bind fun x27 =>
(ld false 1 r4.1 r24.2).bind fun x28 =>
(callA cfg O 71 [x25, x27, .fn 72 [x28] []] [] r24.2).bind fun r29 =>
(ld false 1 r4.1 r29.2).bind fun x30 =>
(fldA 5 r1.1).bind fun x31 =>
(ld false 1 x31 r29.2).bind fun x32 =>
(ld false 1 r4.1 r29.2).bind fun x33 =>
(callA cfg O 73 [x30, x32, .fn 74 [x33] []] [] r29.2).bind fun r34 =>
(ld false 1 r4.1 r34.2).bind fun x35 =>
(fldA 6 r1.1).bind fun x36 =>
(ld false 1 x36 r34.2).bind fun x37 =>
(fldA 7 r1.1).bind fun x38 =>
(ld false 1 x38 r34.2).bind fun x39 =>
(litA false 1 [x37, x39] r34.2).bind fun r40 =>
(callA cfg O 66 [x35, r40.1] [] r40.2).bind fun r41 =>
(ld false 1 r4.1 r41.2).bind fun x42 =>
(nilCheckA x42).bind fun x43 =>
(fldA 0 x43).bind fun x44 =>
(ld false 1 x44 r41.2).bind fun x45 =>
leave 0 [] [x45] r41.2) := by
  rw [O_ent]
  kernel_rfl
-- backstitch/backstitchref4.SnapFlat
noncomputable def T19_8 : List It := labAt Try.prog cfg 19 8 (fun _ => none)
noncomputable def L19_8 (vals : List AV) (lo : List Nat) (H : Heap) : Res := O.lab 19 [1, 3, 4] (T19_8) vals lo H
noncomputable def T19_22 : List It := labAt Try.prog cfg 19 22 (fun _ => none)
noncomputable def L19_22 (vals : List AV) (lo : List Nat) (H : Heap) : Res := O.lab 19 [1, 3, 5] (T19_22) vals lo H
noncomputable def T19_32 : List It := labAt Try.prog cfg 19 32 (fun _ => none)
noncomputable def L19_32 (vals : List AV) (lo : List Nat) (H : Heap) : Res := O.lab 19 [1, 3, 6] (T19_32) vals lo H
noncomputable def T19_40 : List It := labAt Try.prog cfg 19 40 (fun _ => none)
noncomputable def L19_40 (vals : List AV) (lo : List Nat) (H : Heap) : Res := O.lab 19 [1, 3, 6, 7] (T19_40) vals lo H
noncomputable def T19_50 : List It := labAt Try.prog cfg 19 50 (fun _ => none)
noncomputable def L19_50 (vals : List AV) (lo : List Nat) (H : Heap) : Res := O.lab 19 [1, 3, 8] (T19_50) vals lo H
noncomputable def T19_64 : List It := labAt Try.prog cfg 19 64 (fun _ => none)
noncomputable def L19_64 (vals : List AV) (lo : List Nat) (H : Heap) : Res := O.lab 19 [1, 3, 10] (T19_64) vals lo H
theorem L19_8_eq (lo : List Nat) (v1 v3 v4 : AV) (H : Heap) : L19_8 [v1, v3, v4] lo H = (
(fldA 0 v1).bind fun x1 =>
(ld false 1 x1 H).bind fun x2 =>
(lenA .slice x2 H).bind fun x3 =>
(bin .lss .int v4 x3).bind fun x4 =>
cond x4 (
(fldA 0 v1).bind fun x5 =>
(ld false 1 x5 H).bind fun x6 =>
(idxA 4 x6 v4).bind fun x7 =>
(fldA 0 x7).bind fun x8 =>
(ld false 1 x8 H).bind fun x9 =>
(fldA 0 v1).bind fun x10 =>
(ld false 1 x10 H).bind fun x11 =>
(idxA 4 x11 v4).bind fun x12 =>
(fldA 1 x12).bind fun x13 =>
(ld false 1 x13 H).bind fun x14 =>
(litA false 1 [x9, x14] H).bind fun r15 =>
(appA 1 8 v3 r15.1 r15.2).bind fun r16 =>
(fldA 0 v1).bind fun x17 =>
(ld false 1 x17 r16.2).bind fun x18 =>
(idxA 4 x18 v4).bind fun x19 =>
(fldA 2 x19).bind fun x20 =>
(ld false 1 x20 r16.2).bind fun x21 =>
(callA cfg O 75 [x21] lo r16.2).bind fun r22 =>
(appA 1 8 r16.1 r22.1 r22.2).bind fun r23 =>
(fldA 0 v1).bind fun x24 =>
(ld false 1 x24 r23.2).bind fun x25 =>
(idxA 4 x25 v4).bind fun x26 =>
(fldA 3 x26).bind fun x27 =>
(ld false 1 x27 r23.2).bind fun x28 =>
(callA cfg O 76 [x28] lo r23.2).bind fun r29 =>
(appA 1 8 r23.1 r29.1 r29.2).bind fun r30 =>
(bin .add .int v4 (I 1)).bind fun x31 =>
L19_8 [v1, r30.1, x31] lo r30.2) (
(fldA 1 v1).bind fun x32 =>
(ld false 1 x32 H).bind fun x33 =>
(lenA .slice x33 H).bind fun x34 =>
(litA false 1 [x34] H).bind fun r35 =>
(appA 1 8 v3 r35.1 r35.2).bind fun r36 =>
L19_22 [v1, r36.1, I 0] lo r36.2)) := by
  show O.lab _ _ _ _ _ _ = _
  rw [O_lab]
  kernel_rfl
theorem L19_22_eq (lo : List Nat) (v1 v3 v5 : AV) (H : Heap) : L19_22 [v1, v3, v5] lo H = (
(fldA 1 v1).bind fun x1 =>
(ld false 1 x1 H).bind fun x2 =>
(lenA .slice x2 H).bind fun x3 =>
(bin .lss .int v5 x3).bind fun x4 =>
cond x4 (
(fldA 1 v1).bind fun x5 =>
(ld false 1 x5 H).bind fun x6 =>
(idxA 2 x6 v5).bind fun x7 =>
(fldA 0 x7).bind fun x8 =>
(ld false 1 x8 H).bind fun x9 =>
(fldA 1 v1).bind fun x10 =>
(ld false 1 x10 H).bind fun x11 =>
(idxA 2 x11 v5).bind fun x12 =>
(fldA 1 x12).bind fun x13 =>
(ld false 1 x13 H).bind fun x14 =>
(litA false 1 [x9, x14] H).bind fun r15 =>
(appA 1 8 v3 r15.1 r15.2).bind fun r16 =>
(bin .add .int v5 (I 1)).bind fun x17 =>
L19_22 [v1, r16.1, x17] lo r16.2) (
(fldA 2 v1).bind fun x18 =>
(ld false 1 x18 H).bind fun x19 =>
(lenA .slice x19 H).bind fun x20 =>
(litA false 1 [x20] H).bind fun r21 =>
(appA 1 8 v3 r21.1 r21.2).bind fun r22 =>
L19_32 [v1, r22.1, I 0] lo r22.2)) := by
  show O.lab _ _ _ _ _ _ = _
  rw [O_lab]
  kernel_rfl
theorem L19_32_eq (lo : List Nat) (v1 v3 v6 : AV) (H : Heap) : L19_32 [v1, v3, v6] lo H = (
(fldA 2 v1).bind fun x1 =>
(ld false 1 x1 H).bind fun x2 =>
(lenA .slice x2 H).bind fun x3 =>
(bin .lss .int v6 x3).bind fun x4 =>
cond x4 (
(fldA 2 v1).bind fun x5 =>
(ld false 1 x5 H).bind fun x6 =>
(idxA 1 x6 v6).bind fun x7 =>
(ld false 1 x7 H).bind fun x8 =>
(lenA .str x8 H).bind fun x9 =>
(litA false 1 [x9] H).bind fun r10 =>
(appA 1 8 v3 r10.1 r10.2).bind fun r11 =>
L19_40 [v1, r11.1, v6, I 0] lo r11.2) (
(fldA 3 v1).bind fun x12 =>
(ld false 1 x12 H).bind fun x13 =>
(lenA .slice x13 H).bind fun x14 =>
(litA false 1 [x14] H).bind fun r15 =>
(appA 1 8 v3 r15.1 r15.2).bind fun r16 =>
L19_50 [v1, r16.1, I 0] lo r16.2)) := by
  show O.lab _ _ _ _ _ _ = _
  rw [O_lab]
  kernel_rfl
theorem L19_40_eq (lo : List Nat) (v1 v3 v6 v7 : AV) (H : Heap) : L19_40 [v1, v3, v6, v7] lo H = (
(fldA 2 v1).bind fun x1 =>
(ld false 1 x1 H).bind fun x2 =>
(idxA 1 x2 v6).bind fun x3 =>
(ld false 1 x3 H).bind fun x4 =>
(lenA .str x4 H).bind fun x5 =>
(bin .lss .int v7 x5).bind fun x6 =>
cond x6 (
(fldA 2 v1).bind fun x7 =>
(ld false 1 x7 H).bind fun x8 =>
(idxA 1 x8 v6).bind fun x9 =>
(ld false 1 x9 H).bind fun x10 =>
(strAt x10 v7).bind fun x11 =>
(conv (.int .i64) x11).bind fun x12 =>
(litA false 1 [x12] H).bind fun r13 =>
(appA 1 8 v3 r13.1 r13.2).bind fun r14 =>
(bin .add .int v7 (I 1)).bind fun x15 =>
L19_40 [v1, r14.1, v6, x15] lo r14.2) (
(bin .add .int v6 (I 1)).bind fun x16 =>
L19_32 [v1, v3, x16] lo H)) := by
  show O.lab _ _ _ _ _ _ = _
  rw [O_lab]
  kernel_rfl
theorem L19_50_eq (lo : List Nat) (v1 v3 v8 : AV) (H : Heap) : L19_50 [v1, v3, v8] lo H = (
(fldA 3 v1).bind fun x1 =>
(ld false 1 x1 H).bind fun x2 =>
(lenA .slice x2 H).bind fun x3 =>
(bin .lss .int v8 x3).bind fun x4 =>
cond x4 (
(fldA 3 v1).bind fun x5 =>
(ld false 1 x5 H).bind fun x6 =>
(idxA 5 x6 v8).bind fun x7 =>
(ld true 5 x7 H).bind fun x8 =>
(boxO [] [(.p nilS), (I 0), (I 0), (I 0), (I 0)] H).bind fun r9 =>
((stA 5 r9.1 x8 lo r9.2).map fun H' => (undefA, H')).bind fun r10 =>
(fldA 0 r9.1).bind fun x11 =>
(ld false 1 x11 r10.2).bind fun x12 =>
(callA cfg O 76 [x12] lo r10.2).bind fun r13 =>
(appA 1 8 v3 r13.1 r13.2).bind fun r14 =>
(fldA 1 r9.1).bind fun x15 =>
(ld false 1 x15 r14.2).bind fun x16 =>
(fldA 2 r9.1).bind fun x17 =>
(ld false 1 x17 r14.2).bind fun x18 =>
(fldA 3 r9.1).bind fun x19 =>
(fldA 0 x19).bind fun x20 =>
(ld false 1 x20 r14.2).bind fun x21 =>
(fldA 3 r9.1).bind fun x22 =>
(fldA 1 x22).bind fun x23 =>
(ld false 1 x23 r14.2).bind fun x24 =>
(litA false 1 [x16, x18, x21, x24] r14.2).bind fun r25 =>
(appA 1 8 r14.1 r25.1 r25.2).bind fun r26 =>
(bin .add .int v8 (I 1)).bind fun x27 =>
L19_50 [v1, r26.1, x27] lo r26.2) (
(fldA 4 v1).bind fun x28 =>
(ld false 1 x28 H).bind fun x29 =>
(lenA .slice x29 H).bind fun x30 =>
(litA false 1 [x30] H).bind fun r31 =>
(appA 1 8 v3 r31.1 r31.2).bind fun r32 =>
L19_64 [v1, r32.1, I 0] lo r32.2)) := by
  show O.lab _ _ _ _ _ _ = _
  rw [O_lab]
  kernel_rfl
theorem L19_64_eq (lo : List Nat) (v1 v3 v10 : AV) (H : Heap) : L19_64 [v1, v3, v10] lo H = (
(fldA 4 v1).bind fun x1 =>
(ld false 1 x1 H).bind fun x2 =>
(lenA .slice x2 H).bind fun x3 =>
(bin .lss .int v10 x3).bind fun x4 =>
cond x4 (
(fldA 4 v1).bind fun x5 =>
(ld false 1 x5 H).bind fun x6 =>
(idxA 3 x6 v10).bind fun x7 =>
(fldA 0 x7).bind fun x8 =>
(ld false 1 x8 H).bind fun x9 =>
(fldA 4 v1).bind fun x10 =>
(ld false 1 x10 H).bind fun x11 =>
(idxA 3 x11 v10).bind fun x12 =>
(fldA 1 x12).bind fun x13 =>
(fldA 0 x13).bind fun x14 =>
(ld false 1 x14 H).bind fun x15 =>
(fldA 4 v1).bind fun x16 =>
(ld false 1 x16 H).bind fun x17 =>
(idxA 3 x17 v10).bind fun x18 =>
(fldA 1 x18).bind fun x19 =>
(fldA 1 x19).bind fun x20 =>
(ld false 1 x20 H).bind fun x21 =>
(litA false 1 [x9, x15, x21] H).bind fun r22 =>
(appA 1 8 v3 r22.1 r22.2).bind fun r23 =>
(bin .add .int v10 (I 1)).bind fun x24 =>
L19_64 [v1, r23.1, x24] lo r23.2) (
(fldA 5 v1).bind fun x25 =>
(ld false 1 x25 H).bind fun x26 =>
(callA cfg O 75 [x26] lo H).bind fun r27 =>
(appA 1 8 v3 r27.1 r27.2).bind fun r28 =>
(fldA 6 v1).bind fun x29 =>
(ld false 1 x29 r28.2).bind fun x30 =>
(fldA 7 v1).bind fun x31 =>
(ld false 1 x31 r28.2).bind fun x32 =>
(litA false 1 [x30, x32] r28.2).bind fun r33 =>
(appA 1 8 r28.1 r33.1 r33.2).bind fun r34 =>
leave 0 lo [r34.1] r34.2)) := by
  show O.lab _ _ _ _ _ _ = _
  rw [O_lab]
  kernel_rfl
theorem f19_eq (a0 : AV) : O.ent 19 [a0] [] [] = (
(boxO [] (AV.cells a0) []).bind fun r1 =>
(fldA 0 r1.1).bind fun x2 =>
(ld false 1 x2 r1.2).bind fun x3 =>
(lenA .slice x3 r1.2).bind fun x4 =>
(litA false 1 [x4] r1.2).bind fun r5 =>
L19_8 [r1.1, r5.1, I 0] [] r5.2) := by
  rw [O_ent]
  kernel_rfl
-- backstitch/snap.many[backstitch/api.Cell]
noncomputable def T62_6 : List It := labAt Try.prog cfg 62 6 (fun _ => none)
noncomputable def L62_6 (vals : List AV) (lo : List Nat) (H : Heap) : Res := O.lab 62 [2, 13, 14, 15] (T62_6) vals lo H
theorem L62_6_eq (lo : List Nat) (v2 v13 v14 v15 : AV) (H : Heap) : L62_6 [v2, v13, v14, v15] lo H = (
(bin .lss .int v15 v14).bind fun x1 =>
cond x1 (
(idxA 4 v13 v15).bind fun x2 =>
(ld true 4 x2 H).bind fun x3 =>
(boxO [] [(I 0), (I 0), (.p nilS), (.p nilS)] H).bind fun r4 =>
((stA 4 r4.1 x3 lo r4.2).map fun H' => (undefA, H')).bind fun r5 =>
(ld true 4 r4.1 r5.2).bind fun x6 =>
(callV cfg O v2 [x6] lo r5.2).bind fun r7 =>
(bin .add .int v15 (I 1)).bind fun x8 =>
L62_6 [v2, v13, v14, x8] lo r7.2) (
leave 1 lo [] H)) := by
  show O.lab _ _ _ _ _ _ = _
  rw [O_lab]
  kernel_rfl
theorem f62_eq (a0 a1 a2 : AV) (lo : List Nat) (H : Heap) : O.ent 62 [a0, a1, a2] lo H = (
(lenA .slice a1 H).bind fun x1 =>
(litA false 1 [x1] H).bind fun r2 =>
(callA cfg O 66 [a0, r2.1] lo r2.2).bind fun r3 =>
(lenA .slice a1 r3.2).bind fun x4 =>
L62_6 [a2, a1, x4, I 0] lo r3.2) := by
  rw [O_ent]
  kernel_rfl
-- (*backstitch/snap.writer).cell
theorem f63_eq (a0 a1 : AV) (lo : List Nat) (H : Heap) : O.ent 63 [a0, a1] lo H = (
(boxO [] (AV.cells a1) H).bind fun r1 =>
(fldA 0 r1.1).bind fun x2 =>
(ld false 1 x2 r1.2).bind fun x3 =>
(fldA 1 r1.1).bind fun x4 =>
(ld false 1 x4 r1.2).bind fun x5 =>
(litA false 1 [x3, x5] r1.2).bind fun r6 =>
(callA cfg O 66 [a0, r6.1] lo r6.2).bind fun r7 =>
(fldA 2 r1.1).bind fun x8 =>
(ld false 1 x8 r7.2).bind fun x9 =>
(callA cfg O 73 [a0, x9, .fn 74 [a0] []] lo r7.2).bind fun r10 =>
(fldA 3 r1.1).bind fun x11 =>
(ld false 1 x11 r10.2).bind fun x12 =>
(callA cfg O 126 [a0, x12, .fn 127 [a0] []] lo r10.2).bind fun r13 =>
leave 1 lo [] r13.2) := by
  rw [O_ent]
  kernel_rfl
-- backstitch/snap.many[backstitch/api.Shape]
noncomputable def T64_6 : List It := labAt Try.prog cfg 64 6 (fun _ => none)
noncomputable def L64_6 (vals : List AV) (lo : List Nat) (H : Heap) : Res := O.lab 64 [2, 13, 14, 15] (T64_6) vals lo H
theorem L64_6_eq (lo : List Nat) (v2 v13 v14 v15 : AV) (H : Heap) : L64_6 [v2, v13, v14, v15] lo H = (
(bin .lss .int v15 v14).bind fun x1 =>
cond x1 (
(idxA 2 v13 v15).bind fun x2 =>
(ld true 2 x2 H).bind fun x3 =>
(boxO [] [(I 0), (I 0)] H).bind fun r4 =>
((stA 2 r4.1 x3 lo r4.2).map fun H' => (undefA, H')).bind fun r5 =>
(ld true 2 r4.1 r5.2).bind fun x6 =>
(callV cfg O v2 [x6] lo r5.2).bind fun r7 =>
(bin .add .int v15 (I 1)).bind fun x8 =>
L64_6 [v2, v13, v14, x8] lo r7.2) (
leave 1 lo [] H)) := by
  show O.lab _ _ _ _ _ _ = _
  rw [O_lab]
  kernel_rfl
theorem f64_eq (a0 a1 a2 : AV) (lo : List Nat) (H : Heap) : O.ent 64 [a0, a1, a2] lo H = (
(lenA .slice a1 H).bind fun x1 =>
(litA false 1 [x1] H).bind fun r2 =>
(callA cfg O 66 [a0, r2.1] lo r2.2).bind fun r3 =>
(lenA .slice a1 r3.2).bind fun x4 =>
L64_6 [a2, a1, x4, I 0] lo r3.2) := by
  rw [O_ent]
  kernel_rfl
-- backstitch/snap.Flat$1
theorem f65_eq (a0 a1 : AV) (lo : List Nat) (H : Heap) : O.ent 65 [a0, a1] lo H = (
(boxO [] (AV.cells a0) H).bind fun r1 =>
(ld false 1 a1 r1.2).bind fun x2 =>
(fldA 0 r1.1).bind fun x3 =>
(ld false 1 x3 r1.2).bind fun x4 =>
(fldA 1 r1.1).bind fun x5 =>
(ld false 1 x5 r1.2).bind fun x6 =>
(litA false 1 [x4, x6] r1.2).bind fun r7 =>
(callA cfg O 66 [x2, r7.1] lo r7.2).bind fun r8 =>
leave 1 lo [] r8.2) := by
  rw [O_ent]
  kernel_rfl
-- (*backstitch/snap.writer).put
theorem f66_eq (a0 a1 : AV) (lo : List Nat) (H : Heap) : O.ent 66 [a0, a1] lo H = (
(nilCheckA a0).bind fun x1 =>
(fldA 0 x1).bind fun x2 =>
(ld false 1 x2 H).bind fun x3 =>
(appA 1 8 x3 a1 H).bind fun r4 =>
(nilCheckA a0).bind fun x5 =>
(fldA 0 x5).bind fun x6 =>
((stA 1 x6 r4.1 lo r4.2).map fun H' => (undefA, H')).bind fun r7 =>
leave 1 lo [] r7.2) := by
  rw [O_ent]
  kernel_rfl
-- backstitch/snap.many[string]
noncomputable def T67_6 : List It := labAt Try.prog cfg 67 6 (fun _ => none)
noncomputable def L67_6 (vals : List AV) (lo : List Nat) (H : Heap) : Res := O.lab 67 [2, 13, 14, 15] (T67_6) vals lo H
theorem L67_6_eq (lo : List Nat) (v2 v13 v14 v15 : AV) (H : Heap) : L67_6 [v2, v13, v14, v15] lo H = (
(bin .lss .int v15 v14).bind fun x1 =>
cond x1 (
(idxA 1 v13 v15).bind fun x2 =>
(ld false 1 x2 H).bind fun x3 =>
(callV cfg O v2 [x3] lo H).bind fun r4 =>
(bin .add .int v15 (I 1)).bind fun x5 =>
L67_6 [v2, v13, v14, x5] lo r4.2) (
leave 1 lo [] H)) := by
  show O.lab _ _ _ _ _ _ = _
  rw [O_lab]
  kernel_rfl
theorem f67_eq (a0 a1 a2 : AV) (lo : List Nat) (H : Heap) : O.ent 67 [a0, a1, a2] lo H = (
(lenA .slice a1 H).bind fun x1 =>
(litA false 1 [x1] H).bind fun r2 =>
(callA cfg O 66 [a0, r2.1] lo r2.2).bind fun r3 =>
(lenA .slice a1 r3.2).bind fun x4 =>
L67_6 [a2, a1, x4, I 0] lo r3.2) := by
  rw [O_ent]
  kernel_rfl
-- (*backstitch/snap.writer).text
theorem f68_eq (a0 a1 : AV) (lo : List Nat) (H : Heap) : O.ent 68 [a0, a1] lo H = (
(boxO [] (AV.cells a0) H).bind fun r1 =>
(ld false 1 r1.1 r1.2).bind fun x2 =>
(conv .toBytes a1).bind fun x3 =>
(callA cfg O 128 [x2, x3, .fn 129 [] [r1.1]] lo r1.2).bind fun r4 =>
leave 1 lo [] r4.2) := by
  rw [O_ent]
  kernel_rfl
-- backstitch/snap.many[backstitch/api.Thread]
noncomputable def T69_6 : List It := labAt Try.prog cfg 69 6 (fun _ => none)
noncomputable def L69_6 (vals : List AV) (lo : List Nat) (H : Heap) : Res := O.lab 69 [2, 13, 14, 15] (T69_6) vals lo H
theorem L69_6_eq (lo : List Nat) (v2 v13 v14 v15 : AV) (H : Heap) : L69_6 [v2, v13, v14, v15] lo H = (
(bin .lss .int v15 v14).bind fun x1 =>
cond x1 (
(idxA 5 v13 v15).bind fun x2 =>
(ld true 5 x2 H).bind fun x3 =>
(boxO [] [(.p nilS), (I 0), (I 0), (I 0), (I 0)] H).bind fun r4 =>
((stA 5 r4.1 x3 lo r4.2).map fun H' => (undefA, H')).bind fun r5 =>
(ld true 5 r4.1 r5.2).bind fun x6 =>
(callV cfg O v2 [x6] lo r5.2).bind fun r7 =>
(bin .add .int v15 (I 1)).bind fun x8 =>
L69_6 [v2, v13, v14, x8] lo r7.2) (
leave 1 lo [] H)) := by
  show O.lab _ _ _ _ _ _ = _
  rw [O_lab]
  kernel_rfl
theorem f69_eq (a0 a1 a2 : AV) (lo : List Nat) (H : Heap) : O.ent 69 [a0, a1, a2] lo H = (
(lenA .slice a1 H).bind fun x1 =>
(litA false 1 [x1] H).bind fun r2 =>
(callA cfg O 66 [a0, r2.1] lo r2.2).bind fun r3 =>
(lenA .slice a1 r3.2).bind fun x4 =>
L69_6 [a2, a1, x4, I 0] lo r3.2) := by
  rw [O_ent]
  kernel_rfl
-- (*backstitch/snap.writer).thread
theorem f70_eq (a0 a1 : AV) (lo : List Nat) (H : Heap) : O.ent 70 [a0, a1] lo H = (
(boxO [] (AV.cells a1) H).bind fun r1 =>
(fldA 0 r1.1).bind fun x2 =>
(ld false 1 x2 r1.2).bind fun x3 =>
(callA cfg O 126 [a0, x3, .fn 127 [a0] []] lo r1.2).bind fun r4 =>
(fldA 1 r1.1).bind fun x5 =>
(ld false 1 x5 r4.2).bind fun x6 =>
(fldA 2 r1.1).bind fun x7 =>
(ld false 1 x7 r4.2).bind fun x8 =>
(litA false 1 [x6, x8] r4.2).bind fun r9 =>
(callA cfg O 66 [a0, r9.1] lo r9.2).bind fun r10 =>
(fldA 3 r1.1).bind fun x11 =>
(ld true 2 x11 r10.2).bind fun x12 =>
(callA cfg O 74 [a0, x12] lo r10.2).bind fun r13 =>
leave 1 lo [] r13.2) := by
  rw [O_ent]
  kernel_rfl
-- backstitch/snap.many[backstitch/api.End]
noncomputable def T71_6 : List It := labAt Try.prog cfg 71 6 (fun _ => none)
noncomputable def L71_6 (vals : List AV) (lo : List Nat) (H : Heap) : Res := O.lab 71 [2, 13, 14, 15] (T71_6) vals lo H
theorem L71_6_eq (lo : List Nat) (v2 v13 v14 v15 : AV) (H : Heap) : L71_6 [v2, v13, v14, v15] lo H = (
(bin .lss .int v15 v14).bind fun x1 =>
cond x1 (
(idxA 3 v13 v15).bind fun x2 =>
(ld true 3 x2 H).bind fun x3 =>
(boxO [] [(I 0), (I 0), (I 0)] H).bind fun r4 =>
((stA 3 r4.1 x3 lo r4.2).map fun H' => (undefA, H')).bind fun r5 =>
(ld true 3 r4.1 r5.2).bind fun x6 =>
(callV cfg O v2 [x6] lo r5.2).bind fun r7 =>
(bin .add .int v15 (I 1)).bind fun x8 =>
L71_6 [v2, v13, v14, x8] lo r7.2) (
leave 1 lo [] H)) := by
  show O.lab _ _ _ _ _ _ = _
  rw [O_lab]
  kernel_rfl
theorem f71_eq (a0 a1 a2 : AV) (lo : List Nat) (H : Heap) : O.ent 71 [a0, a1, a2] lo H = (
(lenA .slice a1 H).bind fun x1 =>
(litA false 1 [x1] H).bind fun r2 =>
(callA cfg O 66 [a0, r2.1] lo r2.2).bind fun r3 =>
(lenA .slice a1 r3.2).bind fun x4 =>
L71_6 [a2, a1, x4, I 0] lo r3.2) := by
  rw [O_ent]
  kernel_rfl
-- (*backstitch/snap.writer).end
theorem f72_eq (a0 a1 : AV) (lo : List Nat) (H : Heap) : O.ent 72 [a0, a1] lo H = (
(boxO [] (AV.cells a1) H).bind fun r1 =>
(fldA 0 r1.1).bind fun x2 =>
(ld false 1 x2 r1.2).bind fun x3 =>
(litA false 1 [x3] r1.2).bind fun r4 =>
(callA cfg O 66 [a0, r4.1] lo r4.2).bind fun r5 =>
(fldA 1 r1.1).bind fun x6 =>
(ld true 2 x6 r5.2).bind fun x7 =>
(callA cfg O 74 [a0, x7] lo r5.2).bind fun r8 =>
leave 1 lo [] r8.2) := by
  rw [O_ent]
  kernel_rfl
-- backstitch/snap.many[backstitch/api.Val]
noncomputable def T73_6 : List It := labAt Try.prog cfg 73 6 (fun _ => none)
noncomputable def L73_6 (vals : List AV) (lo : List Nat) (H : Heap) : Res := O.lab 73 [2, 13, 14, 15] (T73_6) vals lo H
theorem L73_6_eq (lo : List Nat) (v2 v13 v14 v15 : AV) (H : Heap) : L73_6 [v2, v13, v14, v15] lo H = (
(bin .lss .int v15 v14).bind fun x1 =>
cond x1 (
(idxA 2 v13 v15).bind fun x2 =>
(ld true 2 x2 H).bind fun x3 =>
(boxO [] [(I 0), (I 0)] H).bind fun r4 =>
((stA 2 r4.1 x3 lo r4.2).map fun H' => (undefA, H')).bind fun r5 =>
(ld true 2 r4.1 r5.2).bind fun x6 =>
(callV cfg O v2 [x6] lo r5.2).bind fun r7 =>
(bin .add .int v15 (I 1)).bind fun x8 =>
L73_6 [v2, v13, v14, x8] lo r7.2) (
leave 1 lo [] H)) := by
  show O.lab _ _ _ _ _ _ = _
  rw [O_lab]
  kernel_rfl
theorem f73_eq (a0 a1 a2 : AV) (lo : List Nat) (H : Heap) : O.ent 73 [a0, a1, a2] lo H = (
(lenA .slice a1 H).bind fun x1 =>
(litA false 1 [x1] H).bind fun r2 =>
(callA cfg O 66 [a0, r2.1] lo r2.2).bind fun r3 =>
(lenA .slice a1 r3.2).bind fun x4 =>
L73_6 [a2, a1, x4, I 0] lo r3.2) := by
  rw [O_ent]
  kernel_rfl
-- (*backstitch/snap.writer).val
theorem f74_eq (a0 a1 : AV) (lo : List Nat) (H : Heap) : O.ent 74 [a0, a1] lo H = (
(boxO [] (AV.cells a1) H).bind fun r1 =>
(fldA 0 r1.1).bind fun x2 =>
(ld false 1 x2 r1.2).bind fun x3 =>
(fldA 1 r1.1).bind fun x4 =>
(ld false 1 x4 r1.2).bind fun x5 =>
(litA false 1 [x3, x5] r1.2).bind fun r6 =>
(callA cfg O 66 [a0, r6.1] lo r6.2).bind fun r7 =>
leave 1 lo [] r7.2) := by
  rw [O_ent]
  kernel_rfl
-- backstitch/backstitchref4.flatVals
noncomputable def T75_8 : List It := labAt Try.prog cfg 75 8 (fun _ => none)
noncomputable def L75_8 (vals : List AV) (lo : List Nat) (H : Heap) : Res := O.lab 75 [0, 3, 4] (T75_8) vals lo H
theorem L75_8_eq (lo : List Nat) (v0 v3 v4 : AV) (H : Heap) : L75_8 [v0, v3, v4] lo H = (
(lenA .slice v0 H).bind fun x1 =>
(bin .lss .int v4 x1).bind fun x2 =>
cond x2 (
(idxA 2 v0 v4).bind fun x3 =>
(fldA 0 x3).bind fun x4 =>
(ld false 1 x4 H).bind fun x5 =>
(idxA 2 v0 v4).bind fun x6 =>
(fldA 1 x6).bind fun x7 =>
(ld false 1 x7 H).bind fun x8 =>
(litA false 1 [x5, x8] H).bind fun r9 =>
(appA 1 8 v3 r9.1 r9.2).bind fun r10 =>
(bin .add .int v4 (I 1)).bind fun x11 =>
L75_8 [v0, r10.1, x11] lo r10.2) (
leave 0 lo [v3] H)) := by
  show O.lab _ _ _ _ _ _ = _
  rw [O_lab]
  kernel_rfl
theorem f75_eq (a0 : AV) : O.ent 75 [a0] [] [] = (
(lenA .slice a0 []).bind fun x1 =>
(litA false 1 [x1] []).bind fun r2 =>
L75_8 [a0, r2.1, I 0] [] r2.2) := by
  rw [O_ent]
  kernel_rfl
-- backstitch/backstitchref4.flatFrames
noncomputable def T76_8 : List It := labAt Try.prog cfg 76 8 (fun _ => none)
noncomputable def L76_8 (vals : List AV) (lo : List Nat) (H : Heap) : Res := O.lab 76 [0, 3, 4] (T76_8) vals lo H
noncomputable def T76_22 : List It := labAt Try.prog cfg 76 22 (fun _ => none)
noncomputable def L76_22 (vals : List AV) (lo : List Nat) (H : Heap) : Res := O.lab 76 [0, 3, 4, 5, 6] (T76_22) vals lo H
theorem L76_8_eq (lo : List Nat) (v0 v3 v4 : AV) (H : Heap) : L76_8 [v0, v3, v4] lo H = (
(lenA .slice v0 H).bind fun x1 =>
(bin .lss .int v4 x1).bind fun x2 =>
cond x2 (
(idxA 8 v0 v4).bind fun x3 =>
(ld true 8 x3 H).bind fun x4 =>
(boxO [] [(I 0), (I 0), (I 0), (I 0), (I 0), (I 0), (.p nilS), (.p nilS)] H).bind fun r5 =>
((stA 8 r5.1 x4 lo r5.2).map fun H' => (undefA, H')).bind fun r6 =>
(fldA 0 r5.1).bind fun x7 =>
(ld false 1 x7 r6.2).bind fun x8 =>
(fldA 1 r5.1).bind fun x9 =>
(ld false 1 x9 r6.2).bind fun x10 =>
(fldA 2 r5.1).bind fun x11 =>
(ld false 1 x11 r6.2).bind fun x12 =>
(fldA 3 r5.1).bind fun x13 =>
(ld false 1 x13 r6.2).bind fun x14 =>
(fldA 4 r5.1).bind fun x15 =>
(fldA 0 x15).bind fun x16 =>
(ld false 1 x16 r6.2).bind fun x17 =>
(fldA 4 r5.1).bind fun x18 =>
(fldA 1 x18).bind fun x19 =>
(ld false 1 x19 r6.2).bind fun x20 =>
(litA false 1 [x8, x10, x12, x14, x17, x20] r6.2).bind fun r21 =>
(appA 1 8 v3 r21.1 r21.2).bind fun r22 =>
(fldA 6 r5.1).bind fun x23 =>
(ld false 1 x23 r22.2).bind fun x24 =>
(callA cfg O 75 [x24] lo r22.2).bind fun r25 =>
(appA 1 8 r22.1 r25.1 r25.2).bind fun r26 =>
(fldA 7 r5.1).bind fun x27 =>
(ld false 1 x27 r26.2).bind fun x28 =>
(lenA .slice x28 r26.2).bind fun x29 =>
(litA false 1 [x29] r26.2).bind fun r30 =>
(appA 1 8 r26.1 r30.1 r30.2).bind fun r31 =>
L76_22 [v0, r31.1, v4, r5.1, I 0] lo r31.2) (
leave 0 lo [v3] H)) := by
  show O.lab _ _ _ _ _ _ = _
  rw [O_lab]
  kernel_rfl
theorem L76_22_eq (lo : List Nat) (v0 v3 v4 v5 v6 : AV) (H : Heap) : L76_22 [v0, v3, v4, v5, v6] lo H = (
(fldA 7 v5).bind fun x1 =>
(ld false 1 x1 H).bind fun x2 =>
(lenA .slice x2 H).bind fun x3 =>
(bin .lss .int v6 x3).bind fun x4 =>
cond x4 (
(fldA 7 v5).bind fun x5 =>
(ld false 1 x5 H).bind fun x6 =>
(idxA 2 x6 v6).bind fun x7 =>
(fldA 0 x7).bind fun x8 =>
(ld false 1 x8 H).bind fun x9 =>
(fldA 7 v5).bind fun x10 =>
(ld false 1 x10 H).bind fun x11 =>
(idxA 2 x11 v6).bind fun x12 =>
(fldA 1 x12).bind fun x13 =>
(ld false 1 x13 H).bind fun x14 =>
(litA false 1 [x9, x14] H).bind fun r15 =>
(appA 1 8 v3 r15.1 r15.2).bind fun r16 =>
(bin .add .int v6 (I 1)).bind fun x17 =>
L76_22 [v0, r16.1, v4, v5, x17] lo r16.2) (
(bin .add .int v4 (I 1)).bind fun x18 =>
L76_8 [v0, v3, x18] lo H)) := by
  show O.lab _ _ _ _ _ _ = _
  rw [O_lab]
  kernel_rfl
theorem f76_eq (a0 : AV) : O.ent 76 [a0] [] [] = (
(lenA .slice a0 []).bind fun x1 =>
(litA false 1 [x1] []).bind fun r2 =>
L76_8 [a0, r2.1, I 0] [] r2.2) := by
  rw [O_ent]
  kernel_rfl
-- backstitch/snap.many[backstitch/api.Frame]
noncomputable def T126_6 : List It := labAt Try.prog cfg 126 6 (fun _ => none)
noncomputable def L126_6 (vals : List AV) (lo : List Nat) (H : Heap) : Res := O.lab 126 [2, 13, 14, 15] (T126_6) vals lo H
theorem L126_6_eq (lo : List Nat) (v2 v13 v14 v15 : AV) (H : Heap) : L126_6 [v2, v13, v14, v15] lo H = (
(bin .lss .int v15 v14).bind fun x1 =>
cond x1 (
(idxA 8 v13 v15).bind fun x2 =>
(ld true 8 x2 H).bind fun x3 =>
(boxO [] [(I 0), (I 0), (I 0), (I 0), (I 0), (I 0), (.p nilS), (.p nilS)] H).bind fun r4 =>
((stA 8 r4.1 x3 lo r4.2).map fun H' => (undefA, H')).bind fun r5 =>
(ld true 8 r4.1 r5.2).bind fun x6 =>
(callV cfg O v2 [x6] lo r5.2).bind fun r7 =>
(bin .add .int v15 (I 1)).bind fun x8 =>
L126_6 [v2, v13, v14, x8] lo r7.2) (
leave 1 lo [] H)) := by
  show O.lab _ _ _ _ _ _ = _
  rw [O_lab]
  kernel_rfl
theorem f126_eq (a0 a1 a2 : AV) (lo : List Nat) (H : Heap) : O.ent 126 [a0, a1, a2] lo H = (
(lenA .slice a1 H).bind fun x1 =>
(litA false 1 [x1] H).bind fun r2 =>
(callA cfg O 66 [a0, r2.1] lo r2.2).bind fun r3 =>
(lenA .slice a1 r3.2).bind fun x4 =>
L126_6 [a2, a1, x4, I 0] lo r3.2) := by
  rw [O_ent]
  kernel_rfl
-- (*backstitch/snap.writer).frame
theorem f127_eq (a0 a1 : AV) (lo : List Nat) (H : Heap) : O.ent 127 [a0, a1] lo H = (
(boxO [] (AV.cells a1) H).bind fun r1 =>
(fldA 0 r1.1).bind fun x2 =>
(ld false 1 x2 r1.2).bind fun x3 =>
(fldA 1 r1.1).bind fun x4 =>
(ld false 1 x4 r1.2).bind fun x5 =>
(fldA 2 r1.1).bind fun x6 =>
(ld false 1 x6 r1.2).bind fun x7 =>
(fldA 3 r1.1).bind fun x8 =>
(ld false 1 x8 r1.2).bind fun x9 =>
(litA false 1 [x3, x5, x7, x9] r1.2).bind fun r10 =>
(callA cfg O 66 [a0, r10.1] lo r10.2).bind fun r11 =>
(fldA 4 r1.1).bind fun x12 =>
(ld true 2 x12 r11.2).bind fun x13 =>
(callA cfg O 74 [a0, x13] lo r11.2).bind fun r14 =>
(fldA 6 r1.1).bind fun x15 =>
(ld false 1 x15 r14.2).bind fun x16 =>
(callA cfg O 73 [a0, x16, .fn 74 [a0] []] lo r14.2).bind fun r17 =>
(fldA 7 r1.1).bind fun x18 =>
(ld false 1 x18 r17.2).bind fun x19 =>
(callA cfg O 149 [a0, x19, .fn 150 [a0] []] lo r17.2).bind fun r20 =>
leave 1 lo [] r20.2) := by
  rw [O_ent]
  kernel_rfl
-- backstitch/snap.many[byte]
noncomputable def T128_6 : List It := labAt Try.prog cfg 128 6 (fun _ => none)
noncomputable def L128_6 (vals : List AV) (lo : List Nat) (H : Heap) : Res := O.lab 128 [2, 13, 14, 15] (T128_6) vals lo H
theorem L128_6_eq (lo : List Nat) (v2 v13 v14 v15 : AV) (H : Heap) : L128_6 [v2, v13, v14, v15] lo H = (
(bin .lss .int v15 v14).bind fun x1 =>
cond x1 (
(idxA 1 v13 v15).bind fun x2 =>
(ld false 1 x2 H).bind fun x3 =>
(callV cfg O v2 [x3] lo H).bind fun r4 =>
(bin .add .int v15 (I 1)).bind fun x5 =>
L128_6 [v2, v13, v14, x5] lo r4.2) (
leave 1 lo [] H)) := by
  show O.lab _ _ _ _ _ _ = _
  rw [O_lab]
  kernel_rfl
theorem f128_eq (a0 a1 a2 : AV) (lo : List Nat) (H : Heap) : O.ent 128 [a0, a1, a2] lo H = (
(lenA .slice a1 H).bind fun x1 =>
(litA false 1 [x1] H).bind fun r2 =>
(callA cfg O 66 [a0, r2.1] lo r2.2).bind fun r3 =>
(lenA .slice a1 r3.2).bind fun x4 =>
L128_6 [a2, a1, x4, I 0] lo r3.2) := by
  rw [O_ent]
  kernel_rfl
-- (*backstitch/snap.writer).text$1
theorem f129_eq (a0 a1 : AV) (lo : List Nat) (H : Heap) : O.ent 129 [a0, a1] lo H = (
(ld false 1 a1 H).bind fun x1 =>
(conv (.int .i64) a0).bind fun x2 =>
(litA false 1 [x2] H).bind fun r3 =>
(callA cfg O 66 [x1, r3.1] lo r3.2).bind fun r4 =>
leave 1 lo [] r4.2) := by
  rw [O_ent]
  kernel_rfl
-- backstitch/snap.many[backstitch/api.Try]
noncomputable def T149_6 : List It := labAt Try.prog cfg 149 6 (fun _ => none)
noncomputable def L149_6 (vals : List AV) (lo : List Nat) (H : Heap) : Res := O.lab 149 [2, 13, 14, 15] (T149_6) vals lo H
theorem L149_6_eq (lo : List Nat) (v2 v13 v14 v15 : AV) (H : Heap) : L149_6 [v2, v13, v14, v15] lo H = (
(bin .lss .int v15 v14).bind fun x1 =>
cond x1 (
(idxA 2 v13 v15).bind fun x2 =>
(ld true 2 x2 H).bind fun x3 =>
(boxO [] [(I 0), (I 0)] H).bind fun r4 =>
((stA 2 r4.1 x3 lo r4.2).map fun H' => (undefA, H')).bind fun r5 =>
(ld true 2 r4.1 r5.2).bind fun x6 =>
(callV cfg O v2 [x6] lo r5.2).bind fun r7 =>
(bin .add .int v15 (I 1)).bind fun x8 =>
L149_6 [v2, v13, v14, x8] lo r7.2) (
leave 1 lo [] H)) := by
  show O.lab _ _ _ _ _ _ = _
  rw [O_lab]
  kernel_rfl
theorem f149_eq (a0 a1 a2 : AV) (lo : List Nat) (H : Heap) : O.ent 149 [a0, a1, a2] lo H = (
(lenA .slice a1 H).bind fun x1 =>
(litA false 1 [x1] H).bind fun r2 =>
(callA cfg O 66 [a0, r2.1] lo r2.2).bind fun r3 =>
(lenA .slice a1 r3.2).bind fun x4 =>
L149_6 [a2, a1, x4, I 0] lo r3.2) := by
  rw [O_ent]
  kernel_rfl
-- (*backstitch/snap.writer).try
theorem f150_eq (a0 a1 : AV) (lo : List Nat) (H : Heap) : O.ent 150 [a0, a1] lo H = (
(boxO [] (AV.cells a1) H).bind fun r1 =>
(fldA 0 r1.1).bind fun x2 =>
(ld false 1 x2 r1.2).bind fun x3 =>
(fldA 1 r1.1).bind fun x4 =>
(ld false 1 x4 r1.2).bind fun x5 =>
(litA false 1 [x3, x5] r1.2).bind fun r6 =>
(callA cfg O 66 [a0, r6.1] lo r6.2).bind fun r7 =>
leave 1 lo [] r7.2) := by
  rw [O_ent]
  kernel_rfl
end Go.Proofs.Ytangmjeafnkfaaa
