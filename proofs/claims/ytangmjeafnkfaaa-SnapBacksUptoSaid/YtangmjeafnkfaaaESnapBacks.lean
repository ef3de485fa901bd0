import Derived.Test.YtangmjeafnkfaaaCf
set_option linter.unusedVariables false
set_option maxRecDepth 100000
namespace Go.Proofs.Ytangmjeafnkfaaa
open Go Go.AM
-- backstitch/backstitchlaw4.SnapBacks
noncomputable def T11_31 : List It := labAt Try.prog cfg 11 31 (fun _ => none)
noncomputable def L11_31 (vals : List AV) (lo : List Nat) (H : Heap) : Res := O.lab 11 [9, 10] (T11_31) vals lo H
theorem L11_31_eq (lo : List Nat) (v9 v10 : AV) (H : Heap) : L11_31 [v9, v10] lo H = (
(bin .eql .int v10 (I 3)).bind fun x1 =>
(gd x1 true (ld true 8 v9 H)).bind fun x2 =>
(gdH x1 true (callA cfg O 19 [x2] lo H) H).bind fun r3 =>
(gd x1 true (buildA [(.p nilS), (.p nilS), (.p nilS), (.p nilS), (.p nilS), (.p nilS), (I 0), (I 0)] [])).bind fun x4 =>
(gdH x1 true (callA cfg O 19 [x4] lo r3.2) r3.2).bind fun r5 =>
(gdH x1 true (callA cfg O 17 [r3.1, r5.1] lo r5.2) r5.2).bind fun r6 =>
(pickA x1 r6.1 (B false)).bind fun x7 =>
leave 0 lo [x7] r6.2) := by
  show O.lab _ _ _ _ _ _ = _
  rw [O_lab]
  kernel_rfl
theorem f11_eq (a0 a1 a2 a3 : AV) : O.ent 11 [a0, a1, a2, a3] [] [] = (
(boxO [] (AV.cells a1) []).bind fun r1 =>
(lenA .slice a0 r1.2).bind fun x2 =>
(bests false x2 [I 400]).bind fun x3 =>
(cutA 1 a0 none (some x3) none r1.2).bind fun x4 =>
(callA cfg O 48 [x4] [] r1.2).bind fun r5 =>
(extractA r5.1 0).bind fun x6 =>
(extractA r5.1 1).bind fun x7 =>
(boxO [] [(.p nilS), (.p nilS), (.p nilS), (.p nilS), (.p nilS), (.p nilS), (I 0), (I 0)] r5.2).bind fun r8 =>
((stA 8 r8.1 x6 [] r8.2).map fun H' => (undefA, H')).bind fun r9 =>
(bin .eql .int x7 (I 0)).bind fun x10 =>
cond x10 (
(ld true 8 r8.1 r9.2).bind fun x11 =>
(callA cfg O 19 [x11] [] r9.2).bind fun r12 =>
(callA cfg O 17 [r12.1, x4] [] r12.2).bind fun r13 =>
leave 0 [] [r13.1] r13.2) (
(ld true 8 r1.1 r9.2).bind fun x14 =>
(callA cfg O 19 [x14] [] r9.2).bind fun r15 =>
(callA cfg O 48 [r15.1] [] r15.2).bind fun r16 =>
(extractA r16.1 0).bind fun x17 =>
(extractA r16.1 1).bind fun x18 =>
(boxO [] [(.p nilS), (.p nilS), (.p nilS), (.p nilS), (.p nilS), (.p nilS), (I 0), (I 0)] r16.2).bind fun r19 =>
((stA 8 r19.1 x17 [] r19.2).map fun H' => (undefA, H')).bind fun r20 =>
(bin .neq .int x18 (I 0)).bind fun x21 =>
(gd x21 false (ld true 8 r19.1 r20.2)).bind fun x22 =>
(gdH x21 false (callA cfg O 19 [x22] [] r20.2) r20.2).bind fun r23 =>
(gd x21 false (some r15.1)).bind fun x24 =>
(gdH x21 false (callA cfg O 17 [r23.1, x24] [] r23.2) r23.2).bind fun r25 =>
(gd x21 false (un .not r25.1)).bind fun x26 =>
(pickA x21 (B true) x26).bind fun x27 =>
cond x27 (
leave 0 [] [B false] r25.2) (
(bin .geq .int a2 (I 0)).bind fun x28 =>
(gd x28 true (some a2)).bind fun x29 =>
(gd x28 true (some r15.1)).bind fun x30 =>
(gd x28 true (lenA .slice x30 r25.2)).bind fun x31 =>
(gd x28 true (bin .lss .int x29 x31)).bind fun x32 =>
(pickA x28 x32 (B false)).bind fun x33 =>
cond x33 (
(idxA 1 r15.1 a2).bind fun x34 =>
((stA 1 x34 a3 [] r25.2).map fun H' => (undefA, H')).bind fun r35 =>
(callA cfg O 48 [r15.1] [] r35.2).bind fun r36 =>
(extractA r36.1 0).bind fun x37 =>
(extractA r36.1 1).bind fun x38 =>
((stA 8 r19.1 x37 [] r36.2).map fun H' => (undefA, H')).bind fun r39 =>
(bin .eql .int x38 (I 0)).bind fun x40 =>
(gd x40 true (ld true 8 r19.1 r39.2)).bind fun x41 =>
(gdH x40 true (callA cfg O 19 [x41] [] r39.2) r39.2).bind fun r42 =>
(gd x40 true (some r15.1)).bind fun x43 =>
(gdH x40 true (callA cfg O 17 [r42.1, x43] [] r42.2) r42.2).bind fun r44 =>
(gd x40 true (un .not r44.1)).bind fun x45 =>
(pickA x40 x45 (B false)).bind fun x46 =>
cond x46 (
leave 0 [] [B false] r44.2) (
L11_31 [r8.1, x7] [] r44.2)) (
L11_31 [r8.1, x7] [] r25.2)))) := by
  rw [O_ent]
  kernel_rfl
-- backstitch/backstitchref4.SameInts
noncomputable def T17_10 : List It := labAt Try.prog cfg 17 10 (fun _ => none)
noncomputable def L17_10 (vals : List AV) (lo : List Nat) (H : Heap) : Res := O.lab 17 [0, 1, 5] (T17_10) vals lo H
theorem L17_10_eq (lo : List Nat) (v0 v1 v5 : AV) (H : Heap) : L17_10 [v0, v1, v5] lo H = (
(lenA .slice v0 H).bind fun x1 =>
(bin .lss .int v5 x1).bind fun x2 =>
cond x2 (
(idxA 1 v0 v5).bind fun x3 =>
(ld false 1 x3 H).bind fun x4 =>
(idxA 1 v1 v5).bind fun x5 =>
(ld false 1 x5 H).bind fun x6 =>
(bin .neq .int x4 x6).bind fun x7 =>
cond x7 (
leave 0 lo [B false] H) (
(bin .add .int v5 (I 1)).bind fun x8 =>
L17_10 [v0, v1, x8] lo H)) (
leave 0 lo [B true] H)) := by
  show O.lab _ _ _ _ _ _ = _
  rw [O_lab]
  kernel_rfl
theorem f17_eq (a0 a1 : AV) : O.ent 17 [a0, a1] [] [] = (
(lenA .slice a0 []).bind fun x1 =>
(lenA .slice a1 []).bind fun x2 =>
(bin .neq .int x1 x2).bind fun x3 =>
cond x3 (
leave 0 [] [B false] []) (
L17_10 [a0, a1, I 0] [] [])) := by
  rw [O_ent]
  kernel_rfl
-- backstitch/backstitchref4.SnapFlat
noncomputable def T19_8 : List It := labAt Try.prog cfg 19 8 (fun _ => none)
noncomputable def L19_8 (vals : List AV) (lo : List Nat) (H : Heap) : Res := O.lab 19 [1, 3, 4] (T19_8) vals lo H
noncomputable def T19_22 : List It := labAt Try.prog cfg 19 22 (fun _ => none)
noncomputable def L19_22 (vals : List AV) (lo : List Nat) (H : Heap) : Res := O.lab 19 [1, 3, 5] (T19_22) vals lo H
noncomputable def T19_32 : List It := labAt Try.prog cfg 19 32 (fun _ => none)
noncomputable def L19_32 (vals : List AV) (lo : List Nat) (H : Heap) : Res := O.lab 19 [1, 3, 6] (T19_32) vals lo H
noncomputable def T19_40 : List It := labAt Try.prog cfg 19 40 (fun _ => none)
noncomputable def L19_40 (vals : List AV) (lo : List Nat) (H : Heap) : Res := O.lab 19 [1, 3, 6, 7] (T19_40) vals lo H
noncomputable def T19_50 : List It := labAt Try.prog cfg 19 50 (fun _ => none)
noncomputable def L19_50 (vals : List AV) (lo : List Nat) (H : Heap) : Res := O.lab 19 [1, 3, 8] (T19_50) vals lo H
noncomputable def T19_64 : List It := labAt Try.prog cfg 19 64 (fun _ => none)
noncomputable def L19_64 (vals : List AV) (lo : List Nat) (H : Heap) : Res := O.lab 19 [1, 3, 10] (T19_64) vals lo H
theorem L19_8_eq (lo : List Nat) (v1 v3 v4 : AV) (H : Heap) : L19_8 [v1, v3, v4] lo H = (
(fldA 0 v1).bind fun x1 =>
(ld false 1 x1 H).bind fun x2 =>
(lenA .slice x2 H).bind fun x3 =>
(bin .lss .int v4 x3).bind fun x4 =>
cond x4 (
(fldA 0 v1).bind fun x5 =>
(ld false 1 x5 H).bind fun x6 =>
(idxA 4 x6 v4).bind fun x7 =>
(fldA 0 x7).bind fun x8 =>
(ld false 1 x8 H).bind fun x9 =>
(fldA 0 v1).bind fun x10 =>
(ld false 1 x10 H).bind fun x11 =>
(idxA 4 x11 v4).bind fun x12 =>
(fldA 1 x12).bind fun x13 =>
(ld false 1 x13 H).bind fun x14 =>
(litA false 1 [x9, x14] H).bind fun r15 =>
(appA 1 8 v3 r15.1 r15.2).bind fun r16 =>
(fldA 0 v1).bind fun x17 =>
(ld false 1 x17 r16.2).bind fun x18 =>
(idxA 4 x18 v4).bind fun x19 =>
(fldA 2 x19).bind fun x20 =>
(ld false 1 x20 r16.2).bind fun x21 =>
(callA cfg O 75 [x21] lo r16.2).bind fun r22 =>
(appA 1 8 r16.1 r22.1 r22.2).bind fun r23 =>
(fldA 0 v1).bind fun x24 =>
(ld false 1 x24 r23.2).bind fun x25 =>
(idxA 4 x25 v4).bind fun x26 =>
(fldA 3 x26).bind fun x27 =>
(ld false 1 x27 r23.2).bind fun x28 =>
(callA cfg O 76 [x28] lo r23.2).bind fun r29 =>
(appA 1 8 r23.1 r29.1 r29.2).bind fun r30 =>
(bin .add .int v4 (I 1)).bind fun x31 =>
L19_8 [v1, r30.1, x31] lo r30.2) (
(fldA 1 v1).bind fun x32 =>
(ld false 1 x32 H).bind fun x33 =>
(lenA .slice x33 H).bind fun x34 =>
(litA false 1 [x34] H).bind fun r35 =>
(appA 1 8 v3 r35.1 r35.2).bind fun r36 =>
L19_22 [v1, r36.1, I 0] lo r36.2)) := by
  show O.lab _ _ _ _ _ _ = _
  rw [O_lab]
  kernel_rfl
theorem L19_22_eq (lo : List Nat) (v1 v3 v5 : AV) (H : Heap) : L19_22 [v1, v3, v5] lo H = (
(fldA 1 v1).bind fun x1 =>
(ld false 1 x1 H).bind fun x2 =>
(lenA .slice x2 H).bind fun x3 =>
(bin .lss .int v5 x3).bind fun x4 =>
cond x4 (
(fldA 1 v1).bind fun x5 =>
(ld false 1 x5 H).bind fun x6 =>
(idxA 2 x6 v5).bind fun x7 =>
(fldA 0 x7).bind fun x8 =>
(ld false 1 x8 H).bind fun x9 =>
(fldA 1 v1).bind fun x10 =>
(ld false 1 x10 H).bind fun x11 =>
(idxA 2 x11 v5).bind fun x12 =>
(fldA 1 x12).bind fun x13 =>
(ld false 1 x13 H).bind fun x14 =>
(litA false 1 [x9, x14] H).bind fun r15 =>
(appA 1 8 v3 r15.1 r15.2).bind fun r16 =>
(bin .add .int v5 (I 1)).bind fun x17 =>
L19_22 [v1, r16.1, x17] lo r16.2) (
(fldA 2 v1).bind fun x18 =>
(ld false 1 x18 H).bind fun x19 =>
(lenA .slice x19 H).bind fun x20 =>
(litA false 1 [x20] H).bind fun r21 =>
(appA 1 8 v3 r21.1 r21.2).bind fun r22 =>
L19_32 [v1, r22.1, I 0] lo r22.2)) := by
  show O.lab _ _ _ _ _ _ = _
  rw [O_lab]
  kernel_rfl
theorem L19_32_eq (lo : List Nat) (v1 v3 v6 : AV) (H : Heap) : L19_32 [v1, v3, v6] lo H = (
(fldA 2 v1).bind fun x1 =>
(ld false 1 x1 H).bind fun x2 =>
(lenA .slice x2 H).bind fun x3 =>
(bin .lss .int v6 x3).bind fun x4 =>
cond x4 (
(fldA 2 v1).bind fun x5 =>
(ld false 1 x5 H).bind fun x6 =>
(idxA 1 x6 v6).bind fun x7 =>
(ld false 1 x7 H).bind fun x8 =>
(lenA .str x8 H).bind fun x9 =>
(litA false 1 [x9] H).bind fun r10 =>
(appA 1 8 v3 r10.1 r10.2).bind fun r11 =>
L19_40 [v1, r11.1, v6, I 0] lo r11.2) (
(fldA 3 v1).bind fun x12 =>
(ld false 1 x12 H).bind fun x13 =>
(lenA .slice x13 H).bind fun x14 =>
(litA false 1 [x14] H).bind fun r15 =>
(appA 1 8 v3 r15.1 r15.2).bind fun r16 =>
L19_50 [v1, r16.1, I 0] lo r16.2)) := by
  show O.lab _ _ _ _ _ _ = _
  rw [O_lab]
  kernel_rfl
theorem L19_40_eq (lo : List Nat) (v1 v3 v6 v7 : AV) (H : Heap) : L19_40 [v1, v3, v6, v7] lo H = (
(fldA 2 v1).bind fun x1 =>
(ld false 1 x1 H).bind fun x2 =>
(idxA 1 x2 v6).bind fun x3 =>
(ld false 1 x3 H).bind fun x4 =>
(lenA .str x4 H).bind fun x5 =>
(bin .lss .int v7 x5).bind fun x6 =>
cond x6 (
(fldA 2 v1).bind fun x7 =>
(ld false 1 x7 H).bind fun x8 =>
(idxA 1 x8 v6).bind fun x9 =>
(ld false 1 x9 H).bind fun x10 =>
(strAt x10 v7).bind fun x11 =>
(conv (.int .i64) x11).bind fun x12 =>
(litA false 1 [x12] H).bind fun r13 =>
(appA 1 8 v3 r13.1 r13.2).bind fun r14 =>
(bin .add .int v7 (I 1)).bind fun x15 =>
L19_40 [v1, r14.1, v6, x15] lo r14.2) (
(bin .add .int v6 (I 1)).bind fun x16 =>
L19_32 [v1, v3, x16] lo H)) := by
  show O.lab _ _ _ _ _ _ = _
  rw [O_lab]
  kernel_rfl
theorem L19_50_eq (lo : List Nat) (v1 v3 v8 : AV) (H : Heap) : L19_50 [v1, v3, v8] lo H = (
(fldA 3 v1).bind fun x1 =>
(ld false 1 x1 H).bind fun x2 =>
(lenA .slice x2 H).bind fun x3 =>
(bin .lss .int v8 x3).bind fun x4 =>
cond x4 (
(fldA 3 v1).bind fun x5 =>
(ld false 1 x5 H).bind fun x6 =>
(idxA 5 x6 v8).bind fun x7 =>
(ld true 5 x7 H).bind fun x8 =>
(boxO [] [(.p nilS), (I 0), (I 0), (I 0), (I 0)] H).bind fun r9 =>
((stA 5 r9.1 x8 lo r9.2).map fun H' => (undefA, H')).bind fun r10 =>
(fldA 0 r9.1).bind fun x11 =>
(ld false 1 x11 r10.2).bind fun x12 =>
(callA cfg O 76 [x12] lo r10.2).bind fun r13 =>
(appA 1 8 v3 r13.1 r13.2).bind fun r14 =>
(fldA 1 r9.1).bind fun x15 =>
(ld false 1 x15 r14.2).bind fun x16 =>
(fldA 2 r9.1).bind fun x17 =>
(ld false 1 x17 r14.2).bind fun x18 =>
(fldA 3 r9.1).bind fun x19 =>
(fldA 0 x19).bind fun x20 =>
(ld false 1 x20 r14.2).bind fun x21 =>
(fldA 3 r9.1).bind fun x22 =>
(fldA 1 x22).bind fun x23 =>
(ld false 1 x23 r14.2).bind fun x24 =>
(litA false 1 [x16, x18, x21, x24] r14.2).bind fun r25 =>
(appA 1 8 r14.1 r25.1 r25.2).bind fun r26 =>
(bin .add .int v8 (I 1)).bind fun x27 =>
L19_50 [v1, r26.1, x27] lo r26.2) (
(fldA 4 v1).bind fun x28 =>
(ld false 1 x28 H).bind fun x29 =>
(lenA .slice x29 H).bind fun x30 =>
(litA false 1 [x30] H).bind fun r31 =>
(appA 1 8 v3 r31.1 r31.2).bind fun r32 =>
L19_64 [v1, r32.1, I 0] lo r32.2)) := by
  show O.lab _ _ _ _ _ _ = _
  rw [O_lab]
  kernel_rfl
theorem L19_64_eq (lo : List Nat) (v1 v3 v10 : AV) (H : Heap) : L19_64 [v1, v3, v10] lo H = (
(fldA 4 v1).bind fun x1 =>
(ld false 1 x1 H).bind fun x2 =>
(lenA .slice x2 H).bind fun x3 =>
(bin .lss .int v10 x3).bind fun x4 =>
cond x4 (
(fldA 4 v1).bind fun x5 =>
(ld false 1 x5 H).bind fun x6 =>
(idxA 3 x6 v10).bind fun x7 =>
(fldA 0 x7).bind fun x8 =>
(ld false 1 x8 H).bind fun x9 =>
(fldA 4 v1).bind fun x10 =>
(ld false 1 x10 H).bind fun x11 =>
(idxA 3 x11 v10).bind fun x12 =>
(fldA 1 x12).bind fun x13 =>
(fldA 0 x13).bind fun x14 =>
(ld false 1 x14 H).bind fun x15 =>
(fldA 4 v1).bind fun x16 =>
(ld false 1 x16 H).bind fun x17 =>
(idxA 3 x17 v10).bind fun x18 =>
(fldA 1 x18).bind fun x19 =>
(fldA 1 x19).bind fun x20 =>
(ld false 1 x20 H).bind fun x21 =>
(litA false 1 [x9, x15, x21] H).bind fun r22 =>
(appA 1 8 v3 r22.1 r22.2).bind fun r23 =>
(bin .add .int v10 (I 1)).bind fun x24 =>
L19_64 [v1, r23.1, x24] lo r23.2) (
(fldA 5 v1).bind fun x25 =>
(ld false 1 x25 H).bind fun x26 =>
(callA cfg O 75 [x26] lo H).bind fun r27 =>
(appA 1 8 v3 r27.1 r27.2).bind fun r28 =>
(fldA 6 v1).bind fun x29 =>
(ld false 1 x29 r28.2).bind fun x30 =>
(fldA 7 v1).bind fun x31 =>
(ld false 1 x31 r28.2).bind fun x32 =>
(litA false 1 [x30, x32] r28.2).bind fun r33 =>
(appA 1 8 r28.1 r33.1 r33.2).bind fun r34 =>
leave 1 lo [r34.1] r34.2)) := by
  show O.lab _ _ _ _ _ _ = _
  rw [O_lab]
  kernel_rfl
theorem f19_eq (a0 : AV) (lo : List Nat) (H : Heap) : O.ent 19 [a0] lo H = (
(boxO [] (AV.cells a0) H).bind fun r1 =>
(fldA 0 r1.1).bind fun x2 =>
(ld false 1 x2 r1.2).bind fun x3 =>
(lenA .slice x3 r1.2).bind fun x4 =>
(litA false 1 [x4] r1.2).bind fun r5 =>
L19_8 [r1.1, r5.1, I 0] lo r5.2) := by
  rw [O_ent]
  kernel_rfl
-- backstitch/snap.Back
theorem f48_eq (a0 : AV) (lo : List Nat) (H : Heap) : O.ent 48 [a0] lo H = (
(boxO [] [(.p nilS), (.p nilS), (.p nilS), (.p nilS), (.p nilS), (.p nilS), (I 0), (I 0)] H).bind fun r1 =>
(buildA [(.p nilS), (B false)] [(0, 1, a0)]).bind fun x2 =>
(boxO [] (AV.cells x2) r1.2).bind fun r3 =>
(boxO [] [(.p nilS), (.p nilS), (.p nilS), (.p nilS), (.p nilS), (.p nilS), (I 0), (I 0)] r3.2).bind fun r4 =>
(callA cfg O 101 [r3.1, .fn 102 [r3.1] []] (List.length H :: lo) r4.2).bind fun r5 =>
(fldA 0 r4.1).bind fun x6 =>
((stA 1 x6 r5.1 (List.length H :: lo) r5.2).map fun H' => (undefA, H')).bind fun r7 =>
(callA cfg O 103 [r3.1, .fn 104 [r3.1] []] (List.length H :: lo) r7.2).bind fun r8 =>
(fldA 1 r4.1).bind fun x9 =>
((stA 1 x9 r8.1 (List.length H :: lo) r8.2).map fun H' => (undefA, H')).bind fun r10 =>
(callA cfg O 105 [r3.1, .fn 106 [r3.1] []] (List.length H :: lo) r10.2).bind fun r11 =>
(fldA 2 r4.1).bind fun x12 =>
((stA 1 x12 r11.1 (List.length H :: lo) r11.2).map fun H' => (undefA, H')).bind fun r13 =>
(callA cfg O 107 [r3.1, .fn 108 [r3.1] []] (List.length H :: lo) r13.2).bind fun r14 =>
(fldA 3 r4.1).bind fun x15 =>
((stA 1 x15 r14.1 (List.length H :: lo) r14.2).map fun H' => (undefA, H')).bind fun r16 =>
(callA cfg O 109 [r3.1, .fn 110 [r3.1] []] (List.length H :: lo) r16.2).bind fun r17 =>
(fldA 4 r4.1).bind fun x18 =>
((stA 1 x18 r17.1 (List.length H :: lo) r17.2).map fun H' => (undefA, H')).bind fun r19 =>
(callA cfg O 111 [r3.1, .fn 112 [r3.1] []] (List.length H :: lo) r19.2).bind fun r20 =>
(fldA 5 r4.1).bind fun x21 =>
((stA 1 x21 r20.1 (List.length H :: lo) r20.2).map fun H' => (undefA, H')).bind fun r22 =>
(callA cfg O 113 [r3.1] (List.length H :: lo) r22.2).bind fun r23 =>
(callA cfg O 113 [r3.1] (List.length H :: lo) r23.2).bind fun r24 =>
(fldA 6 r4.1).bind fun x25 =>
((stA 1 x25 r23.1 (List.length H :: lo) r24.2).map fun H' => (undefA, H')).bind fun r26 =>
(fldA 7 r4.1).bind fun x27 =>
((stA 1 x27 r24.1 (List.length H :: lo) r26.2).map fun H' => (undefA, H')).bind fun r28 =>
(nilCheckA r3.1).bind fun x29 =>
(fldA 1 x29).bind fun x30 =>
(ld false 1 x30 r28.2).bind fun x31 =>
(gd x31 false (some r3.1)).bind fun x32 =>
(gd x31 false (nilCheckA x32)).bind fun x33 =>
(gd x31 false (fldA 0 x33)).bind fun x34 =>
(gd x31 false (ld false 1 x34 r28.2)).bind fun x35 =>
(gd x31 false (lenA .slice x35 r28.2)).bind fun x36 =>
(gd x31 false (bin .gtr .int x36 (I 0))).bind fun x37 =>
(pickA x31 (B true) x37).bind fun x38 =>
cond x38 (
(buildA [(.p nilS), (.p nilS), (.p nilS), (.p nilS), (.p nilS), (.p nilS), (I 0), (I 0)] []).bind fun x39 =>
((stA 8 r1.1 x39 (List.length H :: lo) r28.2).map fun H' => (undefA, H')).bind fun r40 =>
((ld true 8 r1.1 r40.2).bind fun x42 => ((some []).map fun q44 => I 3 :: q44).map fun q43 => x42 :: q43).bind fun xs41 => leave 2 (List.length H :: lo) xs41 r40.2) (
(ld true 8 r4.1 r28.2).bind fun x45 =>
((stA 8 r1.1 x45 (List.length H :: lo) r28.2).map fun H' => (undefA, H')).bind fun r46 =>
((ld true 8 r1.1 r46.2).bind fun x48 => ((some []).map fun q50 => I 0 :: q50).map fun q49 => x48 :: q49).bind fun xs47 => leave 2 (List.length H :: lo) xs47 r46.2)) := by
  rw [O_ent]
  kernel_rfl
-- backstitch/backstitchref4.flatVals
noncomputable def T75_8 : List It := labAt Try.prog cfg 75 8 (fun _ => none)
noncomputable def L75_8 (vals : List AV) (lo : List Nat) (H : Heap) : Res := O.lab 75 [0, 3, 4] (T75_8) vals lo H
theorem L75_8_eq (lo : List Nat) (v0 v3 v4 : AV) (H : Heap) : L75_8 [v0, v3, v4] lo H = (
(lenA .slice v0 H).bind fun x1 =>
(bin .lss .int v4 x1).bind fun x2 =>
cond x2 (
(idxA 2 v0 v4).bind fun x3 =>
(fldA 0 x3).bind fun x4 =>
(ld false 1 x4 H).bind fun x5 =>
(idxA 2 v0 v4).bind fun x6 =>
(fldA 1 x6).bind fun x7 =>
(ld false 1 x7 H).bind fun x8 =>
(litA false 1 [x5, x8] H).bind fun r9 =>
(appA 1 8 v3 r9.1 r9.2).bind fun r10 =>
(bin .add .int v4 (I 1)).bind fun x11 =>
L75_8 [v0, r10.1, x11] lo r10.2) (
leave 0 lo [v3] H)) := by
  show O.lab _ _ _ _ _ _ = _
  rw [O_lab]
  kernel_rfl
theorem f75_eq (a0 : AV) : O.ent 75 [a0] [] [] = (
(lenA .slice a0 []).bind fun x1 =>
(litA false 1 [x1] []).bind fun r2 =>
L75_8 [a0, r2.1, I 0] [] r2.2) := by
  rw [O_ent]
  kernel_rfl
-- backstitch/backstitchref4.flatFrames
noncomputable def T76_8 : List It := labAt Try.prog cfg 76 8 (fun _ => none)
noncomputable def L76_8 (vals : List AV) (lo : List Nat) (H : Heap) : Res := O.lab 76 [0, 3, 4] (T76_8) vals lo H
noncomputable def T76_22 : List It := labAt Try.prog cfg 76 22 (fun _ => none)
noncomputable def L76_22 (vals : List AV) (lo : List Nat) (H : Heap) : Res := O.lab 76 [0, 3, 4, 5, 6] (T76_22) vals lo H
theorem L76_8_eq (lo : List Nat) (v0 v3 v4 : AV) (H : Heap) : L76_8 [v0, v3, v4] lo H = (
(lenA .slice v0 H).bind fun x1 =>
(bin .lss .int v4 x1).bind fun x2 =>
cond x2 (
(idxA 8 v0 v4).bind fun x3 =>
(ld true 8 x3 H).bind fun x4 =>
(boxO [] [(I 0), (I 0), (I 0), (I 0), (I 0), (I 0), (.p nilS), (.p nilS)] H).bind fun r5 =>
((stA 8 r5.1 x4 lo r5.2).map fun H' => (undefA, H')).bind fun r6 =>
(fldA 0 r5.1).bind fun x7 =>
(ld false 1 x7 r6.2).bind fun x8 =>
(fldA 1 r5.1).bind fun x9 =>
(ld false 1 x9 r6.2).bind fun x10 =>
(fldA 2 r5.1).bind fun x11 =>
(ld false 1 x11 r6.2).bind fun x12 =>
(fldA 3 r5.1).bind fun x13 =>
(ld false 1 x13 r6.2).bind fun x14 =>
(fldA 4 r5.1).bind fun x15 =>
(fldA 0 x15).bind fun x16 =>
(ld false 1 x16 r6.2).bind fun x17 =>
(fldA 4 r5.1).bind fun x18 =>
(fldA 1 x18).bind fun x19 =>
(ld false 1 x19 r6.2).bind fun x20 =>
(litA false 1 [x8, x10, x12, x14, x17, x20] r6.2).bind fun r21 =>
(appA 1 8 v3 r21.1 r21.2).bind fun r22 =>
(fldA 6 r5.1).bind fun x23 =>
(ld false 1 x23 r22.2).bind fun x24 =>
(callA cfg O 75 [x24] lo r22.2).bind fun r25 =>
(appA 1 8 r22.1 r25.1 r25.2).bind fun r26 =>
(fldA 7 r5.1).bind fun x27 =>
(ld false 1 x27 r26.2).bind fun x28 =>
(lenA .slice x28 r26.2).bind fun x29 =>
(litA false 1 [x29] r26.2).bind fun r30 =>
(appA 1 8 r26.1 r30.1 r30.2).bind fun r31 =>
L76_22 [v0, r31.1, v4, r5.1, I 0] lo r31.2) (
leave 0 lo [v3] H)) := by
  show O.lab _ _ _ _ _ _ = _
  rw [O_lab]
  kernel_rfl
theorem L76_22_eq (lo : List Nat) (v0 v3 v4 v5 v6 : AV) (H : Heap) : L76_22 [v0, v3, v4, v5, v6] lo H = (
(fldA 7 v5).bind fun x1 =>
(ld false 1 x1 H).bind fun x2 =>
(lenA .slice x2 H).bind fun x3 =>
(bin .lss .int v6 x3).bind fun x4 =>
cond x4 (
(fldA 7 v5).bind fun x5 =>
(ld false 1 x5 H).bind fun x6 =>
(idxA 2 x6 v6).bind fun x7 =>
(fldA 0 x7).bind fun x8 =>
(ld false 1 x8 H).bind fun x9 =>
(fldA 7 v5).bind fun x10 =>
(ld false 1 x10 H).bind fun x11 =>
(idxA 2 x11 v6).bind fun x12 =>
(fldA 1 x12).bind fun x13 =>
(ld false 1 x13 H).bind fun x14 =>
(litA false 1 [x9, x14] H).bind fun r15 =>
(appA 1 8 v3 r15.1 r15.2).bind fun r16 =>
(bin .add .int v6 (I 1)).bind fun x17 =>
L76_22 [v0, r16.1, v4, v5, x17] lo r16.2) (
(bin .add .int v4 (I 1)).bind fun x18 =>
L76_8 [v0, v3, x18] lo H)) := by
  show O.lab _ _ _ _ _ _ = _
  rw [O_lab]
  kernel_rfl
theorem f76_eq (a0 : AV) : O.ent 76 [a0] [] [] = (
(lenA .slice a0 []).bind fun x1 =>
(litA false 1 [x1] []).bind fun r2 =>
L76_8 [a0, r2.1, I 0] [] r2.2) := by
  rw [O_ent]
  kernel_rfl
-- backstitch/snap.some[backstitch/api.Cell]
noncomputable def T101_11 : List It := labAt Try.prog cfg 101 11 (fun _ => none)
noncomputable def L101_11 (vals : List AV) (lo : List Nat) (H : Heap) : Res := O.lab 101 [0, 1, 5] (T101_11) vals lo H
noncomputable def T101_14 : List It := labAt Try.prog cfg 101 14 (fun _ => none)
noncomputable def L101_14 (vals : List AV) (lo : List Nat) (H : Heap) : Res := O.lab 101 [0, 1, 5, 6, 7] (T101_14) vals lo H
theorem L101_11_eq (lo : List Nat) (v0 v1 v5 : AV) (H : Heap) : L101_11 [v0, v1, v5] lo H = (
L101_14 [v0, v1, v5, .p nilS, I 0] lo H) := by
  show O.lab _ _ _ _ _ _ = _
  rw [O_lab]
  kernel_rfl
theorem L101_14_eq (lo : List Nat) (v0 v1 v5 v6 v7 : AV) (H : Heap) : L101_14 [v0, v1, v5, v6, v7] lo H = (
(bin .lss .int v7 v5).bind fun x1 =>
(gd x1 true (some v0)).bind fun x2 =>
(gd x1 true (nilCheckA x2)).bind fun x3 =>
(gd x1 true (fldA 1 x3)).bind fun x4 =>
(gd x1 true (ld false 1 x4 H)).bind fun x5 =>
(gd x1 true (un .not x5)).bind fun x6 =>
(pickA x1 x6 (B false)).bind fun x7 =>
cond x7 (
(callV cfg O v1 [] lo H).bind fun r8 =>
(litA false 4 [r8.1] r8.2).bind fun r9 =>
(appA 4 64 v6 r9.1 r9.2).bind fun r10 =>
(bin .add .int v7 (I 1)).bind fun x11 =>
L101_14 [v0, v1, v5, r10.1, x11] lo r10.2) (
leave 1 lo [v6] H)) := by
  show O.lab _ _ _ _ _ _ = _
  rw [O_lab]
  kernel_rfl
theorem f101_eq (a0 a1 : AV) (lo : List Nat) (H : Heap) : O.ent 101 [a0, a1] lo H = (
(callA cfg O 113 [a0] lo H).bind fun r1 =>
(bin .lss .int r1.1 (I 0)).bind fun x2 =>
(gd x2 false (some r1.1)).bind fun x3 =>
(gd x2 false (some a0)).bind fun x4 =>
(gd x2 false (nilCheckA x4)).bind fun x5 =>
(gd x2 false (fldA 0 x5)).bind fun x6 =>
(gd x2 false (ld false 1 x6 r1.2)).bind fun x7 =>
(gd x2 false (lenA .slice x7 r1.2)).bind fun x8 =>
(gd x2 false (bin .gtr .int x3 x8)).bind fun x9 =>
(pickA x2 (B true) x9).bind fun x10 =>
cond x10 (
(nilCheckA a0).bind fun x11 =>
(fldA 1 x11).bind fun x12 =>
((stA 1 x12 (B true) lo r1.2).map fun H' => (undefA, H')).bind fun r13 =>
L101_11 [a0, a1, r1.1] lo r13.2) (
L101_11 [a0, a1, r1.1] lo r1.2)) := by
  rw [O_ent]
  kernel_rfl
-- (*backstitch/snap.reader).cell
theorem f102_eq (a0 : AV) (lo : List Nat) (H : Heap) : O.ent 102 [a0] lo H = (
(boxO [] [(I 0), (I 0), (.p nilS), (.p nilS)] H).bind fun r1 =>
(callA cfg O 113 [a0] lo r1.2).bind fun r2 =>
(callA cfg O 113 [a0] lo r2.2).bind fun r3 =>
(fldA 0 r1.1).bind fun x4 =>
((stA 1 x4 r2.1 lo r3.2).map fun H' => (undefA, H')).bind fun r5 =>
(fldA 1 r1.1).bind fun x6 =>
((stA 1 x6 r3.1 lo r5.2).map fun H' => (undefA, H')).bind fun r7 =>
(callA cfg O 111 [a0, .fn 112 [a0] []] lo r7.2).bind fun r8 =>
(fldA 2 r1.1).bind fun x9 =>
((stA 1 x9 r8.1 lo r8.2).map fun H' => (undefA, H')).bind fun r10 =>
(callA cfg O 140 [a0, .fn 141 [a0] []] lo r10.2).bind fun r11 =>
(fldA 3 r1.1).bind fun x12 =>
((stA 1 x12 r11.1 lo r11.2).map fun H' => (undefA, H')).bind fun r13 =>
(ld true 4 r1.1 r13.2).bind fun x14 =>
((stA 4 r1.1 x14 lo r13.2).map fun H' => (undefA, H')).bind fun r15 =>
((ld true 4 r1.1 r15.2).bind fun x17 => (some []).map fun q18 => x17 :: q18).bind fun xs16 => leave 1 lo xs16 r15.2) := by
  rw [O_ent]
  kernel_rfl
-- backstitch/snap.some[backstitch/api.Shape]
noncomputable def T103_11 : List It := labAt Try.prog cfg 103 11 (fun _ => none)
noncomputable def L103_11 (vals : List AV) (lo : List Nat) (H : Heap) : Res := O.lab 103 [0, 1, 5] (T103_11) vals lo H
noncomputable def T103_14 : List It := labAt Try.prog cfg 103 14 (fun _ => none)
noncomputable def L103_14 (vals : List AV) (lo : List Nat) (H : Heap) : Res := O.lab 103 [0, 1, 5, 6, 7] (T103_14) vals lo H
theorem L103_11_eq (lo : List Nat) (v0 v1 v5 : AV) (H : Heap) : L103_11 [v0, v1, v5] lo H = (
L103_14 [v0, v1, v5, .p nilS, I 0] lo H) := by
  show O.lab _ _ _ _ _ _ = _
  rw [O_lab]
  kernel_rfl
theorem L103_14_eq (lo : List Nat) (v0 v1 v5 v6 v7 : AV) (H : Heap) : L103_14 [v0, v1, v5, v6, v7] lo H = (
(bin .lss .int v7 v5).bind fun x1 =>
(gd x1 true (some v0)).bind fun x2 =>
(gd x1 true (nilCheckA x2)).bind fun x3 =>
(gd x1 true (fldA 1 x3)).bind fun x4 =>
(gd x1 true (ld false 1 x4 H)).bind fun x5 =>
(gd x1 true (un .not x5)).bind fun x6 =>
(pickA x1 x6 (B false)).bind fun x7 =>
cond x7 (
(callV cfg O v1 [] lo H).bind fun r8 =>
(litA false 2 [r8.1] r8.2).bind fun r9 =>
(appA 2 16 v6 r9.1 r9.2).bind fun r10 =>
(bin .add .int v7 (I 1)).bind fun x11 =>
L103_14 [v0, v1, v5, r10.1, x11] lo r10.2) (
leave 1 lo [v6] H)) := by
  show O.lab _ _ _ _ _ _ = _
  rw [O_lab]
  kernel_rfl
theorem f103_eq (a0 a1 : AV) (lo : List Nat) (H : Heap) : O.ent 103 [a0, a1] lo H = (
(callA cfg O 113 [a0] lo H).bind fun r1 =>
(bin .lss .int r1.1 (I 0)).bind fun x2 =>
(gd x2 false (some r1.1)).bind fun x3 =>
(gd x2 false (some a0)).bind fun x4 =>
(gd x2 false (nilCheckA x4)).bind fun x5 =>
(gd x2 false (fldA 0 x5)).bind fun x6 =>
(gd x2 false (ld false 1 x6 r1.2)).bind fun x7 =>
(gd x2 false (lenA .slice x7 r1.2)).bind fun x8 =>
(gd x2 false (bin .gtr .int x3 x8)).bind fun x9 =>
(pickA x2 (B true) x9).bind fun x10 =>
cond x10 (
(nilCheckA a0).bind fun x11 =>
(fldA 1 x11).bind fun x12 =>
((stA 1 x12 (B true) lo r1.2).map fun H' => (undefA, H')).bind fun r13 =>
L103_11 [a0, a1, r1.1] lo r13.2) (
L103_11 [a0, a1, r1.1] lo r1.2)) := by
  rw [O_ent]
  kernel_rfl
-- (*backstitch/snap.reader).shape
theorem f104_eq (a0 : AV) (lo : List Nat) (H : Heap) : O.ent 104 [a0] lo H = (
(boxO [] [(I 0), (I 0)] H).bind fun r1 =>
(callA cfg O 113 [a0] lo r1.2).bind fun r2 =>
(callA cfg O 113 [a0] lo r2.2).bind fun r3 =>
(buildA [(I 0), (I 0)] [(0, 1, r2.1), (1, 1, r3.1)]).bind fun x4 =>
((stA 2 r1.1 x4 lo r3.2).map fun H' => (undefA, H')).bind fun r5 =>
((ld true 2 r1.1 r5.2).bind fun x7 => (some []).map fun q8 => x7 :: q8).bind fun xs6 => leave 1 lo xs6 r5.2) := by
  rw [O_ent]
  kernel_rfl
-- backstitch/snap.some[string]
noncomputable def T105_11 : List It := labAt Try.prog cfg 105 11 (fun _ => none)
noncomputable def L105_11 (vals : List AV) (lo : List Nat) (H : Heap) : Res := O.lab 105 [0, 1, 5] (T105_11) vals lo H
noncomputable def T105_14 : List It := labAt Try.prog cfg 105 14 (fun _ => none)
noncomputable def L105_14 (vals : List AV) (lo : List Nat) (H : Heap) : Res := O.lab 105 [0, 1, 5, 6, 7] (T105_14) vals lo H
theorem L105_11_eq (lo : List Nat) (v0 v1 v5 : AV) (H : Heap) : L105_11 [v0, v1, v5] lo H = (
L105_14 [v0, v1, v5, .p nilS, I 0] lo H) := by
  show O.lab _ _ _ _ _ _ = _
  rw [O_lab]
  kernel_rfl
theorem L105_14_eq (lo : List Nat) (v0 v1 v5 v6 v7 : AV) (H : Heap) : L105_14 [v0, v1, v5, v6, v7] lo H = (
(bin .lss .int v7 v5).bind fun x1 =>
(gd x1 true (some v0)).bind fun x2 =>
(gd x1 true (nilCheckA x2)).bind fun x3 =>
(gd x1 true (fldA 1 x3)).bind fun x4 =>
(gd x1 true (ld false 1 x4 H)).bind fun x5 =>
(gd x1 true (un .not x5)).bind fun x6 =>
(pickA x1 x6 (B false)).bind fun x7 =>
cond x7 (
(callV cfg O v1 [] lo H).bind fun r8 =>
(litA false 1 [r8.1] r8.2).bind fun r9 =>
(appA 1 16 v6 r9.1 r9.2).bind fun r10 =>
(bin .add .int v7 (I 1)).bind fun x11 =>
L105_14 [v0, v1, v5, r10.1, x11] lo r10.2) (
leave 1 lo [v6] H)) := by
  show O.lab _ _ _ _ _ _ = _
  rw [O_lab]
  kernel_rfl
theorem f105_eq (a0 a1 : AV) (lo : List Nat) (H : Heap) : O.ent 105 [a0, a1] lo H = (
(callA cfg O 113 [a0] lo H).bind fun r1 =>
(bin .lss .int r1.1 (I 0)).bind fun x2 =>
(gd x2 false (some r1.1)).bind fun x3 =>
(gd x2 false (some a0)).bind fun x4 =>
(gd x2 false (nilCheckA x4)).bind fun x5 =>
(gd x2 false (fldA 0 x5)).bind fun x6 =>
(gd x2 false (ld false 1 x6 r1.2)).bind fun x7 =>
(gd x2 false (lenA .slice x7 r1.2)).bind fun x8 =>
(gd x2 false (bin .gtr .int x3 x8)).bind fun x9 =>
(pickA x2 (B true) x9).bind fun x10 =>
cond x10 (
(nilCheckA a0).bind fun x11 =>
(fldA 1 x11).bind fun x12 =>
((stA 1 x12 (B true) lo r1.2).map fun H' => (undefA, H')).bind fun r13 =>
L105_11 [a0, a1, r1.1] lo r13.2) (
L105_11 [a0, a1, r1.1] lo r1.2)) := by
  rw [O_ent]
  kernel_rfl
-- (*backstitch/snap.reader).text
theorem f106_eq (a0 : AV) (lo : List Nat) (H : Heap) : O.ent 106 [a0] lo H = (
(callA cfg O 142 [a0, .fn 143 [a0] []] lo H).bind fun r1 =>
(conv .toStr r1.1).bind fun x2 =>
leave 1 lo [x2] r1.2) := by
  rw [O_ent]
  kernel_rfl
-- backstitch/snap.some[backstitch/api.Thread]
noncomputable def T107_11 : List It := labAt Try.prog cfg 107 11 (fun _ => none)
noncomputable def L107_11 (vals : List AV) (lo : List Nat) (H : Heap) : Res := O.lab 107 [0, 1, 5] (T107_11) vals lo H
noncomputable def T107_14 : List It := labAt Try.prog cfg 107 14 (fun _ => none)
noncomputable def L107_14 (vals : List AV) (lo : List Nat) (H : Heap) : Res := O.lab 107 [0, 1, 5, 6, 7] (T107_14) vals lo H
theorem L107_11_eq (lo : List Nat) (v0 v1 v5 : AV) (H : Heap) : L107_11 [v0, v1, v5] lo H = (
L107_14 [v0, v1, v5, .p nilS, I 0] lo H) := by
  show O.lab _ _ _ _ _ _ = _
  rw [O_lab]
  kernel_rfl
theorem L107_14_eq (lo : List Nat) (v0 v1 v5 v6 v7 : AV) (H : Heap) : L107_14 [v0, v1, v5, v6, v7] lo H = (
(bin .lss .int v7 v5).bind fun x1 =>
(gd x1 true (some v0)).bind fun x2 =>
(gd x1 true (nilCheckA x2)).bind fun x3 =>
(gd x1 true (fldA 1 x3)).bind fun x4 =>
(gd x1 true (ld false 1 x4 H)).bind fun x5 =>
(gd x1 true (un .not x5)).bind fun x6 =>
(pickA x1 x6 (B false)).bind fun x7 =>
cond x7 (
(callV cfg O v1 [] lo H).bind fun r8 =>
(litA false 5 [r8.1] r8.2).bind fun r9 =>
(appA 5 56 v6 r9.1 r9.2).bind fun r10 =>
(bin .add .int v7 (I 1)).bind fun x11 =>
L107_14 [v0, v1, v5, r10.1, x11] lo r10.2) (
leave 1 lo [v6] H)) := by
  show O.lab _ _ _ _ _ _ = _
  rw [O_lab]
  kernel_rfl
theorem f107_eq (a0 a1 : AV) (lo : List Nat) (H : Heap) : O.ent 107 [a0, a1] lo H = (
(callA cfg O 113 [a0] lo H).bind fun r1 =>
(bin .lss .int r1.1 (I 0)).bind fun x2 =>
(gd x2 false (some r1.1)).bind fun x3 =>
(gd x2 false (some a0)).bind fun x4 =>
(gd x2 false (nilCheckA x4)).bind fun x5 =>
(gd x2 false (fldA 0 x5)).bind fun x6 =>
(gd x2 false (ld false 1 x6 r1.2)).bind fun x7 =>
(gd x2 false (lenA .slice x7 r1.2)).bind fun x8 =>
(gd x2 false (bin .gtr .int x3 x8)).bind fun x9 =>
(pickA x2 (B true) x9).bind fun x10 =>
cond x10 (
(nilCheckA a0).bind fun x11 =>
(fldA 1 x11).bind fun x12 =>
((stA 1 x12 (B true) lo r1.2).map fun H' => (undefA, H')).bind fun r13 =>
L107_11 [a0, a1, r1.1] lo r13.2) (
L107_11 [a0, a1, r1.1] lo r1.2)) := by
  rw [O_ent]
  kernel_rfl
-- (*backstitch/snap.reader).thread
theorem f108_eq (a0 : AV) (lo : List Nat) (H : Heap) : O.ent 108 [a0] lo H = (
(boxO [] [(.p nilS), (I 0), (I 0), (I 0), (I 0)] H).bind fun r1 =>
(callA cfg O 140 [a0, .fn 141 [a0] []] lo r1.2).bind fun r2 =>
(fldA 0 r1.1).bind fun x3 =>
((stA 1 x3 r2.1 lo r2.2).map fun H' => (undefA, H')).bind fun r4 =>
(callA cfg O 113 [a0] lo r4.2).bind fun r5 =>
(callA cfg O 113 [a0] lo r5.2).bind fun r6 =>
(fldA 1 r1.1).bind fun x7 =>
((stA 1 x7 r5.1 lo r6.2).map fun H' => (undefA, H')).bind fun r8 =>
(fldA 2 r1.1).bind fun x9 =>
((stA 1 x9 r6.1 lo r8.2).map fun H' => (undefA, H')).bind fun r10 =>
(callA cfg O 112 [a0] lo r10.2).bind fun r11 =>
(fldA 3 r1.1).bind fun x12 =>
((stA 2 x12 r11.1 lo r11.2).map fun H' => (undefA, H')).bind fun r13 =>
(ld true 5 r1.1 r13.2).bind fun x14 =>
((stA 5 r1.1 x14 lo r13.2).map fun H' => (undefA, H')).bind fun r15 =>
((ld true 5 r1.1 r15.2).bind fun x17 => (some []).map fun q18 => x17 :: q18).bind fun xs16 => leave 1 lo xs16 r15.2) := by
  rw [O_ent]
  kernel_rfl
-- backstitch/snap.some[backstitch/api.End]
noncomputable def T109_11 : List It := labAt Try.prog cfg 109 11 (fun _ => none)
noncomputable def L109_11 (vals : List AV) (lo : List Nat) (H : Heap) : Res := O.lab 109 [0, 1, 5] (T109_11) vals lo H
noncomputable def T109_14 : List It := labAt Try.prog cfg 109 14 (fun _ => none)
noncomputable def L109_14 (vals : List AV) (lo : List Nat) (H : Heap) : Res := O.lab 109 [0, 1, 5, 6, 7] (T109_14) vals lo H
theorem L109_11_eq (lo : List Nat) (v0 v1 v5 : AV) (H : Heap) : L109_11 [v0, v1, v5] lo H = (
L109_14 [v0, v1, v5, .p nilS, I 0] lo H) := by
  show O.lab _ _ _ _ _ _ = _
  rw [O_lab]
  kernel_rfl
theorem L109_14_eq (lo : List Nat) (v0 v1 v5 v6 v7 : AV) (H : Heap) : L109_14 [v0, v1, v5, v6, v7] lo H = (
(bin .lss .int v7 v5).bind fun x1 =>
(gd x1 true (some v0)).bind fun x2 =>
(gd x1 true (nilCheckA x2)).bind fun x3 =>
(gd x1 true (fldA 1 x3)).bind fun x4 =>
(gd x1 true (ld false 1 x4 H)).bind fun x5 =>
(gd x1 true (un .not x5)).bind fun x6 =>
(pickA x1 x6 (B false)).bind fun x7 =>
cond x7 (
(callV cfg O v1 [] lo H).bind fun r8 =>
(litA false 3 [r8.1] r8.2).bind fun r9 =>
(appA 3 24 v6 r9.1 r9.2).bind fun r10 =>
(bin .add .int v7 (I 1)).bind fun x11 =>
L109_14 [v0, v1, v5, r10.1, x11] lo r10.2) (
leave 1 lo [v6] H)) := by
  show O.lab _ _ _ _ _ _ = _
  rw [O_lab]
  kernel_rfl
theorem f109_eq (a0 a1 : AV) (lo : List Nat) (H : Heap) : O.ent 109 [a0, a1] lo H = (
(callA cfg O 113 [a0] lo H).bind fun r1 =>
(bin .lss .int r1.1 (I 0)).bind fun x2 =>
(gd x2 false (some r1.1)).bind fun x3 =>
(gd x2 false (some a0)).bind fun x4 =>
(gd x2 false (nilCheckA x4)).bind fun x5 =>
(gd x2 false (fldA 0 x5)).bind fun x6 =>
(gd x2 false (ld false 1 x6 r1.2)).bind fun x7 =>
(gd x2 false (lenA .slice x7 r1.2)).bind fun x8 =>
(gd x2 false (bin .gtr .int x3 x8)).bind fun x9 =>
(pickA x2 (B true) x9).bind fun x10 =>
cond x10 (
(nilCheckA a0).bind fun x11 =>
(fldA 1 x11).bind fun x12 =>
((stA 1 x12 (B true) lo r1.2).map fun H' => (undefA, H')).bind fun r13 =>
L109_11 [a0, a1, r1.1] lo r13.2) (
L109_11 [a0, a1, r1.1] lo r1.2)) := by
  rw [O_ent]
  kernel_rfl
-- (*backstitch/snap.reader).end
theorem f110_eq (a0 : AV) (lo : List Nat) (H : Heap) : O.ent 110 [a0] lo H = (
(boxO [] [(I 0), (I 0), (I 0)] H).bind fun r1 =>
(callA cfg O 113 [a0] lo r1.2).bind fun r2 =>
(fldA 0 r1.1).bind fun x3 =>
((stA 1 x3 r2.1 lo r2.2).map fun H' => (undefA, H')).bind fun r4 =>
(callA cfg O 112 [a0] lo r4.2).bind fun r5 =>
(fldA 1 r1.1).bind fun x6 =>
((stA 2 x6 r5.1 lo r5.2).map fun H' => (undefA, H')).bind fun r7 =>
(ld true 3 r1.1 r7.2).bind fun x8 =>
((stA 3 r1.1 x8 lo r7.2).map fun H' => (undefA, H')).bind fun r9 =>
((ld true 3 r1.1 r9.2).bind fun x11 => (some []).map fun q12 => x11 :: q12).bind fun xs10 => leave 1 lo xs10 r9.2) := by
  rw [O_ent]
  kernel_rfl
-- backstitch/snap.some[backstitch/api.Val]
noncomputable def T111_11 : List It := labAt Try.prog cfg 111 11 (fun _ => none)
noncomputable def L111_11 (vals : List AV) (lo : List Nat) (H : Heap) : Res := O.lab 111 [0, 1, 5] (T111_11) vals lo H
noncomputable def T111_14 : List It := labAt Try.prog cfg 111 14 (fun _ => none)
noncomputable def L111_14 (vals : List AV) (lo : List Nat) (H : Heap) : Res := O.lab 111 [0, 1, 5, 6, 7] (T111_14) vals lo H
theorem L111_11_eq (lo : List Nat) (v0 v1 v5 : AV) (H : Heap) : L111_11 [v0, v1, v5] lo H = (
L111_14 [v0, v1, v5, .p nilS, I 0] lo H) := by
  show O.lab _ _ _ _ _ _ = _
  rw [O_lab]
  kernel_rfl
theorem L111_14_eq (lo : List Nat) (v0 v1 v5 v6 v7 : AV) (H : Heap) : L111_14 [v0, v1, v5, v6, v7] lo H = (
(bin .lss .int v7 v5).bind fun x1 =>
(gd x1 true (some v0)).bind fun x2 =>
(gd x1 true (nilCheckA x2)).bind fun x3 =>
(gd x1 true (fldA 1 x3)).bind fun x4 =>
(gd x1 true (ld false 1 x4 H)).bind fun x5 =>
(gd x1 true (un .not x5)).bind fun x6 =>
(pickA x1 x6 (B false)).bind fun x7 =>
cond x7 (
(callV cfg O v1 [] lo H).bind fun r8 =>
(litA false 2 [r8.1] r8.2).bind fun r9 =>
(appA 2 16 v6 r9.1 r9.2).bind fun r10 =>
(bin .add .int v7 (I 1)).bind fun x11 =>
L111_14 [v0, v1, v5, r10.1, x11] lo r10.2) (
leave 1 lo [v6] H)) := by
  show O.lab _ _ _ _ _ _ = _
  rw [O_lab]
  kernel_rfl
theorem f111_eq (a0 a1 : AV) (lo : List Nat) (H : Heap) : O.ent 111 [a0, a1] lo H = (
(callA cfg O 113 [a0] lo H).bind fun r1 =>
(bin .lss .int r1.1 (I 0)).bind fun x2 =>
(gd x2 false (some r1.1)).bind fun x3 =>
(gd x2 false (some a0)).bind fun x4 =>
(gd x2 false (nilCheckA x4)).bind fun x5 =>
(gd x2 false (fldA 0 x5)).bind fun x6 =>
(gd x2 false (ld false 1 x6 r1.2)).bind fun x7 =>
(gd x2 false (lenA .slice x7 r1.2)).bind fun x8 =>
(gd x2 false (bin .gtr .int x3 x8)).bind fun x9 =>
(pickA x2 (B true) x9).bind fun x10 =>
cond x10 (
(nilCheckA a0).bind fun x11 =>
(fldA 1 x11).bind fun x12 =>
((stA 1 x12 (B true) lo r1.2).map fun H' => (undefA, H')).bind fun r13 =>
L111_11 [a0, a1, r1.1] lo r13.2) (
L111_11 [a0, a1, r1.1] lo r1.2)) := by
  rw [O_ent]
  kernel_rfl
-- (*backstitch/snap.reader).val
theorem f112_eq (a0 : AV) (lo : List Nat) (H : Heap) : O.ent 112 [a0] lo H = (
(boxO [] [(I 0), (I 0)] H).bind fun r1 =>
(callA cfg O 113 [a0] lo r1.2).bind fun r2 =>
(callA cfg O 113 [a0] lo r2.2).bind fun r3 =>
(buildA [(I 0), (I 0)] [(0, 1, r2.1), (1, 1, r3.1)]).bind fun x4 =>
((stA 2 r1.1 x4 lo r3.2).map fun H' => (undefA, H')).bind fun r5 =>
((ld true 2 r1.1 r5.2).bind fun x7 => (some []).map fun q8 => x7 :: q8).bind fun xs6 => leave 1 lo xs6 r5.2) := by
  rw [O_ent]
  kernel_rfl
-- (*backstitch/snap.reader).num
theorem f113_eq (a0 : AV) (lo : List Nat) (H : Heap) : O.ent 113 [a0] lo H = (
(nilCheckA a0).bind fun x1 =>
(fldA 1 x1).bind fun x2 =>
(ld false 1 x2 H).bind fun x3 =>
(gd x3 false (some a0)).bind fun x4 =>
(gd x3 false (nilCheckA x4)).bind fun x5 =>
(gd x3 false (fldA 0 x5)).bind fun x6 =>
(gd x3 false (ld false 1 x6 H)).bind fun x7 =>
(gd x3 false (lenA .slice x7 H)).bind fun x8 =>
(gd x3 false (bin .eql .int x8 (I 0))).bind fun x9 =>
(pickA x3 (B true) x9).bind fun x10 =>
cond x10 (
(nilCheckA a0).bind fun x11 =>
(fldA 1 x11).bind fun x12 =>
((stA 1 x12 (B true) lo H).map fun H' => (undefA, H')).bind fun r13 =>
leave 1 lo [I 0] r13.2) (
(nilCheckA a0).bind fun x14 =>
(fldA 0 x14).bind fun x15 =>
(ld false 1 x15 H).bind fun x16 =>
(idxA 1 x16 (I 0)).bind fun x17 =>
(ld false 1 x17 H).bind fun x18 =>
(nilCheckA a0).bind fun x19 =>
(fldA 0 x19).bind fun x20 =>
(ld false 1 x20 H).bind fun x21 =>
(cutA 1 x21 (some (I 1)) none none H).bind fun x22 =>
(nilCheckA a0).bind fun x23 =>
(fldA 0 x23).bind fun x24 =>
((stA 1 x24 x22 lo H).map fun H' => (undefA, H')).bind fun r25 =>
leave 1 lo [x18] r25.2)) := by
  rw [O_ent]
  kernel_rfl
-- backstitch/snap.some[backstitch/api.Frame]
noncomputable def T140_11 : List It := labAt Try.prog cfg 140 11 (fun _ => none)
noncomputable def L140_11 (vals : List AV) (lo : List Nat) (H : Heap) : Res := O.lab 140 [0, 1, 5] (T140_11) vals lo H
noncomputable def T140_14 : List It := labAt Try.prog cfg 140 14 (fun _ => none)
noncomputable def L140_14 (vals : List AV) (lo : List Nat) (H : Heap) : Res := O.lab 140 [0, 1, 5, 6, 7] (T140_14) vals lo H
theorem L140_11_eq (lo : List Nat) (v0 v1 v5 : AV) (H : Heap) : L140_11 [v0, v1, v5] lo H = (
L140_14 [v0, v1, v5, .p nilS, I 0] lo H) := by
  show O.lab _ _ _ _ _ _ = _
  rw [O_lab]
  kernel_rfl
theorem L140_14_eq (lo : List Nat) (v0 v1 v5 v6 v7 : AV) (H : Heap) : L140_14 [v0, v1, v5, v6, v7] lo H = (
(bin .lss .int v7 v5).bind fun x1 =>
(gd x1 true (some v0)).bind fun x2 =>
(gd x1 true (nilCheckA x2)).bind fun x3 =>
(gd x1 true (fldA 1 x3)).bind fun x4 =>
(gd x1 true (ld false 1 x4 H)).bind fun x5 =>
(gd x1 true (un .not x5)).bind fun x6 =>
(pickA x1 x6 (B false)).bind fun x7 =>
cond x7 (
(callV cfg O v1 [] lo H).bind fun r8 =>
(litA false 8 [r8.1] r8.2).bind fun r9 =>
(appA 8 96 v6 r9.1 r9.2).bind fun r10 =>
(bin .add .int v7 (I 1)).bind fun x11 =>
L140_14 [v0, v1, v5, r10.1, x11] lo r10.2) (
leave 1 lo [v6] H)) := by
  show O.lab _ _ _ _ _ _ = _
  rw [O_lab]
  kernel_rfl
theorem f140_eq (a0 a1 : AV) (lo : List Nat) (H : Heap) : O.ent 140 [a0, a1] lo H = (
(callA cfg O 113 [a0] lo H).bind fun r1 =>
(bin .lss .int r1.1 (I 0)).bind fun x2 =>
(gd x2 false (some r1.1)).bind fun x3 =>
(gd x2 false (some a0)).bind fun x4 =>
(gd x2 false (nilCheckA x4)).bind fun x5 =>
(gd x2 false (fldA 0 x5)).bind fun x6 =>
(gd x2 false (ld false 1 x6 r1.2)).bind fun x7 =>
(gd x2 false (lenA .slice x7 r1.2)).bind fun x8 =>
(gd x2 false (bin .gtr .int x3 x8)).bind fun x9 =>
(pickA x2 (B true) x9).bind fun x10 =>
cond x10 (
(nilCheckA a0).bind fun x11 =>
(fldA 1 x11).bind fun x12 =>
((stA 1 x12 (B true) lo r1.2).map fun H' => (undefA, H')).bind fun r13 =>
L140_11 [a0, a1, r1.1] lo r13.2) (
L140_11 [a0, a1, r1.1] lo r1.2)) := by
  rw [O_ent]
  kernel_rfl
-- (*backstitch/snap.reader).frame
theorem f141_eq (a0 : AV) (lo : List Nat) (H : Heap) : O.ent 141 [a0] lo H = (
(boxO [] [(I 0), (I 0), (I 0), (I 0), (I 0), (I 0), (.p nilS), (.p nilS)] H).bind fun r1 =>
(callA cfg O 113 [a0] lo r1.2).bind fun r2 =>
(callA cfg O 113 [a0] lo r2.2).bind fun r3 =>
(callA cfg O 113 [a0] lo r3.2).bind fun r4 =>
(callA cfg O 113 [a0] lo r4.2).bind fun r5 =>
(fldA 0 r1.1).bind fun x6 =>
((stA 1 x6 r2.1 lo r5.2).map fun H' => (undefA, H')).bind fun r7 =>
(fldA 1 r1.1).bind fun x8 =>
((stA 1 x8 r3.1 lo r7.2).map fun H' => (undefA, H')).bind fun r9 =>
(fldA 2 r1.1).bind fun x10 =>
((stA 1 x10 r4.1 lo r9.2).map fun H' => (undefA, H')).bind fun r11 =>
(fldA 3 r1.1).bind fun x12 =>
((stA 1 x12 r5.1 lo r11.2).map fun H' => (undefA, H')).bind fun r13 =>
(callA cfg O 112 [a0] lo r13.2).bind fun r14 =>
(fldA 4 r1.1).bind fun x15 =>
((stA 2 x15 r14.1 lo r14.2).map fun H' => (undefA, H')).bind fun r16 =>
(callA cfg O 111 [a0, .fn 112 [a0] []] lo r16.2).bind fun r17 =>
(fldA 6 r1.1).bind fun x18 =>
((stA 1 x18 r17.1 lo r17.2).map fun H' => (undefA, H')).bind fun r19 =>
(callA cfg O 152 [a0, .fn 153 [a0] []] lo r19.2).bind fun r20 =>
(fldA 7 r1.1).bind fun x21 =>
((stA 1 x21 r20.1 lo r20.2).map fun H' => (undefA, H')).bind fun r22 =>
(ld true 8 r1.1 r22.2).bind fun x23 =>
((stA 8 r1.1 x23 lo r22.2).map fun H' => (undefA, H')).bind fun r24 =>
((ld true 8 r1.1 r24.2).bind fun x26 => (some []).map fun q27 => x26 :: q27).bind fun xs25 => leave 1 lo xs25 r24.2) := by
  rw [O_ent]
  kernel_rfl
-- backstitch/snap.some[byte]
noncomputable def T142_11 : List It := labAt Try.prog cfg 142 11 (fun _ => none)
noncomputable def L142_11 (vals : List AV) (lo : List Nat) (H : Heap) : Res := O.lab 142 [0, 1, 5] (T142_11) vals lo H
noncomputable def T142_14 : List It := labAt Try.prog cfg 142 14 (fun _ => none)
noncomputable def L142_14 (vals : List AV) (lo : List Nat) (H : Heap) : Res := O.lab 142 [0, 1, 5, 6, 7] (T142_14) vals lo H
theorem L142_11_eq (lo : List Nat) (v0 v1 v5 : AV) (H : Heap) : L142_11 [v0, v1, v5] lo H = (
L142_14 [v0, v1, v5, .p nilS, I 0] lo H) := by
  show O.lab _ _ _ _ _ _ = _
  rw [O_lab]
  kernel_rfl
theorem L142_14_eq (lo : List Nat) (v0 v1 v5 v6 v7 : AV) (H : Heap) : L142_14 [v0, v1, v5, v6, v7] lo H = (
(bin .lss .int v7 v5).bind fun x1 =>
(gd x1 true (some v0)).bind fun x2 =>
(gd x1 true (nilCheckA x2)).bind fun x3 =>
(gd x1 true (fldA 1 x3)).bind fun x4 =>
(gd x1 true (ld false 1 x4 H)).bind fun x5 =>
(gd x1 true (un .not x5)).bind fun x6 =>
(pickA x1 x6 (B false)).bind fun x7 =>
cond x7 (
(callV cfg O v1 [] lo H).bind fun r8 =>
(litA false 1 [r8.1] r8.2).bind fun r9 =>
(appA 1 1 v6 r9.1 r9.2).bind fun r10 =>
(bin .add .int v7 (I 1)).bind fun x11 =>
L142_14 [v0, v1, v5, r10.1, x11] lo r10.2) (
leave 2 lo [v6] H)) := by
  show O.lab _ _ _ _ _ _ = _
  rw [O_lab]
  kernel_rfl
theorem f142_eq (a0 a1 : AV) (lo : List Nat) (H : Heap) : O.ent 142 [a0, a1] lo H = (
(callA cfg O 113 [a0] (List.length H :: lo) H).bind fun r1 =>
(bin .lss .int r1.1 (I 0)).bind fun x2 =>
(gd x2 false (some r1.1)).bind fun x3 =>
(gd x2 false (some a0)).bind fun x4 =>
(gd x2 false (nilCheckA x4)).bind fun x5 =>
(gd x2 false (fldA 0 x5)).bind fun x6 =>
(gd x2 false (ld false 1 x6 r1.2)).bind fun x7 =>
(gd x2 false (lenA .slice x7 r1.2)).bind fun x8 =>
(gd x2 false (bin .gtr .int x3 x8)).bind fun x9 =>
(pickA x2 (B true) x9).bind fun x10 =>
cond x10 (
(nilCheckA a0).bind fun x11 =>
(fldA 1 x11).bind fun x12 =>
((stA 1 x12 (B true) (List.length H :: lo) r1.2).map fun H' => (undefA, H')).bind fun r13 =>
L142_11 [a0, a1, r1.1] (List.length H :: lo) r13.2) (
L142_11 [a0, a1, r1.1] (List.length H :: lo) r1.2)) := by
  rw [O_ent]
  kernel_rfl
-- (*backstitch/snap.reader).octet
theorem f143_eq (a0 : AV) (lo : List Nat) (H : Heap) : O.ent 143 [a0] lo H = (
(callA cfg O 113 [a0] lo H).bind fun r1 =>
(nilCheckA a0).bind fun x2 =>
(fldA 1 x2).bind fun x3 =>
(ld false 1 x3 r1.2).bind fun x4 =>
(gd x4 false (some r1.1)).bind fun x5 =>
(gd x4 false (bin .lss .int x5 (I 0))).bind fun x6 =>
(pickA x4 (B true) x6).bind fun x7 =>
(gd x7 false (some r1.1)).bind fun x8 =>
(gd x7 false (bin .gtr .int x8 (I 255))).bind fun x9 =>
(pickA x7 (B true) x9).bind fun x10 =>
(nilCheckA a0).bind fun x11 =>
(fldA 1 x11).bind fun x12 =>
((stA 1 x12 x10 lo r1.2).map fun H' => (undefA, H')).bind fun r13 =>
(conv (.int .u8) r1.1).bind fun x14 =>
leave 1 lo [x14] r13.2) := by
  rw [O_ent]
  kernel_rfl
-- backstitch/snap.some[backstitch/api.Try]
noncomputable def T152_11 : List It := labAt Try.prog cfg 152 11 (fun _ => none)
noncomputable def L152_11 (vals : List AV) (lo : List Nat) (H : Heap) : Res := O.lab 152 [0, 1, 5] (T152_11) vals lo H
noncomputable def T152_14 : List It := labAt Try.prog cfg 152 14 (fun _ => none)
noncomputable def L152_14 (vals : List AV) (lo : List Nat) (H : Heap) : Res := O.lab 152 [0, 1, 5, 6, 7] (T152_14) vals lo H
theorem L152_11_eq (lo : List Nat) (v0 v1 v5 : AV) (H : Heap) : L152_11 [v0, v1, v5] lo H = (
L152_14 [v0, v1, v5, .p nilS, I 0] lo H) := by
  show O.lab _ _ _ _ _ _ = _
  rw [O_lab]
  kernel_rfl
theorem L152_14_eq (lo : List Nat) (v0 v1 v5 v6 v7 : AV) (H : Heap) : L152_14 [v0, v1, v5, v6, v7] lo H = (
(bin .lss .int v7 v5).bind fun x1 =>
(gd x1 true (some v0)).bind fun x2 =>
(gd x1 true (nilCheckA x2)).bind fun x3 =>
(gd x1 true (fldA 1 x3)).bind fun x4 =>
(gd x1 true (ld false 1 x4 H)).bind fun x5 =>
(gd x1 true (un .not x5)).bind fun x6 =>
(pickA x1 x6 (B false)).bind fun x7 =>
cond x7 (
(callV cfg O v1 [] lo H).bind fun r8 =>
(litA false 2 [r8.1] r8.2).bind fun r9 =>
(appA 2 16 v6 r9.1 r9.2).bind fun r10 =>
(bin .add .int v7 (I 1)).bind fun x11 =>
L152_14 [v0, v1, v5, r10.1, x11] lo r10.2) (
leave 1 lo [v6] H)) := by
  show O.lab _ _ _ _ _ _ = _
  rw [O_lab]
  kernel_rfl
theorem f152_eq (a0 a1 : AV) (lo : List Nat) (H : Heap) : O.ent 152 [a0, a1] lo H = (
(callA cfg O 113 [a0] lo H).bind fun r1 =>
(bin .lss .int r1.1 (I 0)).bind fun x2 =>
(gd x2 false (some r1.1)).bind fun x3 =>
(gd x2 false (some a0)).bind fun x4 =>
(gd x2 false (nilCheckA x4)).bind fun x5 =>
(gd x2 false (fldA 0 x5)).bind fun x6 =>
(gd x2 false (ld false 1 x6 r1.2)).bind fun x7 =>
(gd x2 false (lenA .slice x7 r1.2)).bind fun x8 =>
(gd x2 false (bin .gtr .int x3 x8)).bind fun x9 =>
(pickA x2 (B true) x9).bind fun x10 =>
cond x10 (
(nilCheckA a0).bind fun x11 =>
(fldA 1 x11).bind fun x12 =>
((stA 1 x12 (B true) lo r1.2).map fun H' => (undefA, H')).bind fun r13 =>
L152_11 [a0, a1, r1.1] lo r13.2) (
L152_11 [a0, a1, r1.1] lo r1.2)) := by
  rw [O_ent]
  kernel_rfl
-- (*backstitch/snap.reader).try
theorem f153_eq (a0 : AV) (lo : List Nat) (H : Heap) : O.ent 153 [a0] lo H = (
(boxO [] [(I 0), (I 0)] H).bind fun r1 =>
(callA cfg O 113 [a0] lo r1.2).bind fun r2 =>
(callA cfg O 113 [a0] lo r2.2).bind fun r3 =>
(buildA [(I 0), (I 0)] [(0, 1, r2.1), (1, 1, r3.1)]).bind fun x4 =>
((stA 2 r1.1 x4 lo r3.2).map fun H' => (undefA, H')).bind fun r5 =>
((ld true 2 r1.1 r5.2).bind fun x7 => (some []).map fun q8 => x7 :: q8).bind fun xs6 => leave 1 lo xs6 r5.2) := by
  rw [O_ent]
  kernel_rfl
end Go.Proofs.Ytangmjeafnkfaaa
