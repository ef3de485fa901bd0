import Derived.Test.YtkhbbjfdbbnojaaCf
set_option linter.unusedVariables false
set_option maxRecDepth 100000
namespace Go.Proofs.Ytkhbbjfdbbnojaa
open Go Go.AM
-- backstitch/backstitchlaw4.PagesTells
noncomputable def T7_39 : List It := labAt Try.prog cfg 7 39 (fun _ => none)
noncomputable def L7_39 (vals : List AV) (lo : List Nat) (H : Heap) : Res := O.lab 7 [5, 11, 12, 13, 14, 15, 16, 17, 18, 19, 20, 21, 22, 23, 24, 25, 26, 27, 28, 29] (T7_39) vals lo H
noncomputable def T7_31 : List It := labAt Try.prog cfg 7 31 (fun _ => none)
noncomputable def L7_31 (vals : List AV) (lo : List Nat) (H : Heap) : Res := O.lab 7 [1, 2, 5, 11, 12, 13, 14, 15, 16, 17, 18, 19, 20, 21, 22, 23, 25, 26, 27, 28, 29] (T7_31) vals lo H
theorem L7_39_eq (lo : List Nat) (v5 v11 v12 v13 v14 v15 v16 v17 v18 v19 v20 v21 v22 v23 v24 v25 v26 v27 v28 v29 : AV) (H : Heap) : L7_39 [v5, v11, v12, v13, v14, v15, v16, v17, v18, v19, v20, v21, v22, v23, v24, v25, v26, v27, v28, v29] lo H = (
(ld true 3 v5 H).bind fun x1 =>
(callA cfg O 50 [x1] lo H).bind fun r2 =>
(bin .eql .int r2.1 v20).bind fun x3 =>
(gd x3 true (some v11)).bind fun x4 =>
(gd x3 true (some v27)).bind fun x5 =>
(gd x3 true (bin .eql .int x4 x5)).bind fun x6 =>
(pickA x3 x6 (B false)).bind fun x7 =>
(gd x7 true (some v12)).bind fun x8 =>
(gd x7 true (some v22)).bind fun x9 =>
(gd x7 true (bin .eql .int x8 x9)).bind fun x10 =>
(pickA x7 x10 (B false)).bind fun x11 =>
(gd x11 true (ld true 3 v13 r2.2)).bind fun x12 =>
(gd x11 true (ld true 3 v25 r2.2)).bind fun x13 =>
(gdH x11 true (callA cfg O 51 [x12, x13] lo r2.2) r2.2).bind fun r14 =>
(pickA x11 r14.1 (B false)).bind fun x15 =>
(gd x15 true (some v14)).bind fun x16 =>
(gd x15 true (some v28)).bind fun x17 =>
(gd x15 true (bin .eql .int x16 x17)).bind fun x18 =>
(pickA x15 x18 (B false)).bind fun x19 =>
(gd x19 true (some v15)).bind fun x20 =>
(gd x19 true (some v23)).bind fun x21 =>
(gd x19 true (bin .eql .int x20 x21)).bind fun x22 =>
(pickA x19 x22 (B false)).bind fun x23 =>
(gd x23 true (ld true 3 v16 r14.2)).bind fun x24 =>
(gd x23 true (ld true 3 v26 r14.2)).bind fun x25 =>
(gdH x23 true (callA cfg O 51 [x24, x25] lo r14.2) r14.2).bind fun r26 =>
(pickA x23 r26.1 (B false)).bind fun x27 =>
(gd x27 true (some v17)).bind fun x28 =>
(gd x27 true (some v21)).bind fun x29 =>
(gd x27 true (bin .eql .int x28 x29)).bind fun x30 =>
(pickA x27 x30 (B false)).bind fun x31 =>
(gd x31 true (some v18)).bind fun x32 =>
(gd x31 true (some v29)).bind fun x33 =>
(gd x31 true (bin .eql .int x32 x33)).bind fun x34 =>
(pickA x31 x34 (B false)).bind fun x35 =>
(gd x35 true (some v19)).bind fun x36 =>
(gd x35 true (some v24)).bind fun x37 =>
(gd x35 true (bin .eql .int x36 x37)).bind fun x38 =>
(pickA x35 x38 (B false)).bind fun x39 =>
leave 0 lo [x39] r26.2) := by
  show O.lab _ _ _ _ _ _ = _
  rw [O_lab]
  kernel_rfl
theorem L7_31_eq (lo : List Nat) (v1 v2 v5 v11 v12 v13 v14 v15 v16 v17 v18 v19 v20 v21 v22 v23 v25 v26 v27 v28 v29 : AV) (H : Heap) : L7_31 [v1, v2, v5, v11, v12, v13, v14, v15, v16, v17, v18, v19, v20, v21, v22, v23, v25, v26, v27, v28, v29] lo H = (
(ld true 3 v5 H).bind fun x1 =>
(callA cfg O 48 [x1, v1] lo H).bind fun r2 =>
((stA 3 v26 r2.1 lo r2.2).map fun H' => (undefA, H')).bind fun r3 =>
(ld true 3 v5 r3.2).bind fun x4 =>
(callA cfg O 45 [x4, v2] lo r3.2).bind fun r5 =>
(bin .eql .int r5.1 (I 0)).bind fun x6 =>
cond x6 (
(ld true 3 v5 r5.2).bind fun x7 =>
(callA cfg O 49 [x7, v1, v2] lo r5.2).bind fun r8 =>
L7_39 [v5, v11, v12, v13, v14, v15, v16, v17, v18, v19, v20, v21, v22, v23, r5.1, v25, v26, v27, v28, r8.1] lo r8.2) (
L7_39 [v5, v11, v12, v13, v14, v15, v16, v17, v18, v19, v20, v21, v22, v23, r5.1, v25, v26, v27, v28, v29] lo r5.2)) := by
  show O.lab _ _ _ _ _ _ = _
  rw [O_lab]
  kernel_rfl
theorem f7_eq (a0 a1 a2 a3 a4 : AV) : O.ent 7 [a0, a1, a2, a3, a4] [] [] = (
(boxO [] (AV.cells a0) []).bind fun r1 =>
(ld true 3 r1.1 r1.2).bind fun x2 =>
(callA cfg O 40 [x2, a1, a3] [] r1.2).bind fun r3 =>
(extractA r3.1 0).bind fun x4 =>
(extractA r3.1 1).bind fun x5 =>
(ld true 3 r1.1 r3.2).bind fun x6 =>
(callA cfg O 41 [x6, a1, a3, a4] [] r3.2).bind fun r7 =>
(extractA r7.1 0).bind fun x8 =>
(extractA r7.1 1).bind fun x9 =>
(extractA r7.1 2).bind fun x10 =>
(boxO [] [(.p nilS), (.p nilS), (.p nilS)] r7.2).bind fun r11 =>
((stA 3 r11.1 x8 [] r11.2).map fun H' => (undefA, H')).bind fun r12 =>
(ld true 3 r1.1 r12.2).bind fun x13 =>
(callA cfg O 42 [x13, a1] [] r12.2).bind fun r14 =>
(extractA r14.1 0).bind fun x15 =>
(extractA r14.1 1).bind fun x16 =>
(boxO [] [(.p nilS), (.p nilS), (.p nilS)] r14.2).bind fun r17 =>
((stA 3 r17.1 x15 [] r17.2).map fun H' => (undefA, H')).bind fun r18 =>
(ld true 3 r1.1 r18.2).bind fun x19 =>
(callA cfg O 43 [x19, a1, a2] [] r18.2).bind fun r20 =>
(extractA r20.1 0).bind fun x21 =>
(extractA r20.1 1).bind fun x22 =>
(ld true 3 r1.1 r20.2).bind fun x23 =>
(callA cfg O 44 [x23] [] r20.2).bind fun r24 =>
(ld true 3 r1.1 r24.2).bind fun x25 =>
(callA cfg O 45 [x25, a1] [] r24.2).bind fun r26 =>
(boxO [] [(.p nilS), (.p nilS), (.p nilS)] r26.2).bind fun r27 =>
(boxO [] [(.p nilS), (.p nilS), (.p nilS)] r27.2).bind fun r28 =>
(bin .eql .int r26.1 (I 0)).bind fun x29 =>
cond x29 (
(bin .lss .int a3 (I 0)).bind fun x30 =>
(gd x30 false (some a3)).bind fun x31 =>
(gd x30 false (bin .gtr .int x31 (I 63))).bind fun x32 =>
(pickA x30 (B true) x32).bind fun x33 =>
cond x33 (
L7_31 [a1, a2, r1.1, x4, x5, r11.1, x9, x10, r17.1, x16, x21, x22, r24.1, r26.1, I 1, I 1, r27.1, r28.1, I 0, I 0, I 0] [] r28.2) (
(ld true 3 r1.1 r28.2).bind fun x34 =>
(callA cfg O 46 [x34, a1, a3] [] r28.2).bind fun r35 =>
(ld true 3 r1.1 r35.2).bind fun x36 =>
(callA cfg O 47 [x36, a1, a3, a4] [] r35.2).bind fun r37 =>
(extractA r37.1 0).bind fun x38 =>
(extractA r37.1 1).bind fun x39 =>
(extractA r37.1 2).bind fun x40 =>
((stA 3 r27.1 x38 [] r37.2).map fun H' => (undefA, H')).bind fun r41 =>
L7_31 [a1, a2, r1.1, x4, x5, r11.1, x9, x10, r17.1, x16, x21, x22, r24.1, r26.1, r26.1, x40, r27.1, r28.1, r35.1, x39, I 0] [] r41.2)) (
L7_39 [r1.1, x4, x5, r11.1, x9, x10, r17.1, x16, x21, x22, r24.1, r26.1, r26.1, r26.1, r26.1, r27.1, r28.1, I 0, I 0, I 0] [] r28.2)) := by
  rw [O_ent]
  kernel_rfl
-- backstitch/pages.Get
theorem f40_eq (a0 a1 a2 : AV) : O.ent 40 [a0, a1, a2] [] [] = (
(boxO [] (AV.cells a0) []).bind fun r1 =>
(ld true 3 r1.1 r1.2).bind fun x2 =>
(callA cfg O 102 [x2, a1, a2] [] r1.2).bind fun r3 =>
(bin .neq .int r3.1 (I 0)).bind fun x4 =>
cond x4 (
leave 0 [] [I 0, r3.1] r3.2) (
(ld true 3 r1.1 r3.2).bind fun x5 =>
(callA cfg O 103 [x5, a1, a2] [] r3.2).bind fun r6 =>
(bin .rem .int a2 (I 4)).bind fun x7 =>
(arrAt false 1 4 r6.1 x7).bind fun x8 =>
leave 0 [] [x8, I 0] r6.2)) := by
  rw [O_ent]
  kernel_rfl
-- backstitch/pages.Set
noncomputable def T41_23 : List It := labAt Try.prog cfg 41 23 (fun _ => none)
noncomputable def L41_23 (vals : List AV) (lo : List Nat) (H : Heap) : Res := O.lab 41 [8, 12, 13] (T41_23) vals lo H
noncomputable def T41_24 : List It := labAt Try.prog cfg 41 24 (fun _ => none)
noncomputable def L41_24 (vals : List AV) (lo : List Nat) (H : Heap) : Res := O.lab 41 [8, 12, 13, 54, 55, 56] (T41_24) vals lo H
noncomputable def T41_33 : List It := labAt Try.prog cfg 41 33 (fun _ => none)
noncomputable def L41_33 (vals : List AV) (lo : List Nat) (H : Heap) : Res := O.lab 41 [8, 12, 13, 54, 55, 56] (T41_33) vals lo H
theorem L41_23_eq (lo : List Nat) (v8 v12 v13 : AV) (H : Heap) : L41_23 [v8, v12, v13] lo H = (
(lenA .slice v13 H).bind fun x1 =>
L41_24 [v8, v12, v13, v13, x1, I 0] lo H) := by
  show O.lab _ _ _ _ _ _ = _
  rw [O_lab]
  kernel_rfl
theorem L41_24_eq (lo : List Nat) (v8 v12 v13 v54 v55 v56 : AV) (H : Heap) : L41_24 [v8, v12, v13, v54, v55, v56] lo H = (
(bin .lss .int v56 v55).bind fun x1 =>
cond x1 (
(idxA 1 v54 v56).bind fun x2 =>
(ld false 1 x2 H).bind fun x3 =>
(bin .geq .int x3 (I 0)).bind fun x4 =>
cond x4 (
(fldA 1 v12).bind fun x5 =>
(ld false 1 x5 H).bind fun x6 =>
(idxA 1 x6 x3).bind fun x7 =>
(ld false 1 x7 H).bind fun x8 =>
(bin .add .int x8 (I 1)).bind fun x9 =>
(idxA 1 x6 x3).bind fun x10 =>
((stA 1 x10 x9 lo H).map fun H' => (undefA, H')).bind fun r11 =>
L41_33 [v8, v12, v13, v54, v55, v56] lo r11.2) (
L41_33 [v8, v12, v13, v54, v55, v56] lo H)) (
(callA cfg O 106 [v12, v13] lo H).bind fun r12 =>
(fldA 0 v12).bind fun x13 =>
(ld false 1 x13 r12.2).bind fun x14 =>
(lenA .slice x14 r12.2).bind fun x15 =>
(bin .gtr .int x15 (I 400)).bind fun x16 =>
(gd x16 false (fldA 2 v12)).bind fun x17 =>
(gd x16 false (ld false 1 x17 r12.2)).bind fun x18 =>
(gd x16 false (lenA .slice x18 r12.2)).bind fun x19 =>
(gd x16 false (bin .gtr .int x19 (I 40))).bind fun x20 =>
(pickA x16 (B true) x20).bind fun x21 =>
cond x21 (
(buildA [(.p nilS), (.p nilS), (.p nilS)] []).bind fun x22 =>
((stA 3 v8 x22 lo r12.2).map fun H' => (undefA, H')).bind fun r23 =>
((ld true 3 v8 r23.2).bind fun x25 => (((some []).map fun q28 => I 2 :: q28).map fun q27 => I 0 :: q27).map fun q26 => x25 :: q26).bind fun xs24 => leave 0 lo xs24 r23.2) (
(ld true 3 v12 r12.2).bind fun x29 =>
((stA 3 v8 x29 lo r12.2).map fun H' => (undefA, H')).bind fun r30 =>
((ld true 3 v8 r30.2).bind fun x32 => (((some []).map fun q35 => I 0 :: q35).map fun q34 => r12.1 :: q34).map fun q33 => x32 :: q33).bind fun xs31 => leave 0 lo xs31 r30.2))) := by
  show O.lab _ _ _ _ _ _ = _
  rw [O_lab]
  kernel_rfl
theorem L41_33_eq (lo : List Nat) (v8 v12 v13 v54 v55 v56 : AV) (H : Heap) : L41_33 [v8, v12, v13, v54, v55, v56] lo H = (
(bin .add .int v56 (I 1)).bind fun x1 =>
L41_24 [v8, v12, v13, v54, v55, x1] lo H) := by
  show O.lab _ _ _ _ _ _ = _
  rw [O_lab]
  kernel_rfl
theorem f41_eq (a0 a1 a2 a3 : AV) : O.ent 41 [a0, a1, a2, a3] [] [] = (
(boxO [] (AV.cells a0) []).bind fun r1 =>
(boxO [] [(.p nilS), (.p nilS), (.p nilS)] r1.2).bind fun r2 =>
(ld true 3 r1.1 r2.2).bind fun x3 =>
(callA cfg O 102 [x3, a1, a2] [] r2.2).bind fun r4 =>
(bin .neq .int r4.1 (I 0)).bind fun x5 =>
cond x5 (
(buildA [(.p nilS), (.p nilS), (.p nilS)] []).bind fun x6 =>
((stA 3 r2.1 x6 [] r4.2).map fun H' => (undefA, H')).bind fun r7 =>
((ld true 3 r2.1 r7.2).bind fun x9 => (((some []).map fun q12 => r4.1 :: q12).map fun q11 => I 0 :: q11).map fun q10 => x9 :: q10).bind fun xs8 => leave 0 [] xs8 r7.2) (
(ld true 3 r1.1 r4.2).bind fun x13 =>
(callA cfg O 104 [x13] [] r4.2).bind fun r14 =>
(boxO [] [(.p nilS), (.p nilS), (.p nilS)] r14.2).bind fun r15 =>
((stA 3 r15.1 r14.1 [] r15.2).map fun H' => (undefA, H')).bind fun r16 =>
(fldA 2 r1.1).bind fun x17 =>
(ld false 1 x17 r16.2).bind fun x18 =>
(idxA 1 x18 a1).bind fun x19 =>
(ld false 1 x19 r16.2).bind fun x20 =>
(callA cfg O 93 [x20] [] r16.2).bind fun r21 =>
(ld true 3 r1.1 r21.2).bind fun x22 =>
(callA cfg O 103 [x22, a1, a2] [] r21.2).bind fun r23 =>
(some (mkArr 1 [(.v (.int .i64 0)), (.v (.int .i64 0)), (.v (.int .i64 0)), (.v (.int .i64 0))] r23.2)).bind fun r24 =>
((stA 4 r24.1 r23.1 [] r24.2).map fun H' => (undefA, H')).bind fun r25 =>
(bin .rem .int a2 (I 4)).bind fun x26 =>
(idxArr 1 4 r24.1 x26).bind fun x27 =>
(ld false 1 x27 r25.2).bind fun x28 =>
(bin .neq .int x28 a3).bind fun x29 =>
cond x29 (
(bin .rem .int a2 (I 4)).bind fun x30 =>
(idxArr 1 4 r24.1 x30).bind fun x31 =>
((stA 1 x31 a3 [] r25.2).map fun H' => (undefA, H')).bind fun r32 =>
(bin .quo .int a2 (I 4)).bind fun x33 =>
(ld true 4 r24.1 r32.2).bind fun x34 =>
(callA cfg O 105 [r15.1, x34] [] r32.2).bind fun r35 =>
(idxA 1 r21.1 x33).bind fun x36 =>
((stA 1 x36 r35.1 [] r35.2).map fun H' => (undefA, H')).bind fun r37 =>
L41_23 [r2.1, r15.1, r21.1] [] r37.2) (
L41_23 [r2.1, r15.1, r21.1] [] r25.2))) := by
  rw [O_ent]
  kernel_rfl
-- backstitch/pages.Drop
noncomputable def T42_14 : List It := labAt Try.prog cfg 42 14 (fun _ => none)
noncomputable def L42_14 (vals : List AV) (lo : List Nat) (H : Heap) : Res := O.lab 42 [1, 4, 7, 24, 25, 26] (T42_14) vals lo H
noncomputable def T42_27 : List It := labAt Try.prog cfg 42 27 (fun _ => none)
noncomputable def L42_27 (vals : List AV) (lo : List Nat) (H : Heap) : Res := O.lab 42 [1, 4, 7, 24, 25, 26] (T42_27) vals lo H
theorem L42_14_eq (lo : List Nat) (v1 v4 v7 v24 v25 v26 : AV) (H : Heap) : L42_14 [v1, v4, v7, v24, v25, v26] lo H = (
(bin .lss .int v26 v25).bind fun x1 =>
cond x1 (
(idxA 1 v24 v26).bind fun x2 =>
(ld false 1 x2 H).bind fun x3 =>
(bin .lss .int x3 (I 0)).bind fun x4 =>
cond x4 (
L42_27 [v1, v4, v7, v24, v25, v26] lo H) (
(fldA 1 v7).bind fun x5 =>
(ld false 1 x5 H).bind fun x6 =>
(idxA 1 x6 x3).bind fun x7 =>
(ld false 1 x7 H).bind fun x8 =>
(bin .sub .int x8 (I 1)).bind fun x9 =>
(idxA 1 x6 x3).bind fun x10 =>
((stA 1 x10 x9 lo H).map fun H' => (undefA, H')).bind fun r11 =>
(fldA 1 v7).bind fun x12 =>
(ld false 1 x12 r11.2).bind fun x13 =>
(idxA 1 x13 x3).bind fun x14 =>
(ld false 1 x14 r11.2).bind fun x15 =>
(bin .eql .int x15 (I 0)).bind fun x16 =>
cond x16 (
(fldA 0 v7).bind fun x17 =>
(ld false 1 x17 r11.2).bind fun x18 =>
(buildA [(I 0), (I 0), (I 0), (I 0)] []).bind fun x19 =>
(idxA 4 x18 x3).bind fun x20 =>
((stA 4 x20 x19 lo r11.2).map fun H' => (undefA, H')).bind fun r21 =>
L42_27 [v1, v4, v7, v24, v25, v26] lo r21.2) (
L42_27 [v1, v4, v7, v24, v25, v26] lo r11.2))) (
(fldA 2 v7).bind fun x22 =>
(ld false 1 x22 H).bind fun x23 =>
(idxA 1 x23 v1).bind fun x24 =>
((stA 1 x24 (.p nilS) lo H).map fun H' => (undefA, H')).bind fun r25 =>
(ld true 3 v7 r25.2).bind fun x26 =>
((stA 3 v4 x26 lo r25.2).map fun H' => (undefA, H')).bind fun r27 =>
((ld true 3 v4 r27.2).bind fun x29 => ((some []).map fun q31 => I 0 :: q31).map fun q30 => x29 :: q30).bind fun xs28 => leave 0 lo xs28 r27.2)) := by
  show O.lab _ _ _ _ _ _ = _
  rw [O_lab]
  kernel_rfl
theorem L42_27_eq (lo : List Nat) (v1 v4 v7 v24 v25 v26 : AV) (H : Heap) : L42_27 [v1, v4, v7, v24, v25, v26] lo H = (
(bin .add .int v26 (I 1)).bind fun x1 =>
L42_14 [v1, v4, v7, v24, v25, x1] lo H) := by
  show O.lab _ _ _ _ _ _ = _
  rw [O_lab]
  kernel_rfl
theorem f42_eq (a0 a1 : AV) : O.ent 42 [a0, a1] [] [] = (
(boxO [] (AV.cells a0) []).bind fun r1 =>
(boxO [] [(.p nilS), (.p nilS), (.p nilS)] r1.2).bind fun r2 =>
(ld true 3 r1.1 r2.2).bind fun x3 =>
(litA false 1 [a1] r2.2).bind fun r4 =>
(callA cfg O 107 [x3, r4.1] [] r4.2).bind fun r5 =>
(bin .neq .int r5.1 (I 0)).bind fun x6 =>
cond x6 (
(buildA [(.p nilS), (.p nilS), (.p nilS)] []).bind fun x7 =>
((stA 3 r2.1 x7 [] r5.2).map fun H' => (undefA, H')).bind fun r8 =>
((ld true 3 r2.1 r8.2).bind fun x10 => ((some []).map fun q12 => r5.1 :: q12).map fun q11 => x10 :: q11).bind fun xs9 => leave 0 [] xs9 r8.2) (
(ld true 3 r1.1 r5.2).bind fun x13 =>
(callA cfg O 104 [x13] [] r5.2).bind fun r14 =>
(boxO [] [(.p nilS), (.p nilS), (.p nilS)] r14.2).bind fun r15 =>
((stA 3 r15.1 r14.1 [] r15.2).map fun H' => (undefA, H')).bind fun r16 =>
(fldA 2 r15.1).bind fun x17 =>
(ld false 1 x17 r16.2).bind fun x18 =>
(idxA 1 x18 a1).bind fun x19 =>
(ld false 1 x19 r16.2).bind fun x20 =>
(lenA .slice x20 r16.2).bind fun x21 =>
L42_14 [a1, r2.1, r15.1, x20, x21, I 0] [] r16.2)) := by
  rw [O_ent]
  kernel_rfl
-- backstitch/pages.Shared
noncomputable def T43_14 : List It := labAt Try.prog cfg 43 14 (fun _ => none)
noncomputable def L43_14 (vals : List AV) (lo : List Nat) (H : Heap) : Res := O.lab 43 [2, 3, 9, 24, 25, 26] (T43_14) vals lo H
noncomputable def T43_23 : List It := labAt Try.prog cfg 43 23 (fun _ => none)
noncomputable def L43_23 (vals : List AV) (lo : List Nat) (H : Heap) : Res := O.lab 43 [2, 3, 9, 24, 25, 26] (T43_23) vals lo H
theorem L43_14_eq (lo : List Nat) (v2 v3 v9 v24 v25 v26 : AV) (H : Heap) : L43_14 [v2, v3, v9, v24, v25, v26] lo H = (
(bin .lss .int v26 v25).bind fun x1 =>
cond x1 (
(idxA 1 v24 v26).bind fun x2 =>
(ld false 1 x2 H).bind fun x3 =>
(bin .geq .int x3 (I 0)).bind fun x4 =>
(gd x4 true (some x3)).bind fun x5 =>
(gd x4 true (fldA 2 v3)).bind fun x6 =>
(gd x4 true (ld false 1 x6 H)).bind fun x7 =>
(gd x4 true (some v2)).bind fun x8 =>
(gd x4 true (idxA 1 x7 x8)).bind fun x9 =>
(gd x4 true (ld false 1 x9 H)).bind fun x10 =>
(gd x4 true (some v26)).bind fun x11 =>
(gd x4 true (idxA 1 x10 x11)).bind fun x12 =>
(gd x4 true (ld false 1 x12 H)).bind fun x13 =>
(gd x4 true (bin .eql .int x5 x13)).bind fun x14 =>
(pickA x4 x14 (B false)).bind fun x15 =>
cond x15 (
(bin .add .int v9 (I 1)).bind fun x16 =>
L43_23 [v2, v3, x16, v24, v25, v26] lo H) (
L43_23 [v2, v3, v9, v24, v25, v26] lo H)) (
leave 0 lo [v9, I 0] H)) := by
  show O.lab _ _ _ _ _ _ = _
  rw [O_lab]
  kernel_rfl
theorem L43_23_eq (lo : List Nat) (v2 v3 v9 v24 v25 v26 : AV) (H : Heap) : L43_23 [v2, v3, v9, v24, v25, v26] lo H = (
(bin .add .int v26 (I 1)).bind fun x1 =>
L43_14 [v2, v3, v9, v24, v25, x1] lo H) := by
  show O.lab _ _ _ _ _ _ = _
  rw [O_lab]
  kernel_rfl
theorem f43_eq (a0 a1 a2 : AV) : O.ent 43 [a0, a1, a2] [] [] = (
(boxO [] (AV.cells a0) []).bind fun r1 =>
(ld true 3 r1.1 r1.2).bind fun x2 =>
(litA false 1 [a1, a2] r1.2).bind fun r3 =>
(callA cfg O 107 [x2, r3.1] [] r3.2).bind fun r4 =>
(bin .neq .int r4.1 (I 0)).bind fun x5 =>
cond x5 (
leave 0 [] [I 0, r4.1] r4.2) (
(fldA 2 r1.1).bind fun x6 =>
(ld false 1 x6 r4.2).bind fun x7 =>
(idxA 1 x7 a1).bind fun x8 =>
(ld false 1 x8 r4.2).bind fun x9 =>
(lenA .slice x9 r4.2).bind fun x10 =>
L43_14 [a2, r1.1, I 0, x9, x10, I 0] [] r4.2)) := by
  rw [O_ent]
  kernel_rfl
-- backstitch/backstitchref4.PagesCheck
noncomputable def T44_14 : List It := labAt Try.prog cfg 44 14 (fun _ => none)
noncomputable def L44_14 (vals : List AV) (lo : List Nat) (H : Heap) : Res := O.lab 44 [1, 3] (T44_14) vals lo H
noncomputable def T44_24 : List It := labAt Try.prog cfg 44 24 (fun _ => none)
noncomputable def L44_24 (vals : List AV) (lo : List Nat) (H : Heap) : Res := O.lab 44 [1, 3, 4] (T44_24) vals lo H
noncomputable def T44_34 : List It := labAt Try.prog cfg 44 34 (fun _ => none)
noncomputable def L44_34 (vals : List AV) (lo : List Nat) (H : Heap) : Res := O.lab 44 [1, 5] (T44_34) vals lo H
theorem L44_14_eq (lo : List Nat) (v1 v3 : AV) (H : Heap) : L44_14 [v1, v3] lo H = (
(fldA 2 v1).bind fun x1 =>
(ld false 1 x1 H).bind fun x2 =>
(lenA .slice x2 H).bind fun x3 =>
(bin .lss .int v3 x3).bind fun x4 =>
cond x4 (
(fldA 2 v1).bind fun x5 =>
(ld false 1 x5 H).bind fun x6 =>
(idxA 1 x6 v3).bind fun x7 =>
(ld false 1 x7 H).bind fun x8 =>
(lenA .slice x8 H).bind fun x9 =>
(bin .neq .int x9 (I 0)).bind fun x10 =>
(gd x10 true (fldA 2 v1)).bind fun x11 =>
(gd x10 true (ld false 1 x11 H)).bind fun x12 =>
(gd x10 true (some v3)).bind fun x13 =>
(gd x10 true (idxA 1 x12 x13)).bind fun x14 =>
(gd x10 true (ld false 1 x14 H)).bind fun x15 =>
(gd x10 true (lenA .slice x15 H)).bind fun x16 =>
(gd x10 true (bin .neq .int x16 (I 16))).bind fun x17 =>
(pickA x10 x17 (B false)).bind fun x18 =>
cond x18 (
leave 0 lo [I 3] H) (
L44_24 [v1, v3, I 0] lo H)) (
L44_34 [v1, I 0] lo H)) := by
  show O.lab _ _ _ _ _ _ = _
  rw [O_lab]
  kernel_rfl
theorem L44_24_eq (lo : List Nat) (v1 v3 v4 : AV) (H : Heap) : L44_24 [v1, v3, v4] lo H = (
(fldA 2 v1).bind fun x1 =>
(ld false 1 x1 H).bind fun x2 =>
(idxA 1 x2 v3).bind fun x3 =>
(ld false 1 x3 H).bind fun x4 =>
(lenA .slice x4 H).bind fun x5 =>
(bin .lss .int v4 x5).bind fun x6 =>
cond x6 (
(fldA 2 v1).bind fun x7 =>
(ld false 1 x7 H).bind fun x8 =>
(idxA 1 x8 v3).bind fun x9 =>
(ld false 1 x9 H).bind fun x10 =>
(idxA 1 x10 v4).bind fun x11 =>
(ld false 1 x11 H).bind fun x12 =>
(fldA 0 v1).bind fun x13 =>
(ld false 1 x13 H).bind fun x14 =>
(lenA .slice x14 H).bind fun x15 =>
(bin .sub .int x15 (I 1)).bind fun x16 =>
(callA cfg O 83 [x12, I (-1), x16] lo H).bind fun r17 =>
(un .not r17.1).bind fun x18 =>
cond x18 (
leave 0 lo [I 3] r17.2) (
(bin .add .int v4 (I 1)).bind fun x19 =>
L44_24 [v1, v3, x19] lo r17.2)) (
(bin .add .int v3 (I 1)).bind fun x20 =>
L44_14 [v1, x20] lo H)) := by
  show O.lab _ _ _ _ _ _ = _
  rw [O_lab]
  kernel_rfl
theorem L44_34_eq (lo : List Nat) (v1 v5 : AV) (H : Heap) : L44_34 [v1, v5] lo H = (
(fldA 0 v1).bind fun x1 =>
(ld false 1 x1 H).bind fun x2 =>
(lenA .slice x2 H).bind fun x3 =>
(bin .lss .int v5 x3).bind fun x4 =>
cond x4 (
(ld true 3 v1 H).bind fun x5 =>
(callA cfg O 108 [x5, v5] lo H).bind fun r6 =>
(fldA 0 v1).bind fun x7 =>
(ld false 1 x7 r6.2).bind fun x8 =>
(idxA 4 x8 v5).bind fun x9 =>
(idxArr 1 4 x9 (I 0)).bind fun x10 =>
(ld false 1 x10 r6.2).bind fun x11 =>
(bin .eql .int x11 (I 0)).bind fun x12 =>
(gd x12 true (fldA 0 v1)).bind fun x13 =>
(gd x12 true (ld false 1 x13 r6.2)).bind fun x14 =>
(gd x12 true (some v5)).bind fun x15 =>
(gd x12 true (idxA 4 x14 x15)).bind fun x16 =>
(gd x12 true (idxArr 1 4 x16 (I 1))).bind fun x17 =>
(gd x12 true (ld false 1 x17 r6.2)).bind fun x18 =>
(gd x12 true (bin .eql .int x18 (I 0))).bind fun x19 =>
(pickA x12 x19 (B false)).bind fun x20 =>
(gd x20 true (fldA 0 v1)).bind fun x21 =>
(gd x20 true (ld false 1 x21 r6.2)).bind fun x22 =>
(gd x20 true (some v5)).bind fun x23 =>
(gd x20 true (idxA 4 x22 x23)).bind fun x24 =>
(gd x20 true (idxArr 1 4 x24 (I 2))).bind fun x25 =>
(gd x20 true (ld false 1 x25 r6.2)).bind fun x26 =>
(gd x20 true (bin .eql .int x26 (I 0))).bind fun x27 =>
(pickA x20 x27 (B false)).bind fun x28 =>
(gd x28 true (fldA 0 v1)).bind fun x29 =>
(gd x28 true (ld false 1 x29 r6.2)).bind fun x30 =>
(gd x28 true (some v5)).bind fun x31 =>
(gd x28 true (idxA 4 x30 x31)).bind fun x32 =>
(gd x28 true (idxArr 1 4 x32 (I 3))).bind fun x33 =>
(gd x28 true (ld false 1 x33 r6.2)).bind fun x34 =>
(gd x28 true (bin .eql .int x34 (I 0))).bind fun x35 =>
(pickA x28 x35 (B false)).bind fun x36 =>
(fldA 1 v1).bind fun x37 =>
(ld false 1 x37 r6.2).bind fun x38 =>
(idxA 1 x38 v5).bind fun x39 =>
(ld false 1 x39 r6.2).bind fun x40 =>
(bin .neq .int x40 r6.1).bind fun x41 =>
(gd x41 false (some x36)).bind fun x42 =>
(gd x41 false (some r6.1)).bind fun x43 =>
(gd x41 false (bin .eql .int x43 (I 0))).bind fun x44 =>
(gd x41 false (bin .neq .bool x42 x44)).bind fun x45 =>
(pickA x41 (B true) x45).bind fun x46 =>
cond x46 (
leave 0 lo [I 3] r6.2) (
(bin .add .int v5 (I 1)).bind fun x47 =>
L44_34 [v1, x47] lo r6.2)) (
leave 0 lo [I 0] H)) := by
  show O.lab _ _ _ _ _ _ = _
  rw [O_lab]
  kernel_rfl
theorem f44_eq (a0 : AV) : O.ent 44 [a0] [] [] = (
(boxO [] (AV.cells a0) []).bind fun r1 =>
(fldA 0 r1.1).bind fun x2 =>
(ld false 1 x2 r1.2).bind fun x3 =>
(lenA .slice x3 r1.2).bind fun x4 =>
(bin .gtr .int x4 (I 400)).bind fun x5 =>
(gd x5 false (fldA 2 r1.1)).bind fun x6 =>
(gd x5 false (ld false 1 x6 r1.2)).bind fun x7 =>
(gd x5 false (lenA .slice x7 r1.2)).bind fun x8 =>
(gd x5 false (bin .gtr .int x8 (I 40))).bind fun x9 =>
(pickA x5 (B true) x9).bind fun x10 =>
cond x10 (
leave 0 [] [I 2] r1.2) (
(fldA 1 r1.1).bind fun x11 =>
(ld false 1 x11 r1.2).bind fun x12 =>
(lenA .slice x12 r1.2).bind fun x13 =>
(fldA 0 r1.1).bind fun x14 =>
(ld false 1 x14 r1.2).bind fun x15 =>
(lenA .slice x15 r1.2).bind fun x16 =>
(bin .neq .int x13 x16).bind fun x17 =>
cond x17 (
leave 0 [] [I 3] r1.2) (
L44_14 [r1.1, I 0] [] r1.2))) := by
  rw [O_ent]
  kernel_rfl
-- backstitch/backstitchref4.PagesThere
noncomputable def T45_11 : List It := labAt Try.prog cfg 45 11 (fun _ => none)
noncomputable def L45_11 (vals : List AV) (lo : List Nat) (H : Heap) : Res := O.lab 45 [5] (T45_11) vals lo H
theorem L45_11_eq (lo : List Nat) (v5 : AV) (H : Heap) : L45_11 [v5] lo H = (
leave 0 lo [v5] H) := by
  show O.lab _ _ _ _ _ _ = _
  rw [O_lab]
  kernel_rfl
theorem f45_eq (a0 a1 : AV) : O.ent 45 [a0, a1] [] [] = (
(boxO [] (AV.cells a0) []).bind fun r1 =>
(ld true 3 r1.1 r1.2).bind fun x2 =>
(callA cfg O 44 [x2] [] r1.2).bind fun r3 =>
(bin .eql .int r3.1 (I 0)).bind fun x4 =>
(gd x4 true (some a1)).bind fun x5 =>
(gd x4 true (fldA 2 r1.1)).bind fun x6 =>
(gd x4 true (ld false 1 x6 r3.2)).bind fun x7 =>
(gd x4 true (lenA .slice x7 r3.2)).bind fun x8 =>
(gd x4 true (bin .sub .int x8 (I 1))).bind fun x9 =>
(gdH x4 true (callA cfg O 83 [x5, I 0, x9] [] r3.2) r3.2).bind fun r10 =>
(gd x4 true (un .not r10.1)).bind fun x11 =>
(gd x4 true (some x11)).bind fun x12 =>
(gd x12 false (fldA 2 r1.1)).bind fun x13 =>
(gd x12 false (ld false 1 x13 r10.2)).bind fun x14 =>
(gd x12 false (some a1)).bind fun x15 =>
(gd x12 false (idxA 1 x14 x15)).bind fun x16 =>
(gd x12 false (ld false 1 x16 r10.2)).bind fun x17 =>
(gd x12 false (lenA .slice x17 r10.2)).bind fun x18 =>
(gd x12 false (bin .eql .int x18 (I 0))).bind fun x19 =>
(gd x4 true (pickA x12 (B true) x19)).bind fun x20 =>
(pickA x4 x20 (B false)).bind fun x21 =>
cond x21 (
L45_11 [I 5] [] r10.2) (
L45_11 [r3.1] [] r10.2)) := by
  rw [O_ent]
  kernel_rfl
-- backstitch/backstitchref4.PagesGet
theorem f46_eq (a0 a1 a2 : AV) : O.ent 46 [a0, a1, a2] [] [] = (
(boxO [] (AV.cells a0) []).bind fun r1 =>
(fldA 2 r1.1).bind fun x2 =>
(ld false 1 x2 r1.2).bind fun x3 =>
(idxA 1 x3 a1).bind fun x4 =>
(ld false 1 x4 r1.2).bind fun x5 =>
(bin .quo .int a2 (I 4)).bind fun x6 =>
(idxA 1 x5 x6).bind fun x7 =>
(ld false 1 x7 r1.2).bind fun x8 =>
(bin .lss .int x8 (I 0)).bind fun x9 =>
cond x9 (
leave 0 [] [I 0] r1.2) (
(fldA 0 r1.1).bind fun x10 =>
(ld false 1 x10 r1.2).bind fun x11 =>
(bin .rem .int a2 (I 4)).bind fun x12 =>
(idxA 4 x11 x8).bind fun x13 =>
(idxArr 1 4 x13 x12).bind fun x14 =>
(ld false 1 x14 r1.2).bind fun x15 =>
leave 0 [] [x15] r1.2)) := by
  rw [O_ent]
  kernel_rfl
-- backstitch/backstitchref4.PagesSet
noncomputable def T47_53 : List It := labAt Try.prog cfg 47 53 (fun _ => none)
noncomputable def L47_53 (vals : List AV) (lo : List Nat) (H : Heap) : Res := O.lab 47 [4, 8, 11, 12] (T47_53) vals lo H
noncomputable def T47_16 : List It := labAt Try.prog cfg 47 16 (fun _ => none)
noncomputable def L47_16 (vals : List AV) (lo : List Nat) (H : Heap) : Res := O.lab 47 [1, 2, 3, 4, 8, 11, 12, 13, 14, 15] (T47_16) vals lo H
noncomputable def T47_27 : List It := labAt Try.prog cfg 47 27 (fun _ => none)
noncomputable def L47_27 (vals : List AV) (lo : List Nat) (H : Heap) : Res := O.lab 47 [1, 2, 3, 4, 8, 11, 12, 13, 14, 15] (T47_27) vals lo H
noncomputable def T47_32 : List It := labAt Try.prog cfg 47 32 (fun _ => none)
noncomputable def L47_32 (vals : List AV) (lo : List Nat) (H : Heap) : Res := O.lab 47 [2, 4, 8, 11, 12, 13, 14, 16, 17] (T47_32) vals lo H
noncomputable def T47_35 : List It := labAt Try.prog cfg 47 35 (fun _ => none)
noncomputable def L47_35 (vals : List AV) (lo : List Nat) (H : Heap) : Res := O.lab 47 [2, 4, 8, 11, 12, 13, 14, 16, 17] (T47_35) vals lo H
noncomputable def T47_47 : List It := labAt Try.prog cfg 47 47 (fun _ => none)
noncomputable def L47_47 (vals : List AV) (lo : List Nat) (H : Heap) : Res := O.lab 47 [2, 4, 8, 11, 12, 13, 14, 16] (T47_47) vals lo H
noncomputable def T47_51 : List It := labAt Try.prog cfg 47 51 (fun _ => none)
noncomputable def L47_51 (vals : List AV) (lo : List Nat) (H : Heap) : Res := O.lab 47 [2, 4, 8, 11, 12, 16] (T47_51) vals lo H
noncomputable def T47_58 : List It := labAt Try.prog cfg 47 58 (fun _ => none)
noncomputable def L47_58 (vals : List AV) (lo : List Nat) (H : Heap) : Res := O.lab 47 [4, 8, 11, 12, 18, 19, 20] (T47_58) vals lo H
noncomputable def T47_69 : List It := labAt Try.prog cfg 47 69 (fun _ => none)
noncomputable def L47_69 (vals : List AV) (lo : List Nat) (H : Heap) : Res := O.lab 47 [4, 8, 11, 12, 18, 19, 20, 21] (T47_69) vals lo H
noncomputable def T47_77 : List It := labAt Try.prog cfg 47 77 (fun _ => none)
noncomputable def L47_77 (vals : List AV) (lo : List Nat) (H : Heap) : Res := O.lab 47 [8, 12, 18, 19] (T47_77) vals lo H
theorem L47_53_eq (lo : List Nat) (v4 v8 v11 v12 : AV) (H : Heap) : L47_53 [v4, v8, v11, v12] lo H = (
L47_58 [v4, v8, v11, v12, .p nilS, I (-1), I 0] lo H) := by
  show O.lab _ _ _ _ _ _ = _
  rw [O_lab]
  kernel_rfl
theorem L47_16_eq (lo : List Nat) (v1 v2 v3 v4 v8 v11 v12 v13 v14 v15 : AV) (H : Heap) : L47_16 [v1, v2, v3, v4, v8, v11, v12, v13, v14, v15] lo H = (
(bin .lss .int v15 (I 4)).bind fun x1 =>
cond x1 (
(ld true 3 v4 H).bind fun x2 =>
(bin .rem .int v2 (I 4)).bind fun x3 =>
(bin .sub .int v2 x3).bind fun x4 =>
(bin .add .int x4 v15).bind fun x5 =>
(callA cfg O 46 [x2, v1, x5] lo H).bind fun r6 =>
(idxArr 1 4 v13 v15).bind fun x7 =>
((stA 1 x7 r6.1 lo r6.2).map fun H' => (undefA, H')).bind fun r8 =>
(bin .rem .int v2 (I 4)).bind fun x9 =>
(bin .eql .int v15 x9).bind fun x10 =>
cond x10 (
(idxArr 1 4 v13 v15).bind fun x11 =>
((stA 1 x11 v3 lo r8.2).map fun H' => (undefA, H')).bind fun r12 =>
L47_27 [v1, v2, v3, v4, v8, v11, v12, v13, v14, v15] lo r12.2) (
L47_27 [v1, v2, v3, v4, v8, v11, v12, v13, v14, v15] lo r8.2)) (
L47_32 [v2, v4, v8, v11, v12, v13, v14, I (-1), I 0] lo H)) := by
  show O.lab _ _ _ _ _ _ = _
  rw [O_lab]
  kernel_rfl
theorem L47_27_eq (lo : List Nat) (v1 v2 v3 v4 v8 v11 v12 v13 v14 v15 : AV) (H : Heap) : L47_27 [v1, v2, v3, v4, v8, v11, v12, v13, v14, v15] lo H = (
(gd v14 true (some v15)).bind fun x1 =>
(gd v14 true (idxArr 1 4 v13 x1)).bind fun x2 =>
(gd v14 true (ld false 1 x2 H)).bind fun x3 =>
(gd v14 true (bin .eql .int x3 (I 0))).bind fun x4 =>
(pickA v14 x4 (B false)).bind fun x5 =>
(bin .add .int v15 (I 1)).bind fun x6 =>
L47_16 [v1, v2, v3, v4, v8, v11, v12, v13, x5, x6] lo H) := by
  show O.lab _ _ _ _ _ _ = _
  rw [O_lab]
  kernel_rfl
theorem L47_32_eq (lo : List Nat) (v2 v4 v8 v11 v12 v13 v14 v16 v17 : AV) (H : Heap) : L47_32 [v2, v4, v8, v11, v12, v13, v14, v16, v17] lo H = (
(lenA .slice v12 H).bind fun x1 =>
(bin .lss .int v17 x1).bind fun x2 =>
(gd x2 true (some v14)).bind fun x3 =>
(gd x2 true (un .not x3)).bind fun x4 =>
(pickA x2 x4 (B false)).bind fun x5 =>
(gd x5 true (some v16)).bind fun x6 =>
(gd x5 true (bin .lss .int x6 (I 0))).bind fun x7 =>
(pickA x5 x7 (B false)).bind fun x8 =>
cond x8 (
(fldA 1 v4).bind fun x9 =>
(ld false 1 x9 H).bind fun x10 =>
(idxA 1 x10 v17).bind fun x11 =>
(ld false 1 x11 H).bind fun x12 =>
(bin .eql .int x12 (I 0)).bind fun x13 =>
cond x13 (
L47_35 [v2, v4, v8, v11, v12, v13, v14, v17, v17] lo H) (
L47_35 [v2, v4, v8, v11, v12, v13, v14, v16, v17] lo H)) (
(un .not v14).bind fun x14 =>
(gd x14 true (some v16)).bind fun x15 =>
(gd x14 true (bin .lss .int x15 (I 0))).bind fun x16 =>
(pickA x14 x16 (B false)).bind fun x17 =>
cond x17 (
(lenA .slice v12 H).bind fun x18 =>
(ld true 4 v13 H).bind fun x19 =>
(litA false 4 [x19] H).bind fun r20 =>
(appA 4 32 v12 r20.1 r20.2).bind fun r21 =>
L47_47 [v2, v4, v8, v11, r21.1, v13, v14, x18] lo r21.2) (
L47_47 [v2, v4, v8, v11, v12, v13, v14, v16] lo H))) := by
  show O.lab _ _ _ _ _ _ = _
  rw [O_lab]
  kernel_rfl
theorem L47_35_eq (lo : List Nat) (v2 v4 v8 v11 v12 v13 v14 v16 v17 : AV) (H : Heap) : L47_35 [v2, v4, v8, v11, v12, v13, v14, v16, v17] lo H = (
(bin .add .int v17 (I 1)).bind fun x1 =>
L47_32 [v2, v4, v8, v11, v12, v13, v14, v16, x1] lo H) := by
  show O.lab _ _ _ _ _ _ = _
  rw [O_lab]
  kernel_rfl
theorem L47_47_eq (lo : List Nat) (v2 v4 v8 v11 v12 v13 v14 v16 : AV) (H : Heap) : L47_47 [v2, v4, v8, v11, v12, v13, v14, v16] lo H = (
(un .not v14).bind fun x1 =>
cond x1 (
(ld true 4 v13 H).bind fun x2 =>
(idxA 4 v12 v16).bind fun x3 =>
((stA 4 x3 x2 lo H).map fun H' => (undefA, H')).bind fun r4 =>
L47_51 [v2, v4, v8, v11, v12, v16] lo r4.2) (
L47_51 [v2, v4, v8, v11, v12, v16] lo H)) := by
  show O.lab _ _ _ _ _ _ = _
  rw [O_lab]
  kernel_rfl
theorem L47_51_eq (lo : List Nat) (v2 v4 v8 v11 v12 v16 : AV) (H : Heap) : L47_51 [v2, v4, v8, v11, v12, v16] lo H = (
(bin .quo .int v2 (I 4)).bind fun x1 =>
(idxA 1 v11 x1).bind fun x2 =>
((stA 1 x2 v16 lo H).map fun H' => (undefA, H')).bind fun r3 =>
L47_53 [v4, v8, v11, v12] lo r3.2) := by
  show O.lab _ _ _ _ _ _ = _
  rw [O_lab]
  kernel_rfl
theorem L47_58_eq (lo : List Nat) (v4 v8 v11 v12 v18 v19 v20 : AV) (H : Heap) : L47_58 [v4, v8, v11, v12, v18, v19, v20] lo H = (
(fldA 2 v4).bind fun x1 =>
(ld false 1 x1 H).bind fun x2 =>
(lenA .slice x2 H).bind fun x3 =>
(bin .lss .int v20 x3).bind fun x4 =>
cond x4 (
(fldA 2 v4).bind fun x5 =>
(ld false 1 x5 H).bind fun x6 =>
(idxA 1 x6 v20).bind fun x7 =>
(ld false 1 x7 H).bind fun x8 =>
(lenA .slice x8 H).bind fun x9 =>
(bin .eql .int x9 (I 0)).bind fun x10 =>
(gd x10 true (some v19)).bind fun x11 =>
(gd x10 true (bin .lss .int x11 (I 0))).bind fun x12 =>
(pickA x10 x12 (B false)).bind fun x13 =>
cond x13 (
L47_69 [v4, v8, v11, v12, v18, v20, v20, v11] lo H) (
L47_69 [v4, v8, v11, v12, v18, v19, v20, x8] lo H)) (
(bin .lss .int v19 (I 0)).bind fun x14 =>
cond x14 (
(lenA .slice v18 H).bind fun x15 =>
(litA false 1 [v11] H).bind fun r16 =>
(appA 1 24 v18 r16.1 r16.2).bind fun r17 =>
L47_77 [v8, v12, r17.1, x15] lo r17.2) (
L47_77 [v8, v12, v18, v19] lo H))) := by
  show O.lab _ _ _ _ _ _ = _
  rw [O_lab]
  kernel_rfl
theorem L47_69_eq (lo : List Nat) (v4 v8 v11 v12 v18 v19 v20 v21 : AV) (H : Heap) : L47_69 [v4, v8, v11, v12, v18, v19, v20, v21] lo H = (
(litA false 1 [] H).bind fun r1 =>
(appA 1 8 r1.1 v21 r1.2).bind fun r2 =>
(litA false 1 [r2.1] r2.2).bind fun r3 =>
(appA 1 24 v18 r3.1 r3.2).bind fun r4 =>
(bin .add .int v20 (I 1)).bind fun x5 =>
L47_58 [v4, v8, v11, v12, r4.1, v19, x5] lo r4.2) := by
  show O.lab _ _ _ _ _ _ = _
  rw [O_lab]
  kernel_rfl
theorem L47_77_eq (lo : List Nat) (v8 v12 v18 v19 : AV) (H : Heap) : L47_77 [v8, v12, v18, v19] lo H = (
(lenA .slice v12 H).bind fun x1 =>
(bin .gtr .int x1 (I 400)).bind fun x2 =>
(gd x2 false (some v18)).bind fun x3 =>
(gd x2 false (lenA .slice x3 H)).bind fun x4 =>
(gd x2 false (bin .gtr .int x4 (I 40))).bind fun x5 =>
(pickA x2 (B true) x5).bind fun x6 =>
cond x6 (
(buildA [(.p nilS), (.p nilS), (.p nilS)] []).bind fun x7 =>
((stA 3 v8 x7 lo H).map fun H' => (undefA, H')).bind fun r8 =>
((ld true 3 v8 r8.2).bind fun x10 => (((some []).map fun q13 => I 2 :: q13).map fun q12 => I 0 :: q12).map fun q11 => x10 :: q11).bind fun xs9 => leave 0 lo xs9 r8.2) (
(buildA [(.p nilS), (.p nilS), (.p nilS)] [(0, 1, v12), (2, 1, v18)]).bind fun x14 =>
(callA cfg O 109 [x14] lo H).bind fun r15 =>
((stA 3 v8 r15.1 lo r15.2).map fun H' => (undefA, H')).bind fun r16 =>
((ld true 3 v8 r16.2).bind fun x18 => (((some []).map fun q21 => I 0 :: q21).map fun q20 => v19 :: q20).map fun q19 => x18 :: q19).bind fun xs17 => leave 0 lo xs17 r16.2)) := by
  show O.lab _ _ _ _ _ _ = _
  rw [O_lab]
  kernel_rfl
theorem f47_eq (a0 a1 a2 a3 : AV) : O.ent 47 [a0, a1, a2, a3] [] [] = (
(boxO [] (AV.cells a0) []).bind fun r1 =>
(boxO [] [(.p nilS), (.p nilS), (.p nilS)] r1.2).bind fun r2 =>
(litA false 1 [] r2.2).bind fun r3 =>
(fldA 2 r1.1).bind fun x4 =>
(ld false 1 x4 r3.2).bind fun x5 =>
(idxA 1 x5 a1).bind fun x6 =>
(ld false 1 x6 r3.2).bind fun x7 =>
(appA 1 8 r3.1 x7 r3.2).bind fun r8 =>
(litA false 4 [] r8.2).bind fun r9 =>
(fldA 0 r1.1).bind fun x10 =>
(ld false 1 x10 r9.2).bind fun x11 =>
(appA 4 32 r9.1 x11 r9.2).bind fun r12 =>
(ld true 3 r1.1 r12.2).bind fun x13 =>
(callA cfg O 46 [x13, a1, a2] [] r12.2).bind fun r14 =>
(bin .neq .int r14.1 a3).bind fun x15 =>
cond x15 (
(buildA [(I 0), (I 0), (I 0), (I 0)] []).bind fun x16 =>
(some (mkArr 1 [(.v (.int .i64 0)), (.v (.int .i64 0)), (.v (.int .i64 0)), (.v (.int .i64 0))] r14.2)).bind fun r17 =>
((stA 4 r17.1 x16 [] r17.2).map fun H' => (undefA, H')).bind fun r18 =>
L47_16 [a1, a2, a3, r1.1, r2.1, r8.1, r12.1, r17.1, B true, I 0] [] r18.2) (
L47_53 [r1.1, r2.1, r8.1, r12.1] [] r14.2)) := by
  rw [O_ent]
  kernel_rfl
-- backstitch/backstitchref4.PagesDrop
noncomputable def T48_8 : List It := labAt Try.prog cfg 48 8 (fun _ => none)
noncomputable def L48_8 (vals : List AV) (lo : List Nat) (H : Heap) : Res := O.lab 48 [1, 2, 4, 5, 6] (T48_8) vals lo H
noncomputable def T48_11 : List It := labAt Try.prog cfg 48 11 (fun _ => none)
noncomputable def L48_11 (vals : List AV) (lo : List Nat) (H : Heap) : Res := O.lab 48 [1, 2, 4, 5, 6] (T48_11) vals lo H
theorem L48_8_eq (lo : List Nat) (v1 v2 v4 v5 v6 : AV) (H : Heap) : L48_8 [v1, v2, v4, v5, v6] lo H = (
(fldA 2 v2).bind fun x1 =>
(ld false 1 x1 H).bind fun x2 =>
(lenA .slice x2 H).bind fun x3 =>
(bin .lss .int v6 x3).bind fun x4 =>
cond x4 (
(bin .eql .int v6 v1).bind fun x5 =>
cond x5 (
(litA false 1 [.p nilS] H).bind fun r6 =>
(appA 1 24 v5 r6.1 r6.2).bind fun r7 =>
L48_11 [v1, v2, v4, r7.1, v6] lo r7.2) (
(litA false 1 [] H).bind fun r8 =>
(fldA 2 v2).bind fun x9 =>
(ld false 1 x9 r8.2).bind fun x10 =>
(idxA 1 x10 v6).bind fun x11 =>
(ld false 1 x11 r8.2).bind fun x12 =>
(appA 1 8 r8.1 x12 r8.2).bind fun r13 =>
(litA false 1 [r13.1] r13.2).bind fun r14 =>
(appA 1 24 v5 r14.1 r14.2).bind fun r15 =>
L48_11 [v1, v2, v4, r15.1, v6] lo r15.2)) (
(fldA 0 v2).bind fun x16 =>
(ld false 1 x16 H).bind fun x17 =>
(buildA [(.p nilS), (.p nilS), (.p nilS)] [(0, 1, x17), (2, 1, v5)]).bind fun x18 =>
(callA cfg O 109 [x18] lo H).bind fun r19 =>
((stA 3 v4 r19.1 lo r19.2).map fun H' => (undefA, H')).bind fun r20 =>
((ld true 3 v4 r20.2).bind fun x22 => (some []).map fun q23 => x22 :: q23).bind fun xs21 => leave 0 lo xs21 r20.2)) := by
  show O.lab _ _ _ _ _ _ = _
  rw [O_lab]
  kernel_rfl
theorem L48_11_eq (lo : List Nat) (v1 v2 v4 v5 v6 : AV) (H : Heap) : L48_11 [v1, v2, v4, v5, v6] lo H = (
(bin .add .int v6 (I 1)).bind fun x1 =>
L48_8 [v1, v2, v4, v5, x1] lo H) := by
  show O.lab _ _ _ _ _ _ = _
  rw [O_lab]
  kernel_rfl
theorem f48_eq (a0 a1 : AV) : O.ent 48 [a0, a1] [] [] = (
(boxO [] (AV.cells a0) []).bind fun r1 =>
(boxO [] [(.p nilS), (.p nilS), (.p nilS)] r1.2).bind fun r2 =>
L48_8 [a1, r1.1, r2.1, .p nilS, I 0] [] r2.2) := by
  rw [O_ent]
  kernel_rfl
-- backstitch/backstitchref4.PagesShared
noncomputable def T49_8 : List It := labAt Try.prog cfg 49 8 (fun _ => none)
noncomputable def L49_8 (vals : List AV) (lo : List Nat) (H : Heap) : Res := O.lab 49 [1, 2, 3, 7, 8] (T49_8) vals lo H
noncomputable def T49_11 : List It := labAt Try.prog cfg 49 11 (fun _ => none)
noncomputable def L49_11 (vals : List AV) (lo : List Nat) (H : Heap) : Res := O.lab 49 [1, 2, 3, 7, 8] (T49_11) vals lo H
theorem L49_8_eq (lo : List Nat) (v1 v2 v3 v7 v8 : AV) (H : Heap) : L49_8 [v1, v2, v3, v7, v8] lo H = (
(bin .lss .int v8 (I 16)).bind fun x1 =>
cond x1 (
(fldA 2 v3).bind fun x2 =>
(ld false 1 x2 H).bind fun x3 =>
(idxA 1 x3 v1).bind fun x4 =>
(ld false 1 x4 H).bind fun x5 =>
(idxA 1 x5 v8).bind fun x6 =>
(ld false 1 x6 H).bind fun x7 =>
(bin .neq .int x7 (I (-1))).bind fun x8 =>
(gd x8 true (fldA 2 v3)).bind fun x9 =>
(gd x8 true (ld false 1 x9 H)).bind fun x10 =>
(gd x8 true (some v1)).bind fun x11 =>
(gd x8 true (idxA 1 x10 x11)).bind fun x12 =>
(gd x8 true (ld false 1 x12 H)).bind fun x13 =>
(gd x8 true (some v8)).bind fun x14 =>
(gd x8 true (idxA 1 x13 x14)).bind fun x15 =>
(gd x8 true (ld false 1 x15 H)).bind fun x16 =>
(gd x8 true (fldA 2 v3)).bind fun x17 =>
(gd x8 true (ld false 1 x17 H)).bind fun x18 =>
(gd x8 true (some v2)).bind fun x19 =>
(gd x8 true (idxA 1 x18 x19)).bind fun x20 =>
(gd x8 true (ld false 1 x20 H)).bind fun x21 =>
(gd x8 true (some v8)).bind fun x22 =>
(gd x8 true (idxA 1 x21 x22)).bind fun x23 =>
(gd x8 true (ld false 1 x23 H)).bind fun x24 =>
(gd x8 true (bin .eql .int x16 x24)).bind fun x25 =>
(pickA x8 x25 (B false)).bind fun x26 =>
cond x26 (
(bin .add .int v7 (I 1)).bind fun x27 =>
L49_11 [v1, v2, v3, x27, v8] lo H) (
L49_11 [v1, v2, v3, v7, v8] lo H)) (
leave 0 lo [v7] H)) := by
  show O.lab _ _ _ _ _ _ = _
  rw [O_lab]
  kernel_rfl
theorem L49_11_eq (lo : List Nat) (v1 v2 v3 v7 v8 : AV) (H : Heap) : L49_11 [v1, v2, v3, v7, v8] lo H = (
(bin .add .int v8 (I 1)).bind fun x1 =>
L49_8 [v1, v2, v3, v7, x1] lo H) := by
  show O.lab _ _ _ _ _ _ = _
  rw [O_lab]
  kernel_rfl
theorem f49_eq (a0 a1 a2 : AV) : O.ent 49 [a0, a1, a2] [] [] = (
(boxO [] (AV.cells a0) []).bind fun r1 =>
L49_8 [a1, a2, r1.1, I 0, I 0] [] r1.2) := by
  rw [O_ent]
  kernel_rfl
-- backstitch/pages.Check
noncomputable def T50_16 : List It := labAt Try.prog cfg 50 16 (fun _ => none)
noncomputable def L50_16 (vals : List AV) (lo : List Nat) (H : Heap) : Res := O.lab 50 [3, 32, 33, 34] (T50_16) vals lo H
theorem L50_16_eq (lo : List Nat) (v3 v32 v33 v34 : AV) (H : Heap) : L50_16 [v3, v32, v33, v34] lo H = (
(bin .lss .int v34 v33).bind fun x1 =>
cond x1 (
(idxA 4 v32 v34).bind fun x2 =>
(ld true 4 x2 H).bind fun x3 =>
(some (mkArr 1 [(.v (.int .i64 0)), (.v (.int .i64 0)), (.v (.int .i64 0)), (.v (.int .i64 0))] H)).bind fun r4 =>
((stA 4 r4.1 x3 lo r4.2).map fun H' => (undefA, H')).bind fun r5 =>
(ld true 4 r4.1 r5.2).bind fun x6 =>
(buildA [(I 0), (I 0), (I 0), (I 0)] []).bind fun x7 =>
(bin .eql (.arr 4 [(0, .int), (1, .int), (2, .int), (3, .int)]) x6 x7).bind fun x8 =>
(idxA 1 v3 v34).bind fun x9 =>
(ld false 1 x9 r5.2).bind fun x10 =>
(bin .eql .int x10 (I 0)).bind fun x11 =>
(bin .neq .bool x8 x11).bind fun x12 =>
cond x12 (
leave 0 lo [I 3] r5.2) (
(bin .add .int v34 (I 1)).bind fun x13 =>
L50_16 [v3, v32, v33, x13] lo r5.2)) (
leave 0 lo [I 0] H)) := by
  show O.lab _ _ _ _ _ _ = _
  rw [O_lab]
  kernel_rfl
theorem f50_eq (a0 : AV) : O.ent 50 [a0] [] [] = (
(boxO [] (AV.cells a0) []).bind fun r1 =>
(fldA 0 r1.1).bind fun x2 =>
(ld false 1 x2 r1.2).bind fun x3 =>
(lenA .slice x3 r1.2).bind fun x4 =>
(bin .gtr .int x4 (I 400)).bind fun x5 =>
(gd x5 false (fldA 2 r1.1)).bind fun x6 =>
(gd x5 false (ld false 1 x6 r1.2)).bind fun x7 =>
(gd x5 false (lenA .slice x7 r1.2)).bind fun x8 =>
(gd x5 false (bin .gtr .int x8 (I 40))).bind fun x9 =>
(pickA x5 (B true) x9).bind fun x10 =>
cond x10 (
leave 0 [] [I 2] r1.2) (
(ld true 3 r1.1 r1.2).bind fun x11 =>
(callA cfg O 110 [x11] [] r1.2).bind fun r12 =>
(extractA r12.1 0).bind fun x13 =>
(extractA r12.1 1).bind fun x14 =>
(un .not x14).bind fun x15 =>
(gd x15 false (some x13)).bind fun x16 =>
(gd x15 false (fldA 1 r1.1)).bind fun x17 =>
(gd x15 false (ld false 1 x17 r12.2)).bind fun x18 =>
(gdH x15 false (callA cfg O 101 [x16, x18] [] r12.2) r12.2).bind fun r19 =>
(gd x15 false (un .not r19.1)).bind fun x20 =>
(pickA x15 (B true) x20).bind fun x21 =>
cond x21 (
leave 0 [] [I 3] r19.2) (
(fldA 0 r1.1).bind fun x22 =>
(ld false 1 x22 r19.2).bind fun x23 =>
(lenA .slice x23 r19.2).bind fun x24 =>
L50_16 [x13, x23, x24, I 0] [] r19.2))) := by
  rw [O_ent]
  kernel_rfl
-- backstitch/backstitchref4.SameStore
noncomputable def T51_10 : List It := labAt Try.prog cfg 51 10 (fun _ => none)
noncomputable def L51_10 (vals : List AV) (lo : List Nat) (H : Heap) : Res := O.lab 51 [2, 3, 5] (T51_10) vals lo H
theorem L51_10_eq (lo : List Nat) (v2 v3 v5 : AV) (H : Heap) : L51_10 [v2, v3, v5] lo H = (
(fldA 0 v2).bind fun x1 =>
(ld false 1 x1 H).bind fun x2 =>
(lenA .slice x2 H).bind fun x3 =>
(bin .lss .int v5 x3).bind fun x4 =>
cond x4 (
(fldA 0 v2).bind fun x5 =>
(ld false 1 x5 H).bind fun x6 =>
(idxA 4 x6 v5).bind fun x7 =>
(ld true 4 x7 H).bind fun x8 =>
(fldA 0 v3).bind fun x9 =>
(ld false 1 x9 H).bind fun x10 =>
(idxA 4 x10 v5).bind fun x11 =>
(ld true 4 x11 H).bind fun x12 =>
(bin .neq (.arr 4 [(0, .int), (1, .int), (2, .int), (3, .int)]) x8 x12).bind fun x13 =>
cond x13 (
leave 0 lo [B false] H) (
(bin .add .int v5 (I 1)).bind fun x14 =>
L51_10 [v2, v3, x14] lo H)) (
leave 0 lo [B true] H)) := by
  show O.lab _ _ _ _ _ _ = _
  rw [O_lab]
  kernel_rfl
theorem f51_eq (a0 a1 : AV) : O.ent 51 [a0, a1] [] [] = (
(boxO [] (AV.cells a0) []).bind fun r1 =>
(boxO [] (AV.cells a1) r1.2).bind fun r2 =>
(fldA 0 r1.1).bind fun x3 =>
(ld false 1 x3 r2.2).bind fun x4 =>
(lenA .slice x4 r2.2).bind fun x5 =>
(fldA 0 r2.1).bind fun x6 =>
(ld false 1 x6 r2.2).bind fun x7 =>
(lenA .slice x7 r2.2).bind fun x8 =>
(bin .neq .int x5 x8).bind fun x9 =>
(gd x9 false (fldA 1 r1.1)).bind fun x10 =>
(gd x9 false (ld false 1 x10 r2.2)).bind fun x11 =>
(gd x9 false (fldA 1 r2.1)).bind fun x12 =>
(gd x9 false (ld false 1 x12 r2.2)).bind fun x13 =>
(gdH x9 false (callA cfg O 23 [x11, x13] [] r2.2) r2.2).bind fun r14 =>
(gd x9 false (un .not r14.1)).bind fun x15 =>
(pickA x9 (B true) x15).bind fun x16 =>
(gd x16 false (fldA 2 r1.1)).bind fun x17 =>
(gd x16 false (ld false 1 x17 r14.2)).bind fun x18 =>
(gd x16 false (fldA 2 r2.1)).bind fun x19 =>
(gd x16 false (ld false 1 x19 r14.2)).bind fun x20 =>
(gdH x16 false (callA cfg O 39 [x18, x20] [] r14.2) r14.2).bind fun r21 =>
(gd x16 false (un .not r21.1)).bind fun x22 =>
(pickA x16 (B true) x22).bind fun x23 =>
cond x23 (
leave 0 [] [B false] r21.2) (
L51_10 [r1.1, r2.1, I 0] [] r21.2)) := by
  rw [O_ent]
  kernel_rfl
-- backstitch/pages.asked
noncomputable def T102_11 : List It := labAt Try.prog cfg 102 11 (fun _ => none)
noncomputable def L102_11 (vals : List AV) (lo : List Nat) (H : Heap) : Res := O.lab 102 [7] (T102_11) vals lo H
theorem L102_11_eq (lo : List Nat) (v7 : AV) (H : Heap) : L102_11 [v7] lo H = (
leave 0 lo [v7] H) := by
  show O.lab _ _ _ _ _ _ = _
  rw [O_lab]
  kernel_rfl
theorem f102_eq (a0 a1 a2 : AV) : O.ent 102 [a0, a1, a2] [] [] = (
(boxO [] (AV.cells a0) []).bind fun r1 =>
(ld true 3 r1.1 r1.2).bind fun x2 =>
(litA false 1 [a1] r1.2).bind fun r3 =>
(callA cfg O 107 [x2, r3.1] [] r3.2).bind fun r4 =>
(bin .eql .int r4.1 (I 0)).bind fun x5 =>
(gd x5 true (some a2)).bind fun x6 =>
(gd x5 true (bin .lss .int x6 (I 0))).bind fun x7 =>
(gd x5 true (some x7)).bind fun x8 =>
(gd x8 false (some a2)).bind fun x9 =>
(gd x8 false (bin .geq .int x9 (I 64))).bind fun x10 =>
(gd x5 true (pickA x8 (B true) x10)).bind fun x11 =>
(pickA x5 x11 (B false)).bind fun x12 =>
cond x12 (
L102_11 [I 1] [] r4.2) (
L102_11 [r4.1] [] r4.2)) := by
  rw [O_ent]
  kernel_rfl
-- backstitch/pages.page
theorem f103_eq (a0 a1 a2 : AV) : O.ent 103 [a0, a1, a2] [] [] = (
(boxO [] (AV.cells a0) []).bind fun r1 =>
(some (mkArr 1 [(.v (.int .i64 0)), (.v (.int .i64 0)), (.v (.int .i64 0)), (.v (.int .i64 0))] r1.2)).bind fun r2 =>
(fldA 2 r1.1).bind fun x3 =>
(ld false 1 x3 r2.2).bind fun x4 =>
(idxA 1 x4 a1).bind fun x5 =>
(ld false 1 x5 r2.2).bind fun x6 =>
(bin .quo .int a2 (I 4)).bind fun x7 =>
(idxA 1 x6 x7).bind fun x8 =>
(ld false 1 x8 r2.2).bind fun x9 =>
(bin .geq .int x9 (I 0)).bind fun x10 =>
cond x10 (
(fldA 0 r1.1).bind fun x11 =>
(ld false 1 x11 r2.2).bind fun x12 =>
(idxA 4 x12 x9).bind fun x13 =>
(ld true 4 x13 r2.2).bind fun x14 =>
((stA 4 r2.1 x14 [] r2.2).map fun H' => (undefA, H')).bind fun r15 =>
((ld true 4 r2.1 r15.2).bind fun x17 => (some []).map fun q18 => x17 :: q18).bind fun xs16 => leave 0 [] xs16 r15.2) (
(buildA [(I 0), (I 0), (I 0), (I 0)] []).bind fun x19 =>
((stA 4 r2.1 x19 [] r2.2).map fun H' => (undefA, H')).bind fun r20 =>
((ld true 4 r2.1 r20.2).bind fun x22 => (some []).map fun q23 => x22 :: q23).bind fun xs21 => leave 0 [] xs21 r20.2)) := by
  rw [O_ent]
  kernel_rfl
-- slices.Clone[[]int,int]
theorem f93_eq (a0 : AV) (lo : List Nat) (H : Heap) : O.ent 93 [a0] lo H = (
(bin .eql .slice a0 (.p nilS)).bind fun x1 =>
cond x1 (
leave 9 lo [.p nilS] H) (
(litA false 1 [] H).bind fun r2 =>
(appA 1 8 r2.1 a0 r2.2).bind fun r3 =>
leave 9 lo [r3.1] r3.2)) := by
  rw [O_ent]
  kernel_rfl
-- backstitch/pages.own
noncomputable def T104_8 : List It := labAt Try.prog cfg 104 8 (fun _ => none)
noncomputable def L104_8 (vals : List AV) (lo : List Nat) (H : Heap) : Res := O.lab 104 [2, 3, 14, 15, 16] (T104_8) vals lo H
theorem L104_8_eq (lo : List Nat) (v2 v3 v14 v15 v16 : AV) (H : Heap) : L104_8 [v2, v3, v14, v15, v16] lo H = (
(bin .lss .int v16 v15).bind fun x1 =>
cond x1 (
(idxA 1 v14 v16).bind fun x2 =>
(ld false 1 x2 H).bind fun x3 =>
(fldA 2 v3).bind fun x4 =>
(ldS false 1 x4 H).bind fun x5 =>
(callA cfg O 93 [x3] lo H).bind fun r6 =>
(litA false 1 [r6.1] r6.2).bind fun r7 =>
(appA 1 24 x5 r7.1 r7.2).bind fun r8 =>
(fldA 2 v3).bind fun x9 =>
((stA 1 x9 r8.1 lo r8.2).map fun H' => (undefA, H')).bind fun r10 =>
(bin .add .int v16 (I 1)).bind fun x11 =>
L104_8 [v2, v3, v14, v15, x11] lo r10.2) (
(ld true 3 v3 H).bind fun x12 =>
((stA 3 v2 x12 lo H).map fun H' => (undefA, H')).bind fun r13 =>
((ld true 3 v2 r13.2).bind fun x15 => (some []).map fun q16 => x15 :: q16).bind fun xs14 => leave 1 lo xs14 r13.2)) := by
  show O.lab _ _ _ _ _ _ = _
  rw [O_lab]
  kernel_rfl
theorem f104_eq (a0 : AV) (lo : List Nat) (H : Heap) : O.ent 104 [a0] lo H = (
(boxO [] (AV.cells a0) H).bind fun r1 =>
(boxO [] [(.p nilS), (.p nilS), (.p nilS)] r1.2).bind fun r2 =>
(fldA 0 r1.1).bind fun x3 =>
(ldS false 1 x3 (r2.2 ++ List.replicate 1 AObj.hole)).bind fun x4 =>
(callA cfg O 143 [x4] lo (r2.2 ++ List.replicate 1 AObj.hole)).bind fun r5 =>
(fldA 1 r1.1).bind fun x6 =>
(ldS false 1 x6 r5.2).bind fun x7 =>
(callA cfg O 93 [x7] lo r5.2).bind fun r8 =>
(buildA [(.p nilS), (.p nilS), (.p nilS)] [(0, 1, r5.1), (1, 1, r8.1)]).bind fun x9 =>
(fillA 0 0 [(.p nilS), (.p nilS), (.p nilS)] r8.2).bind fun r10 =>
((stA 3 r10.1 x9 lo r10.2).map fun H' => (undefA, H')).bind fun r11 =>
(fldA 2 r1.1).bind fun x12 =>
(ld false 1 x12 r11.2).bind fun x13 =>
(lenA .slice x13 r11.2).bind fun x14 =>
L104_8 [r2.1, r10.1, x13, x14, I 0] lo r11.2) := by
  rw [O_ent]
  kernel_rfl
-- backstitch/pages.fresh
noncomputable def T105_17 : List It := labAt Try.prog cfg 105 17 (fun _ => none)
noncomputable def L105_17 (vals : List AV) (lo : List Nat) (H : Heap) : Res := O.lab 105 [0, 3, 5] (T105_17) vals lo H
theorem L105_17_eq (lo : List Nat) (v0 v3 v5 : AV) (H : Heap) : L105_17 [v0, v3, v5] lo H = (
(nilCheckA v0).bind fun x1 =>
(fldA 0 x1).bind fun x2 =>
(ld false 1 x2 H).bind fun x3 =>
(ld true 4 v3 H).bind fun x4 =>
(idxA 4 x3 v5).bind fun x5 =>
((stA 4 x5 x4 lo H).map fun H' => (undefA, H')).bind fun r6 =>
leave 1 lo [v5] r6.2) := by
  show O.lab _ _ _ _ _ _ = _
  rw [O_lab]
  kernel_rfl
theorem f105_eq (a0 a1 : AV) (lo : List Nat) (H : Heap) : O.ent 105 [a0, a1] lo H = (
(boxO [] (AV.cells a1) H).bind fun r1 =>
(ld true 4 r1.1 r1.2).bind fun x2 =>
(buildA [(I 0), (I 0), (I 0), (I 0)] []).bind fun x3 =>
(bin .eql (.arr 4 [(0, .int), (1, .int), (2, .int), (3, .int)]) x2 x3).bind fun x4 =>
cond x4 (
leave 1 lo [I (-1)] r1.2) (
(nilCheckA a0).bind fun x5 =>
(fldA 1 x5).bind fun x6 =>
(ld false 1 x6 r1.2).bind fun x7 =>
(callA cfg O 120 [x7, I 0] lo r1.2).bind fun r8 =>
(bin .lss .int r8.1 (I 0)).bind fun x9 =>
cond x9 (
(nilCheckA a0).bind fun x10 =>
(fldA 0 x10).bind fun x11 =>
(ld false 1 x11 r8.2).bind fun x12 =>
(lenA .slice x12 r8.2).bind fun x13 =>
(nilCheckA a0).bind fun x14 =>
(fldA 0 x14).bind fun x15 =>
(ldS false 1 x15 r8.2).bind fun x16 =>
(ldS true 4 r1.1 r8.2).bind fun x17 =>
(litP 4 [x17]).bind fun x18 =>
(appA 4 32 x16 x18 r8.2).bind fun r19 =>
(nilCheckA a0).bind fun x20 =>
(fldA 1 x20).bind fun x21 =>
(ldS false 1 x21 r19.2).bind fun x22 =>
(litP 1 [I 0]).bind fun x23 =>
(appA 1 8 x22 x23 r19.2).bind fun r24 =>
(nilCheckA a0).bind fun x25 =>
(fldA 0 x25).bind fun x26 =>
((stA 1 x26 r19.1 lo r24.2).map fun H' => (undefA, H')).bind fun r27 =>
(nilCheckA a0).bind fun x28 =>
(fldA 1 x28).bind fun x29 =>
((stA 1 x29 r24.1 lo r27.2).map fun H' => (undefA, H')).bind fun r30 =>
L105_17 [a0, r1.1, x13] lo r30.2) (
L105_17 [a0, r1.1, r8.1] lo r8.2))) := by
  rw [O_ent]
  kernel_rfl
-- backstitch/pages.root
noncomputable def T106_13 : List It := labAt Try.prog cfg 106 13 (fun _ => none)
noncomputable def L106_13 (vals : List AV) (lo : List Nat) (H : Heap) : Res := O.lab 106 [0, 1, 5] (T106_13) vals lo H
theorem L106_13_eq (lo : List Nat) (v0 v1 v5 : AV) (H : Heap) : L106_13 [v0, v1, v5] lo H = (
(nilCheckA v0).bind fun x1 =>
(fldA 2 x1).bind fun x2 =>
(ld false 1 x2 H).bind fun x3 =>
(idxA 1 x3 v5).bind fun x4 =>
((stA 1 x4 v1 lo H).map fun H' => (undefA, H')).bind fun r5 =>
leave 1 lo [v5] r5.2) := by
  show O.lab _ _ _ _ _ _ = _
  rw [O_lab]
  kernel_rfl
theorem f106_eq (a0 a1 : AV) (lo : List Nat) (H : Heap) : O.ent 106 [a0, a1] lo H = (
(nilCheckA a0).bind fun x1 =>
(fldA 2 x1).bind fun x2 =>
(ld false 1 x2 H).bind fun x3 =>
(callA cfg O 144 [x3, .fn 145 [] []] lo H).bind fun r4 =>
(bin .lss .int r4.1 (I 0)).bind fun x5 =>
cond x5 (
(nilCheckA a0).bind fun x6 =>
(fldA 2 x6).bind fun x7 =>
(ld false 1 x7 r4.2).bind fun x8 =>
(lenA .slice x8 r4.2).bind fun x9 =>
(nilCheckA a0).bind fun x10 =>
(fldA 2 x10).bind fun x11 =>
(ld false 1 x11 r4.2).bind fun x12 =>
(litA false 1 [.p nilS] r4.2).bind fun r13 =>
(appA 1 24 x12 r13.1 r13.2).bind fun r14 =>
(nilCheckA a0).bind fun x15 =>
(fldA 2 x15).bind fun x16 =>
((stA 1 x16 r14.1 lo r14.2).map fun H' => (undefA, H')).bind fun r17 =>
L106_13 [a0, a1, x9] lo r17.2) (
L106_13 [a0, a1, r4.1] lo r4.2)) := by
  rw [O_ent]
  kernel_rfl
-- backstitch/pages.there
noncomputable def T107_12 : List It := labAt Try.prog cfg 107 12 (fun _ => none)
noncomputable def L107_12 (vals : List AV) (lo : List Nat) (H : Heap) : Res := O.lab 107 [2, 13, 14, 15] (T107_12) vals lo H
theorem L107_12_eq (lo : List Nat) (v2 v13 v14 v15 : AV) (H : Heap) : L107_12 [v2, v13, v14, v15] lo H = (
(bin .lss .int v15 v14).bind fun x1 =>
cond x1 (
(idxA 1 v13 v15).bind fun x2 =>
(ld false 1 x2 H).bind fun x3 =>
(bin .lss .int x3 (I 0)).bind fun x4 =>
(gd x4 false (some x3)).bind fun x5 =>
(gd x4 false (fldA 2 v2)).bind fun x6 =>
(gd x4 false (ld false 1 x6 H)).bind fun x7 =>
(gd x4 false (lenA .slice x7 H)).bind fun x8 =>
(gd x4 false (bin .geq .int x5 x8)).bind fun x9 =>
(pickA x4 (B true) x9).bind fun x10 =>
(gd x10 false (fldA 2 v2)).bind fun x11 =>
(gd x10 false (ld false 1 x11 H)).bind fun x12 =>
(gd x10 false (some x3)).bind fun x13 =>
(gd x10 false (idxA 1 x12 x13)).bind fun x14 =>
(gd x10 false (ld false 1 x14 H)).bind fun x15 =>
(gd x10 false (lenA .slice x15 H)).bind fun x16 =>
(gd x10 false (bin .eql .int x16 (I 0))).bind fun x17 =>
(pickA x10 (B true) x17).bind fun x18 =>
cond x18 (
leave 0 lo [I 5] H) (
(bin .add .int v15 (I 1)).bind fun x19 =>
L107_12 [v2, v13, v14, x19] lo H)) (
leave 0 lo [I 0] H)) := by
  show O.lab _ _ _ _ _ _ = _
  rw [O_lab]
  kernel_rfl
theorem f107_eq (a0 a1 : AV) : O.ent 107 [a0, a1] [] [] = (
(boxO [] (AV.cells a0) []).bind fun r1 =>
(ld true 3 r1.1 r1.2).bind fun x2 =>
(callA cfg O 50 [x2] [] r1.2).bind fun r3 =>
(bin .neq .int r3.1 (I 0)).bind fun x4 =>
cond x4 (
leave 0 [] [r3.1] r3.2) (
(lenA .slice a1 r3.2).bind fun x5 =>
L107_12 [r1.1, a1, x5, I 0] [] r3.2)) := by
  rw [O_ent]
  kernel_rfl
-- backstitch/backstitchref4.between
theorem f83_eq (a0 a1 a2 : AV) : O.ent 83 [a0, a1, a2] [] [] = (
(bin .geq .int a0 a1).bind fun x1 =>
(gd x1 true (some a0)).bind fun x2 =>
(gd x1 true (some a2)).bind fun x3 =>
(gd x1 true (bin .leq .int x2 x3)).bind fun x4 =>
(pickA x1 x4 (B false)).bind fun x5 =>
leave 0 [] [x5] []) := by
  rw [O_ent]
  kernel_rfl
-- backstitch/backstitchref4.PagesUses
noncomputable def T108_8 : List It := labAt Try.prog cfg 108 8 (fun _ => none)
noncomputable def L108_8 (vals : List AV) (lo : List Nat) (H : Heap) : Res := O.lab 108 [1, 2, 5, 6] (T108_8) vals lo H
noncomputable def T108_14 : List It := labAt Try.prog cfg 108 14 (fun _ => none)
noncomputable def L108_14 (vals : List AV) (lo : List Nat) (H : Heap) : Res := O.lab 108 [1, 2, 5, 6, 7] (T108_14) vals lo H
noncomputable def T108_17 : List It := labAt Try.prog cfg 108 17 (fun _ => none)
noncomputable def L108_17 (vals : List AV) (lo : List Nat) (H : Heap) : Res := O.lab 108 [1, 2, 5, 6, 7] (T108_17) vals lo H
theorem L108_8_eq (lo : List Nat) (v1 v2 v5 v6 : AV) (H : Heap) : L108_8 [v1, v2, v5, v6] lo H = (
(fldA 2 v2).bind fun x1 =>
(ld false 1 x1 H).bind fun x2 =>
(lenA .slice x2 H).bind fun x3 =>
(bin .lss .int v6 x3).bind fun x4 =>
cond x4 (
L108_14 [v1, v2, v5, v6, I 0] lo H) (
leave 0 lo [v5] H)) := by
  show O.lab _ _ _ _ _ _ = _
  rw [O_lab]
  kernel_rfl
theorem L108_14_eq (lo : List Nat) (v1 v2 v5 v6 v7 : AV) (H : Heap) : L108_14 [v1, v2, v5, v6, v7] lo H = (
(fldA 2 v2).bind fun x1 =>
(ld false 1 x1 H).bind fun x2 =>
(idxA 1 x2 v6).bind fun x3 =>
(ld false 1 x3 H).bind fun x4 =>
(lenA .slice x4 H).bind fun x5 =>
(bin .lss .int v7 x5).bind fun x6 =>
cond x6 (
(fldA 2 v2).bind fun x7 =>
(ld false 1 x7 H).bind fun x8 =>
(idxA 1 x8 v6).bind fun x9 =>
(ld false 1 x9 H).bind fun x10 =>
(idxA 1 x10 v7).bind fun x11 =>
(ld false 1 x11 H).bind fun x12 =>
(bin .eql .int x12 v1).bind fun x13 =>
cond x13 (
(bin .add .int v5 (I 1)).bind fun x14 =>
L108_17 [v1, v2, x14, v6, v7] lo H) (
L108_17 [v1, v2, v5, v6, v7] lo H)) (
(bin .add .int v6 (I 1)).bind fun x15 =>
L108_8 [v1, v2, v5, x15] lo H)) := by
  show O.lab _ _ _ _ _ _ = _
  rw [O_lab]
  kernel_rfl
theorem L108_17_eq (lo : List Nat) (v1 v2 v5 v6 v7 : AV) (H : Heap) : L108_17 [v1, v2, v5, v6, v7] lo H = (
(bin .add .int v7 (I 1)).bind fun x1 =>
L108_14 [v1, v2, v5, v6, x1] lo H) := by
  show O.lab _ _ _ _ _ _ = _
  rw [O_lab]
  kernel_rfl
theorem f108_eq (a0 a1 : AV) : O.ent 108 [a0, a1] [] [] = (
(boxO [] (AV.cells a0) []).bind fun r1 =>
L108_8 [a1, r1.1, I 0, I 0] [] r1.2) := by
  rw [O_ent]
  kernel_rfl
-- backstitch/backstitchref4.counted
noncomputable def T109_8 : List It := labAt Try.prog cfg 109 8 (fun _ => none)
noncomputable def L109_8 (vals : List AV) (lo : List Nat) (H : Heap) : Res := O.lab 109 [1, 2, 3, 4] (T109_8) vals lo H
noncomputable def T109_21 : List It := labAt Try.prog cfg 109 21 (fun _ => none)
noncomputable def L109_21 (vals : List AV) (lo : List Nat) (H : Heap) : Res := O.lab 109 [1, 2, 3, 4, 5, 6] (T109_21) vals lo H
theorem L109_8_eq (lo : List Nat) (v1 v2 v3 v4 : AV) (H : Heap) : L109_8 [v1, v2, v3, v4] lo H = (
(fldA 0 v1).bind fun x1 =>
(ld false 1 x1 H).bind fun x2 =>
(lenA .slice x2 H).bind fun x3 =>
(bin .lss .int v4 x3).bind fun x4 =>
cond x4 (
(ld true 3 v1 H).bind fun x5 =>
(callA cfg O 108 [x5, v4] lo H).bind fun r6 =>
(fldA 0 v1).bind fun x7 =>
(ld false 1 x7 r6.2).bind fun x8 =>
(idxA 4 x8 v4).bind fun x9 =>
(ld true 4 x9 r6.2).bind fun x10 =>
(some (mkArr 1 [(.v (.int .i64 0)), (.v (.int .i64 0)), (.v (.int .i64 0)), (.v (.int .i64 0))] r6.2)).bind fun r11 =>
((stA 4 r11.1 x10 lo r11.2).map fun H' => (undefA, H')).bind fun r12 =>
(bin .eql .int r6.1 (I 0)).bind fun x13 =>
cond x13 (
(buildA [(I 0), (I 0), (I 0), (I 0)] []).bind fun x14 =>
((stA 4 r11.1 x14 lo r12.2).map fun H' => (undefA, H')).bind fun r15 =>
L109_21 [v1, v2, v3, v4, r6.1, r11.1] lo r15.2) (
L109_21 [v1, v2, v3, v4, r6.1, r11.1] lo r12.2)) (
(ld true 3 v3 H).bind fun x16 =>
((stA 3 v2 x16 lo H).map fun H' => (undefA, H')).bind fun r17 =>
((ld true 3 v2 r17.2).bind fun x19 => (some []).map fun q20 => x19 :: q20).bind fun xs18 => leave 5 lo xs18 r17.2)) := by
  show O.lab _ _ _ _ _ _ = _
  rw [O_lab]
  kernel_rfl
theorem L109_21_eq (lo : List Nat) (v1 v2 v3 v4 v5 v6 : AV) (H : Heap) : L109_21 [v1, v2, v3, v4, v5, v6] lo H = (
(fldA 0 v3).bind fun x1 =>
(ld false 1 x1 H).bind fun x2 =>
(ld true 4 v6 H).bind fun x3 =>
(litA false 4 [x3] H).bind fun r4 =>
(appA 4 32 x2 r4.1 r4.2).bind fun r5 =>
(fldA 0 v3).bind fun x6 =>
((stA 1 x6 r5.1 lo r5.2).map fun H' => (undefA, H')).bind fun r7 =>
(fldA 1 v3).bind fun x8 =>
(ld false 1 x8 r7.2).bind fun x9 =>
(litA false 1 [v5] r7.2).bind fun r10 =>
(appA 1 8 x9 r10.1 r10.2).bind fun r11 =>
(fldA 1 v3).bind fun x12 =>
((stA 1 x12 r11.1 lo r11.2).map fun H' => (undefA, H')).bind fun r13 =>
(bin .add .int v4 (I 1)).bind fun x14 =>
L109_8 [v1, v2, v3, x14] lo r13.2) := by
  show O.lab _ _ _ _ _ _ = _
  rw [O_lab]
  kernel_rfl
theorem f109_eq (a0 : AV) : O.ent 109 [a0] [] [] = (
(boxO [] (AV.cells a0) []).bind fun r1 =>
(boxO [] [(.p nilS), (.p nilS), (.p nilS)] r1.2).bind fun r2 =>
(fldA 2 r1.1).bind fun x3 =>
(ld false 1 x3 r2.2).bind fun x4 =>
(buildA [(.p nilS), (.p nilS), (.p nilS)] [(2, 1, x4)]).bind fun x5 =>
(boxO [] [(.p nilS), (.p nilS), (.p nilS)] r2.2).bind fun r6 =>
((stA 3 r6.1 x5 [] r6.2).map fun H' => (undefA, H')).bind fun r7 =>
L109_8 [r1.1, r2.1, r6.1, I 0] [] r7.2) := by
  rw [O_ent]
  kernel_rfl
-- slices.Equal[[]int,int]
noncomputable def T101_10 : List It := labAt Try.prog cfg 101 10 (fun _ => none)
noncomputable def L101_10 (vals : List AV) (lo : List Nat) (H : Heap) : Res := O.lab 101 [0, 1, 12, 13] (T101_10) vals lo H
theorem L101_10_eq (lo : List Nat) (v0 v1 v12 v13 : AV) (H : Heap) : L101_10 [v0, v1, v12, v13] lo H = (
(bin .lss .int v13 v12).bind fun x1 =>
cond x1 (
(idxA 1 v0 v13).bind fun x2 =>
(ld false 1 x2 H).bind fun x3 =>
(idxA 1 v1 v13).bind fun x4 =>
(ld false 1 x4 H).bind fun x5 =>
(bin .neq .int x3 x5).bind fun x6 =>
cond x6 (
leave 0 lo [B false] H) (
(bin .add .int v13 (I 1)).bind fun x7 =>
L101_10 [v0, v1, v12, x7] lo H)) (
leave 0 lo [B true] H)) := by
  show O.lab _ _ _ _ _ _ = _
  rw [O_lab]
  kernel_rfl
theorem f101_eq (a0 a1 : AV) : O.ent 101 [a0, a1] [] [] = (
(lenA .slice a0 []).bind fun x1 =>
(lenA .slice a1 []).bind fun x2 =>
(bin .neq .int x1 x2).bind fun x3 =>
cond x3 (
leave 0 [] [B false] []) (
(lenA .slice a0 []).bind fun x4 =>
L101_10 [a0, a1, x4, I 0] [] [])) := by
  rw [O_ent]
  kernel_rfl
-- backstitch/pages.uses
noncomputable def T110_8 : List It := labAt Try.prog cfg 110 8 (fun _ => none)
noncomputable def L110_8 (vals : List AV) (lo : List Nat) (H : Heap) : Res := O.lab 110 [4, 14, 15, 16] (T110_8) vals lo H
noncomputable def T110_18 : List It := labAt Try.prog cfg 110 18 (fun _ => none)
noncomputable def L110_18 (vals : List AV) (lo : List Nat) (H : Heap) : Res := O.lab 110 [4, 14, 15, 16, 28, 29, 30] (T110_18) vals lo H
noncomputable def T110_31 : List It := labAt Try.prog cfg 110 31 (fun _ => none)
noncomputable def L110_31 (vals : List AV) (lo : List Nat) (H : Heap) : Res := O.lab 110 [4, 14, 15, 16, 28, 29, 30] (T110_31) vals lo H
theorem L110_8_eq (lo : List Nat) (v4 v14 v15 v16 : AV) (H : Heap) : L110_8 [v4, v14, v15, v16] lo H = (
(bin .lss .int v16 v15).bind fun x1 =>
cond x1 (
(idxA 1 v14 v16).bind fun x2 =>
(ld false 1 x2 H).bind fun x3 =>
(lenA .slice x3 H).bind fun x4 =>
(bin .neq .int x4 (I 0)).bind fun x5 =>
(gd x5 true (some x3)).bind fun x6 =>
(gd x5 true (lenA .slice x6 H)).bind fun x7 =>
(gd x5 true (bin .neq .int x7 (I 16))).bind fun x8 =>
(pickA x5 x8 (B false)).bind fun x9 =>
cond x9 (
leave 0 lo [.p nilS, B false] H) (
(lenA .slice x3 H).bind fun x10 =>
L110_18 [v4, v14, v15, v16, x3, x10, I 0] lo H)) (
leave 0 lo [v4, B true] H)) := by
  show O.lab _ _ _ _ _ _ = _
  rw [O_lab]
  kernel_rfl
theorem L110_18_eq (lo : List Nat) (v4 v14 v15 v16 v28 v29 v30 : AV) (H : Heap) : L110_18 [v4, v14, v15, v16, v28, v29, v30] lo H = (
(bin .lss .int v30 v29).bind fun x1 =>
cond x1 (
(idxA 1 v28 v30).bind fun x2 =>
(ld false 1 x2 H).bind fun x3 =>
(bin .eql .int x3 (I (-1))).bind fun x4 =>
cond x4 (
L110_31 [v4, v14, v15, v16, v28, v29, v30] lo H) (
(bin .lss .int x3 (I 0)).bind fun x5 =>
(gd x5 false (some x3)).bind fun x6 =>
(gd x5 false (some v4)).bind fun x7 =>
(gd x5 false (lenA .slice x7 H)).bind fun x8 =>
(gd x5 false (bin .geq .int x6 x8)).bind fun x9 =>
(pickA x5 (B true) x9).bind fun x10 =>
cond x10 (
leave 0 lo [.p nilS, B false] H) (
(idxA 1 v4 x3).bind fun x11 =>
(ld false 1 x11 H).bind fun x12 =>
(bin .add .int x12 (I 1)).bind fun x13 =>
(idxA 1 v4 x3).bind fun x14 =>
((stA 1 x14 x13 lo H).map fun H' => (undefA, H')).bind fun r15 =>
L110_31 [v4, v14, v15, v16, v28, v29, v30] lo r15.2))) (
(bin .add .int v16 (I 1)).bind fun x16 =>
L110_8 [v4, v14, v15, x16] lo H)) := by
  show O.lab _ _ _ _ _ _ = _
  rw [O_lab]
  kernel_rfl
theorem L110_31_eq (lo : List Nat) (v4 v14 v15 v16 v28 v29 v30 : AV) (H : Heap) : L110_31 [v4, v14, v15, v16, v28, v29, v30] lo H = (
(bin .add .int v30 (I 1)).bind fun x1 =>
L110_18 [v4, v14, v15, v16, v28, v29, x1] lo H) := by
  show O.lab _ _ _ _ _ _ = _
  rw [O_lab]
  kernel_rfl
theorem f110_eq (a0 : AV) : O.ent 110 [a0] [] [] = (
(boxO [] (AV.cells a0) []).bind fun r1 =>
(fldA 0 r1.1).bind fun x2 =>
(ld false 1 x2 r1.2).bind fun x3 =>
(lenA .slice x3 r1.2).bind fun x4 =>
(mkRow 1 8 [(.v (.int .i64 0))] x4 x4 r1.2).bind fun r5 =>
(fldA 2 r1.1).bind fun x6 =>
(ld false 1 x6 r5.2).bind fun x7 =>
(lenA .slice x7 r5.2).bind fun x8 =>
L110_8 [r5.1, x7, x8, I 0] [] r5.2) := by
  rw [O_ent]
  kernel_rfl
-- backstitch/backstitchref4.SameInts
noncomputable def T23_10 : List It := labAt Try.prog cfg 23 10 (fun _ => none)
noncomputable def L23_10 (vals : List AV) (lo : List Nat) (H : Heap) : Res := O.lab 23 [0, 1, 5] (T23_10) vals lo H
theorem L23_10_eq (lo : List Nat) (v0 v1 v5 : AV) (H : Heap) : L23_10 [v0, v1, v5] lo H = (
(lenA .slice v0 H).bind fun x1 =>
(bin .lss .int v5 x1).bind fun x2 =>
cond x2 (
(idxA 1 v0 v5).bind fun x3 =>
(ld false 1 x3 H).bind fun x4 =>
(idxA 1 v1 v5).bind fun x5 =>
(ld false 1 x5 H).bind fun x6 =>
(bin .neq .int x4 x6).bind fun x7 =>
cond x7 (
leave 0 lo [B false] H) (
(bin .add .int v5 (I 1)).bind fun x8 =>
L23_10 [v0, v1, x8] lo H)) (
leave 0 lo [B true] H)) := by
  show O.lab _ _ _ _ _ _ = _
  rw [O_lab]
  kernel_rfl
theorem f23_eq (a0 a1 : AV) : O.ent 23 [a0, a1] [] [] = (
(lenA .slice a0 []).bind fun x1 =>
(lenA .slice a1 []).bind fun x2 =>
(bin .neq .int x1 x2).bind fun x3 =>
cond x3 (
leave 0 [] [B false] []) (
L23_10 [a0, a1, I 0] [] [])) := by
  rw [O_ent]
  kernel_rfl
-- backstitch/backstitchref4.SameRows
noncomputable def T39_10 : List It := labAt Try.prog cfg 39 10 (fun _ => none)
noncomputable def L39_10 (vals : List AV) (lo : List Nat) (H : Heap) : Res := O.lab 39 [0, 1, 5] (T39_10) vals lo H
theorem L39_10_eq (lo : List Nat) (v0 v1 v5 : AV) (H : Heap) : L39_10 [v0, v1, v5] lo H = (
(lenA .slice v0 H).bind fun x1 =>
(bin .lss .int v5 x1).bind fun x2 =>
cond x2 (
(idxA 1 v0 v5).bind fun x3 =>
(ld false 1 x3 H).bind fun x4 =>
(idxA 1 v1 v5).bind fun x5 =>
(ld false 1 x5 H).bind fun x6 =>
(callA cfg O 23 [x4, x6] lo H).bind fun r7 =>
(un .not r7.1).bind fun x8 =>
cond x8 (
leave 0 lo [B false] r7.2) (
(bin .add .int v5 (I 1)).bind fun x9 =>
L39_10 [v0, v1, x9] lo r7.2)) (
leave 0 lo [B true] H)) := by
  show O.lab _ _ _ _ _ _ = _
  rw [O_lab]
  kernel_rfl
theorem f39_eq (a0 a1 : AV) : O.ent 39 [a0, a1] [] [] = (
(lenA .slice a0 []).bind fun x1 =>
(lenA .slice a1 []).bind fun x2 =>
(bin .neq .int x1 x2).bind fun x3 =>
cond x3 (
leave 0 [] [B false] []) (
L39_10 [a0, a1, I 0] [] [])) := by
  rw [O_ent]
  kernel_rfl
-- slices.Clone[[][4]int,[4]int]
theorem f143_eq (a0 : AV) (lo : List Nat) (H : Heap) : O.ent 143 [a0] lo H = (
(bin .eql .slice a0 (.p nilS)).bind fun x1 =>
cond x1 (
leave 9 lo [.p nilS] H) (
(litA false 4 [] H).bind fun r2 =>
(appA 4 32 r2.1 a0 r2.2).bind fun r3 =>
leave 9 lo [r3.1] r3.2)) := by
  rw [O_ent]
  kernel_rfl
-- slices.Index[[]int,int]
noncomputable def T120_6 : List It := labAt Try.prog cfg 120 6 (fun _ => none)
noncomputable def L120_6 (vals : List AV) (lo : List Nat) (H : Heap) : Res := O.lab 120 [0, 1, 7, 8] (T120_6) vals lo H
theorem L120_6_eq (lo : List Nat) (v0 v1 v7 v8 : AV) (H : Heap) : L120_6 [v0, v1, v7, v8] lo H = (
(bin .lss .int v8 v7).bind fun x1 =>
cond x1 (
(idxA 1 v0 v8).bind fun x2 =>
(ld false 1 x2 H).bind fun x3 =>
(bin .eql .int v1 x3).bind fun x4 =>
cond x4 (
leave 0 lo [v8] H) (
(bin .add .int v8 (I 1)).bind fun x5 =>
L120_6 [v0, v1, v7, x5] lo H)) (
leave 0 lo [I (-1)] H)) := by
  show O.lab _ _ _ _ _ _ = _
  rw [O_lab]
  kernel_rfl
theorem f120_eq (a0 a1 : AV) : O.ent 120 [a0, a1] [] [] = (
(lenA .slice a0 []).bind fun x1 =>
L120_6 [a0, a1, x1, I 0] [] []) := by
  rw [O_ent]
  kernel_rfl
-- slices.IndexFunc[[][]int,[]int]
noncomputable def T144_6 : List It := labAt Try.prog cfg 144 6 (fun _ => none)
noncomputable def L144_6 (vals : List AV) (lo : List Nat) (H : Heap) : Res := O.lab 144 [0, 1, 7, 8] (T144_6) vals lo H
theorem L144_6_eq (lo : List Nat) (v0 v1 v7 v8 : AV) (H : Heap) : L144_6 [v0, v1, v7, v8] lo H = (
(bin .lss .int v8 v7).bind fun x1 =>
cond x1 (
(idxA 1 v0 v8).bind fun x2 =>
(ld false 1 x2 H).bind fun x3 =>
(callV cfg O v1 [x3] lo H).bind fun r4 =>
cond r4.1 (
leave 0 lo [v8] r4.2) (
(bin .add .int v8 (I 1)).bind fun x5 =>
L144_6 [v0, v1, v7, x5] lo r4.2)) (
leave 0 lo [I (-1)] H)) := by
  show O.lab _ _ _ _ _ _ = _
  rw [O_lab]
  kernel_rfl
theorem f144_eq (a0 a1 : AV) : O.ent 144 [a0, a1] [] [] = (
(lenA .slice a0 []).bind fun x1 =>
L144_6 [a0, a1, x1, I 0] [] []) := by
  rw [O_ent]
  kernel_rfl
-- backstitch/pages.root$1
theorem f145_eq (a0 : AV) : O.ent 145 [a0] [] [] = (
(lenA .slice a0 []).bind fun x1 =>
(bin .eql .int x1 (I 0)).bind fun x2 =>
leave 0 [] [x2] []) := by
  rw [O_ent]
  kernel_rfl
end Go.Proofs.Ytkhbbjfdbbnojaa
