import Derived.Test.YtjncpgcbgdkflaaCf
set_option linter.unusedVariables false
set_option maxRecDepth 100000
namespace Go.Proofs.Ytjncpgcbgdkflaa
open Go Go.AM
-- backstitch/backstitchlaw4.WatchTells
noncomputable def T3_25 : List It := labAt Try.prog cfg 3 25 (fun _ => none)
noncomputable def L3_25 (vals : List AV) (lo : List Nat) (H : Heap) : Res := O.lab 3 [0, 1, 2, 9, 10, 11, 12, 13, 14, 15, 16, 17, 18, 19, 20, 21, 22, 23, 24, 25, 26] (T3_25) vals lo H
noncomputable def T3_39 : List It := labAt Try.prog cfg 3 39 (fun _ => none)
noncomputable def L3_39 (vals : List AV) (lo : List Nat) (H : Heap) : Res := O.lab 3 [9, 10, 11, 12, 13, 14, 15, 16, 17, 18, 19, 20, 21, 22, 23, 24, 25, 26] (T3_39) vals lo H
noncomputable def T3_30 : List It := labAt Try.prog cfg 3 30 (fun _ => none)
noncomputable def L3_30 (vals : List AV) (lo : List Nat) (H : Heap) : Res := O.lab 3 [0, 1, 2, 9, 10, 11, 12, 13, 14, 15, 16, 17, 18, 19, 20, 21, 22, 23, 24, 25, 26, 27] (T3_30) vals lo H
noncomputable def T3_33 : List It := labAt Try.prog cfg 3 33 (fun _ => none)
noncomputable def L3_33 (vals : List AV) (lo : List Nat) (H : Heap) : Res := O.lab 3 [0, 1, 2, 9, 10, 11, 12, 13, 14, 15, 16, 17, 18, 19, 20, 21, 22, 23, 24, 25, 26, 27] (T3_33) vals lo H
theorem L3_25_eq (lo : List Nat) (v0 v1 v2 v9 v10 v11 v12 v13 v14 v15 v16 v17 v18 v19 v20 v21 v22 v23 v24 v25 v26 : AV) (H : Heap) : L3_25 [v0, v1, v2, v9, v10, v11, v12, v13, v14, v15, v16, v17, v18, v19, v20, v21, v22, v23, v24, v25, v26] lo H = (
(bin .eql .int v21 (I 0)).bind fun x1 =>
cond x1 (
(callA cfg O 14 [v0] lo H).bind fun r2 =>
L3_30 [v0, v1, v2, v9, v10, v11, v12, v13, v14, v15, v16, v17, v18, v19, v20, v21, v22, v23, v24, r2.1, v26, I 0] lo r2.2) (
L3_39 [v9, v10, v11, v12, v13, v14, v15, v16, v17, v18, v19, v20, v21, v22, v23, v24, v25, v26] lo H)) := by
  show O.lab _ _ _ _ _ _ = _
  rw [O_lab]
  kernel_rfl
theorem L3_39_eq (lo : List Nat) (v9 v10 v11 v12 v13 v14 v15 v16 v17 v18 v19 v20 v21 v22 v23 v24 v25 v26 : AV) (H : Heap) : L3_39 [v9, v10, v11, v12, v13, v14, v15, v16, v17, v18, v19, v20, v21, v22, v23, v24, v25, v26] lo H = (
(ld true 2 v9 H).bind fun x1 =>
(ld true 2 v22 H).bind fun x2 =>
(bin .eql (.agg 2 [(0, .int), (1, .int)]) x1 x2).bind fun x3 =>
(gd x3 true (some v10)).bind fun x4 =>
(gd x3 true (some v23)).bind fun x5 =>
(gd x3 true (bin .eql .bool x4 x5)).bind fun x6 =>
(pickA x3 x6 (B false)).bind fun x7 =>
(gd x7 true (some v11)).bind fun x8 =>
(gd x7 true (some v20)).bind fun x9 =>
(gd x7 true (bin .eql .int x8 x9)).bind fun x10 =>
(pickA x7 x10 (B false)).bind fun x11 =>
(gd x11 true (some v12)).bind fun x12 =>
(gd x11 true (some v24)).bind fun x13 =>
(gd x11 true (bests true x13 [I 0])).bind fun x14 =>
(gd x11 true (bin .eql .int x12 x14)).bind fun x15 =>
(pickA x11 x15 (B false)).bind fun x16 =>
(gd x16 true (some v13)).bind fun x17 =>
(gd x16 true (some v24)).bind fun x18 =>
(gd x16 true (bin .geq .int x18 (I 0))).bind fun x19 =>
(gd x16 true (bin .eql .bool x17 x19)).bind fun x20 =>
(pickA x16 x20 (B false)).bind fun x21 =>
(gd x21 true (some v14)).bind fun x22 =>
(gd x21 true (some v20)).bind fun x23 =>
(gd x21 true (bin .eql .int x22 x23)).bind fun x24 =>
(pickA x21 x24 (B false)).bind fun x25 =>
(gd x25 true (some v15)).bind fun x26 =>
(gd x25 true (some v26)).bind fun x27 =>
(gdH x25 true (callA cfg O 16 [x26, x27] lo H) H).bind fun r28 =>
(pickA x25 r28.1 (B false)).bind fun x29 =>
(gd x29 true (some v16)).bind fun x30 =>
(gd x29 true (some v21)).bind fun x31 =>
(gd x29 true (bin .eql .int x30 x31)).bind fun x32 =>
(pickA x29 x32 (B false)).bind fun x33 =>
(gd x33 true (some v17)).bind fun x34 =>
(gd x33 true (some v25)).bind fun x35 =>
(gd x33 true (bests true x35 [I 0])).bind fun x36 =>
(gd x33 true (bin .eql .int x34 x36)).bind fun x37 =>
(pickA x33 x37 (B false)).bind fun x38 =>
(gd x38 true (some v18)).bind fun x39 =>
(gd x38 true (some v25)).bind fun x40 =>
(gd x38 true (bin .geq .int x40 (I 0))).bind fun x41 =>
(gd x38 true (bin .eql .bool x39 x41)).bind fun x42 =>
(pickA x38 x42 (B false)).bind fun x43 =>
(gd x43 true (some v19)).bind fun x44 =>
(gd x43 true (some v21)).bind fun x45 =>
(gd x43 true (bin .eql .int x44 x45)).bind fun x46 =>
(pickA x43 x46 (B false)).bind fun x47 =>
leave 0 lo [x47] r28.2) := by
  show O.lab _ _ _ _ _ _ = _
  rw [O_lab]
  kernel_rfl
theorem L3_30_eq (lo : List Nat) (v0 v1 v2 v9 v10 v11 v12 v13 v14 v15 v16 v17 v18 v19 v20 v21 v22 v23 v24 v25 v26 v27 : AV) (H : Heap) : L3_30 [v0, v1, v2, v9, v10, v11, v12, v13, v14, v15, v16, v17, v18, v19, v20, v21, v22, v23, v24, v25, v26, v27] lo H = (
(lenA .slice v0 H).bind fun x1 =>
(bin .lss .int v27 x1).bind fun x2 =>
cond x2 (
(idxA 12 v0 v27).bind fun x3 =>
(ld true 12 x3 H).bind fun x4 =>
(callA cfg O 15 [x4, I 4, v1, v2] lo H).bind fun r5 =>
cond r5.1 (
(litA false 1 [v27] r5.2).bind fun r6 =>
(appA 1 8 v26 r6.1 r6.2).bind fun r7 =>
L3_33 [v0, v1, v2, v9, v10, v11, v12, v13, v14, v15, v16, v17, v18, v19, v20, v21, v22, v23, v24, v25, r7.1, v27] lo r7.2) (
L3_33 [v0, v1, v2, v9, v10, v11, v12, v13, v14, v15, v16, v17, v18, v19, v20, v21, v22, v23, v24, v25, v26, v27] lo r5.2)) (
L3_39 [v9, v10, v11, v12, v13, v14, v15, v16, v17, v18, v19, v20, v21, v22, v23, v24, v25, v26] lo H)) := by
  show O.lab _ _ _ _ _ _ = _
  rw [O_lab]
  kernel_rfl
theorem L3_33_eq (lo : List Nat) (v0 v1 v2 v9 v10 v11 v12 v13 v14 v15 v16 v17 v18 v19 v20 v21 v22 v23 v24 v25 v26 v27 : AV) (H : Heap) : L3_33 [v0, v1, v2, v9, v10, v11, v12, v13, v14, v15, v16, v17, v18, v19, v20, v21, v22, v23, v24, v25, v26, v27] lo H = (
(bin .add .int v27 (I 1)).bind fun x1 =>
L3_30 [v0, v1, v2, v9, v10, v11, v12, v13, v14, v15, v16, v17, v18, v19, v20, v21, v22, v23, v24, v25, v26, x1] lo H) := by
  show O.lab _ _ _ _ _ _ = _
  rw [O_lab]
  kernel_rfl
theorem f3_eq (a0 a1 a2 a3 : AV) : O.ent 3 [a0, a1, a2, a3] [] [] = (
(callA cfg O 7 [a0, a1, a2, a3] [] []).bind fun r1 =>
(extractA r1.1 0).bind fun x2 =>
(extractA r1.1 1).bind fun x3 =>
(extractA r1.1 2).bind fun x4 =>
(boxO [] [(I 0), (I 0)] r1.2).bind fun r5 =>
((stA 2 r5.1 x2 [] r5.2).map fun H' => (undefA, H')).bind fun r6 =>
(callA cfg O 8 [a0, a1, a2, a3] [] r6.2).bind fun r7 =>
(extractA r7.1 0).bind fun x8 =>
(extractA r7.1 1).bind fun x9 =>
(extractA r7.1 2).bind fun x10 =>
(callA cfg O 9 [a0, a1, a2] [] r7.2).bind fun r11 =>
(extractA r11.1 0).bind fun x12 =>
(extractA r11.1 1).bind fun x13 =>
(callA cfg O 10 [a0] [] r11.2).bind fun r14 =>
(extractA r14.1 0).bind fun x15 =>
(extractA r14.1 1).bind fun x16 =>
(extractA r14.1 2).bind fun x17 =>
(callA cfg O 11 [a0, a3] [] r14.2).bind fun r18 =>
(callA cfg O 11 [a0, I 0] [] r18.2).bind fun r19 =>
(buildA [(I 0), (I 0)] []).bind fun x20 =>
(boxO [] [(I 0), (I 0)] r19.2).bind fun r21 =>
((stA 2 r21.1 x20 [] r21.2).map fun H' => (undefA, H')).bind fun r22 =>
(bin .eql .int r18.1 (I 0)).bind fun x23 =>
cond x23 (
(callA cfg O 12 [a0, a1, a2, a3] [] r22.2).bind fun r24 =>
(extractA r24.1 0).bind fun x25 =>
(extractA r24.1 1).bind fun x26 =>
((stA 2 r21.1 x25 [] r24.2).map fun H' => (undefA, H')).bind fun r27 =>
(callA cfg O 13 [a0, a1, a2, a3] [] r27.2).bind fun r28 =>
L3_25 [a0, a1, a2, r5.1, x3, x4, x8, x9, x10, x12, x13, x15, x16, x17, r18.1, r19.1, r21.1, x26, r28.1, I (-1), .p nilS] [] r28.2) (
L3_25 [a0, a1, a2, r5.1, x3, x4, x8, x9, x10, x12, x13, x15, x16, x17, r18.1, r19.1, r21.1, B false, I (-1), I (-1), .p nilS] [] r22.2)) := by
  rw [O_ent]
  kernel_rfl
-- backstitch/watch.Value
noncomputable def T7_200002 : List It := labAt Try.prog cfg 7 200002 (fun _ => none)
noncomputable def L7_200002 (vals : List AV) (lo : List Nat) (H : Heap) : Res := O.lab 7 [0, 0, 0, 3, 8, 9, 10, 12] (T7_200002) vals lo H
noncomputable def T7_24 : List It := labAt Try.prog cfg 7 24 (fun _ => none)
noncomputable def L7_24 (vals : List AV) (lo : List Nat) (H : Heap) : Res := O.lab 7 [8, 9, 10, 12, 52, 53, 54] (T7_24) vals lo H
theorem L7_200002_eq (lo : List Nat) (vi vq v0 v3 v8 v9 v10 v12 : AV) (H : Heap) : L7_200002 [vi, vq, v0, v3, v8, v9, v10, v12] lo H = (
(bin .lss .int vi (I 0)).bind fun x3 =>
cond x3 (
(cutA 12 v0 (some v3) none none H).bind fun x1 =>
(lenA .slice x1 H).bind fun x2 =>
L7_24 [v8, v9, v10, v12, x1, x2, I 0] lo H) (
(ld false 1 vq H).bind fun x4 =>
(idxA 12 x4 vi).bind fun x5 =>
(ld true 12 x5 H).bind fun x6 =>
(boxO [] [(I 0), (I 0), (I 0), (I 0), (I 0), (I 0), (I 0), (I 0), (I 0), (I 0), (I 0), (I 0)] H).bind fun r7 =>
((stA 12 r7.1 x6 lo r7.2).map fun H' => (undefA, H')).bind fun r8 =>
(ld true 12 r7.1 r8.2).bind fun x9 =>
(callA cfg O 35 [x9] lo r8.2).bind fun r10 =>
(extractA r10.1 0).bind fun x11 =>
(extractA r10.1 1).bind fun x12 =>
(boxO [] [(I 0), (I 0)] r10.2).bind fun r13 =>
((stA 2 r13.1 x11 lo r13.2).map fun H' => (undefA, H')).bind fun r14 =>
(gd x12 true (ld true 2 r13.1 r14.2)).bind fun x15 =>
(gd x12 true (ld true 2 v12 r14.2)).bind fun x16 =>
(gd x12 true (bin .eql (.agg 2 [(0, .int), (1, .int)]) x15 x16)).bind fun x17 =>
(pickA x12 x17 (B false)).bind fun x18 =>
cond x18 (
(fldA 8 r7.1).bind fun x19 =>
(ld true 2 x19 r14.2).bind fun x20 =>
((stA 2 v8 x20 lo r14.2).map fun H' => (undefA, H')).bind fun r21 =>
((stA 1 v9 (B true) lo r21.2).map fun H' => (undefA, H')).bind fun r22 =>
((stA 1 v10 (I 0) lo r22.2).map fun H' => (undefA, H')).bind fun r23 =>
((ld true 2 v8 r23.2).bind fun x25 => ((ld false 1 v9 r23.2).bind fun x27 => ((ld false 1 v10 r23.2).bind fun x29 => (some []).map fun q30 => x29 :: q30).map fun q28 => x27 :: q28).map fun q26 => x25 :: q26).bind fun xs24 => leave 0 lo xs24 r23.2) (
(bin .sub .int vi (I 1)).bind fun x31 =>
L7_200002 [x31, vq, v0, v3, v8, v9, v10, v12] lo r14.2))) := by
  show O.lab _ _ _ _ _ _ = _
  rw [O_lab]
  kernel_rfl
theorem L7_24_eq (lo : List Nat) (v8 v9 v10 v12 v52 v53 v54 : AV) (H : Heap) : L7_24 [v8, v9, v10, v12, v52, v53, v54] lo H = (
(bin .lss .int v54 v53).bind fun x1 =>
cond x1 (
(idxA 12 v52 v54).bind fun x2 =>
(ld true 12 x2 H).bind fun x3 =>
(boxO [] [(I 0), (I 0), (I 0), (I 0), (I 0), (I 0), (I 0), (I 0), (I 0), (I 0), (I 0), (I 0)] H).bind fun r4 =>
((stA 12 r4.1 x3 lo r4.2).map fun H' => (undefA, H')).bind fun r5 =>
(ld true 12 r4.1 r5.2).bind fun x6 =>
(callA cfg O 35 [x6] lo r5.2).bind fun r7 =>
(extractA r7.1 0).bind fun x8 =>
(extractA r7.1 1).bind fun x9 =>
(boxO [] [(I 0), (I 0)] r7.2).bind fun r10 =>
((stA 2 r10.1 x8 lo r10.2).map fun H' => (undefA, H')).bind fun r11 =>
(un .not x9).bind fun x12 =>
(gd x12 false (ld true 2 r10.1 r11.2)).bind fun x13 =>
(gd x12 false (ld true 2 v12 r11.2)).bind fun x14 =>
(gd x12 false (bin .neq (.agg 2 [(0, .int), (1, .int)]) x13 x14)).bind fun x15 =>
(pickA x12 (B true) x15).bind fun x16 =>
cond x16 (
(bin .add .int v54 (I 1)).bind fun x17 =>
L7_24 [v8, v9, v10, v12, v52, v53, x17] lo r11.2) (
(fldA 0 r4.1).bind fun x18 =>
(ld false 1 x18 r11.2).bind fun x19 =>
(bin .eql .int x19 (I 4)).bind fun x20 =>
cond x20 (
(fldA 10 r4.1).bind fun x21 =>
(ld true 2 x21 r11.2).bind fun x22 =>
((stA 2 v8 x22 lo r11.2).map fun H' => (undefA, H')).bind fun r23 =>
((stA 1 v9 (B true) lo r23.2).map fun H' => (undefA, H')).bind fun r24 =>
((stA 1 v10 (I 0) lo r24.2).map fun H' => (undefA, H')).bind fun r25 =>
((ld true 2 v8 r25.2).bind fun x27 => ((ld false 1 v9 r25.2).bind fun x29 => ((ld false 1 v10 r25.2).bind fun x31 => (some []).map fun q32 => x31 :: q32).map fun q30 => x29 :: q30).map fun q28 => x27 :: q28).bind fun xs26 => leave 0 lo xs26 r25.2) (
(fldA 8 r4.1).bind fun x33 =>
(ld true 2 x33 r11.2).bind fun x34 =>
((stA 2 v8 x34 lo r11.2).map fun H' => (undefA, H')).bind fun r35 =>
((stA 1 v9 (B true) lo r35.2).map fun H' => (undefA, H')).bind fun r36 =>
((stA 1 v10 (I 0) lo r36.2).map fun H' => (undefA, H')).bind fun r37 =>
((ld true 2 v8 r37.2).bind fun x39 => ((ld false 1 v9 r37.2).bind fun x41 => ((ld false 1 v10 r37.2).bind fun x43 => (some []).map fun q44 => x43 :: q44).map fun q42 => x41 :: q42).map fun q40 => x39 :: q40).bind fun xs38 => leave 0 lo xs38 r37.2))) (
(buildA [(I 0), (I 0)] []).bind fun x45 =>
((stA 2 v8 x45 lo H).map fun H' => (undefA, H')).bind fun r46 =>
((stA 1 v9 (B false) lo r46.2).map fun H' => (undefA, H')).bind fun r47 =>
((stA 1 v10 (I 0) lo r47.2).map fun H' => (undefA, H')).bind fun r48 =>
((ld true 2 v8 r48.2).bind fun x50 => ((ld false 1 v9 r48.2).bind fun x52 => ((ld false 1 v10 r48.2).bind fun x54 => (some []).map fun q55 => x54 :: q55).map fun q53 => x52 :: q53).map fun q51 => x50 :: q51).bind fun xs49 => leave 0 lo xs49 r48.2)) := by
  show O.lab _ _ _ _ _ _ = _
  rw [O_lab]
  kernel_rfl
theorem f7_eq (a0 a1 a2 a3 : AV) : O.ent 7 [a0, a1, a2, a3] [] [] = (
(boxO [] [(I 0), (I 0)] []).bind fun r1 =>
(boxO [] [(B false)] r1.2).bind fun r2 =>
(boxO [] [(I 0)] r2.2).bind fun r3 =>
(callA cfg O 33 [a0, a3] [] r3.2).bind fun r4 =>
(bin .neq .int r4.1 (I 0)).bind fun x5 =>
cond x5 (
(buildA [(I 0), (I 0)] []).bind fun x6 =>
((stA 2 r1.1 x6 [] r4.2).map fun H' => (undefA, H')).bind fun r7 =>
((stA 1 r2.1 (B false) [] r7.2).map fun H' => (undefA, H')).bind fun r8 =>
((stA 1 r3.1 r4.1 [] r8.2).map fun H' => (undefA, H')).bind fun r9 =>
((ld true 2 r1.1 r9.2).bind fun x11 => ((ld false 1 r2.1 r9.2).bind fun x13 => ((ld false 1 r3.1 r9.2).bind fun x15 => (some []).map fun q16 => x15 :: q16).map fun q14 => x13 :: q14).map fun q12 => x11 :: q12).bind fun xs10 => leave 0 [] xs10 r9.2) (
(buildA [(I 0), (I 0)] [(0, 1, a1), (1, 1, a2)]).bind fun x17 =>
(boxO [] [(I 0), (I 0)] r4.2).bind fun r18 =>
((stA 2 r18.1 x17 [] r18.2).map fun H' => (undefA, H')).bind fun r19 =>
(cutA 12 a0 none (some a3) none r19.2).bind fun x20 =>
(callA cfg O 34 [x20] [] r19.2).bind fun r21 =>
(rngIn r21.1 56).bind fun x22 =>
(ld false 1 x22 r21.2).bind fun x23 =>
(lenA .slice x23 r21.2).bind fun x24 =>
(bin .sub .int x24 (I 1)).bind fun x25 =>
L7_200002 [x25, x22, a0, a3, r1.1, r2.1, r3.1, r18.1] [] r21.2)) := by
  rw [O_ent]
  kernel_rfl
-- backstitch/watch.Last
noncomputable def T8_200002 : List It := labAt Try.prog cfg 8 200002 (fun _ => none)
noncomputable def L8_200002 (vals : List AV) (lo : List Nat) (H : Heap) : Res := O.lab 8 [0, 0, 5, 6, 8, 9, 10] (T8_200002) vals lo H
theorem L8_200002_eq (lo : List Nat) (vi vq v5 v6 v8 v9 v10 : AV) (H : Heap) : L8_200002 [vi, vq, v5, v6, v8, v9, v10] lo H = (
(bin .lss .int vi (I 0)).bind fun x11 =>
cond x11 (
((stA 1 v8 (I 0) lo H).map fun H' => (undefA, H')).bind fun r1 =>
((stA 1 v9 (B false) lo r1.2).map fun H' => (undefA, H')).bind fun r2 =>
((stA 1 v10 (I 0) lo r2.2).map fun H' => (undefA, H')).bind fun r3 =>
((ld false 1 v8 r3.2).bind fun x5 => ((ld false 1 v9 r3.2).bind fun x7 => ((ld false 1 v10 r3.2).bind fun x9 => (some []).map fun q10 => x9 :: q10).map fun q8 => x7 :: q8).map fun q6 => x5 :: q6).bind fun xs4 => leave 0 lo xs4 r3.2) (
(ld false 1 vq H).bind fun x12 =>
(idxA 12 x12 vi).bind fun x13 =>
(ld true 12 x13 H).bind fun x14 =>
(boxO [] [(I 0), (I 0), (I 0), (I 0), (I 0), (I 0), (I 0), (I 0), (I 0), (I 0), (I 0), (I 0)] H).bind fun r15 =>
((stA 12 r15.1 x14 lo r15.2).map fun H' => (undefA, H')).bind fun r16 =>
(ld false 1 v5 r16.2).bind fun x17 =>
(ld false 1 v6 r16.2).bind fun x18 =>
(buildA [(I 0), (I 0)] [(0, 1, x17), (1, 1, x18)]).bind fun x19 =>
(ld true 12 r15.1 r16.2).bind fun x20 =>
(callA cfg O 36 [x19, x20] lo r16.2).bind fun r21 =>
cond r21.1 (
((stA 1 v8 vi lo r21.2).map fun H' => (undefA, H')).bind fun r22 =>
((stA 1 v9 (B true) lo r22.2).map fun H' => (undefA, H')).bind fun r23 =>
((stA 1 v10 (I 0) lo r23.2).map fun H' => (undefA, H')).bind fun r24 =>
((ld false 1 v8 r24.2).bind fun x26 => ((ld false 1 v9 r24.2).bind fun x28 => ((ld false 1 v10 r24.2).bind fun x30 => (some []).map fun q31 => x30 :: q31).map fun q29 => x28 :: q29).map fun q27 => x26 :: q27).bind fun xs25 => leave 0 lo xs25 r24.2) (
(bin .sub .int vi (I 1)).bind fun x32 =>
L8_200002 [x32, vq, v5, v6, v8, v9, v10] lo r21.2))) := by
  show O.lab _ _ _ _ _ _ = _
  rw [O_lab]
  kernel_rfl
theorem f8_eq (a0 a1 a2 a3 : AV) : O.ent 8 [a0, a1, a2, a3] [] [] = (
(boxO [] (AV.cells a1) []).bind fun r1 =>
(boxO [] (AV.cells a2) r1.2).bind fun r2 =>
(boxO [] [(I 0)] r2.2).bind fun r3 =>
(boxO [] [(B false)] r3.2).bind fun r4 =>
(boxO [] [(I 0)] r4.2).bind fun r5 =>
(callA cfg O 33 [a0, a3] [] r5.2).bind fun r6 =>
(bin .neq .int r6.1 (I 0)).bind fun x7 =>
cond x7 (
((stA 1 r3.1 (I 0) [] r6.2).map fun H' => (undefA, H')).bind fun r8 =>
((stA 1 r4.1 (B false) [] r8.2).map fun H' => (undefA, H')).bind fun r9 =>
((stA 1 r5.1 r6.1 [] r9.2).map fun H' => (undefA, H')).bind fun r10 =>
((ld false 1 r3.1 r10.2).bind fun x12 => ((ld false 1 r4.1 r10.2).bind fun x14 => ((ld false 1 r5.1 r10.2).bind fun x16 => (some []).map fun q17 => x16 :: q17).map fun q15 => x14 :: q15).map fun q13 => x12 :: q13).bind fun xs11 => leave 0 [] xs11 r10.2) (
(cutA 12 a0 none (some a3) none r6.2).bind fun x18 =>
(callA cfg O 34 [x18] [] r6.2).bind fun r19 =>
(rngIn r19.1 56).bind fun x20 =>
(ld false 1 x20 r19.2).bind fun x21 =>
(lenA .slice x21 r19.2).bind fun x22 =>
(bin .sub .int x22 (I 1)).bind fun x23 =>
L8_200002 [x23, x20, r1.1, r2.1, r3.1, r4.1, r5.1] [] r19.2)) := by
  rw [O_ent]
  kernel_rfl
-- backstitch/watch.Writes
noncomputable def T9_14 : List It := labAt Try.prog cfg 9 14 (fun _ => none)
noncomputable def L9_14 (vals : List AV) (lo : List Nat) (H : Heap) : Res := O.lab 9 [1, 2, 9, 17, 18, 19] (T9_14) vals lo H
noncomputable def T9_23 : List It := labAt Try.prog cfg 9 23 (fun _ => none)
noncomputable def L9_23 (vals : List AV) (lo : List Nat) (H : Heap) : Res := O.lab 9 [1, 2, 9, 17, 18, 19] (T9_23) vals lo H
theorem L9_14_eq (lo : List Nat) (v1 v2 v9 v17 v18 v19 : AV) (H : Heap) : L9_14 [v1, v2, v9, v17, v18, v19] lo H = (
(bin .lss .int v19 v18).bind fun x1 =>
cond x1 (
(idxA 12 v17 v19).bind fun x2 =>
(ld true 12 x2 H).bind fun x3 =>
(boxO [] [(I 0), (I 0), (I 0), (I 0), (I 0), (I 0), (I 0), (I 0), (I 0), (I 0), (I 0), (I 0)] H).bind fun r4 =>
((stA 12 r4.1 x3 lo r4.2).map fun H' => (undefA, H')).bind fun r5 =>
(buildA [(I 0), (I 0)] [(0, 1, v1), (1, 1, v2)]).bind fun x6 =>
(ld true 12 r4.1 r5.2).bind fun x7 =>
(callA cfg O 36 [x6, x7] lo r5.2).bind fun r8 =>
cond r8.1 (
(litA false 1 [v19] r8.2).bind fun r9 =>
(appA 1 8 v9 r9.1 r9.2).bind fun r10 =>
L9_23 [v1, v2, r10.1, v17, v18, v19] lo r10.2) (
L9_23 [v1, v2, v9, v17, v18, v19] lo r8.2)) (
leave 0 lo [v9, I 0] H)) := by
  show O.lab _ _ _ _ _ _ = _
  rw [O_lab]
  kernel_rfl
theorem L9_23_eq (lo : List Nat) (v1 v2 v9 v17 v18 v19 : AV) (H : Heap) : L9_23 [v1, v2, v9, v17, v18, v19] lo H = (
(bin .add .int v19 (I 1)).bind fun x1 =>
L9_14 [v1, v2, v9, v17, v18, x1] lo H) := by
  show O.lab _ _ _ _ _ _ = _
  rw [O_lab]
  kernel_rfl
theorem f9_eq (a0 a1 a2 : AV) : O.ent 9 [a0, a1, a2] [] [] = (
(callA cfg O 33 [a0, I 0] [] []).bind fun r1 =>
(bin .neq .int r1.1 (I 0)).bind fun x2 =>
cond x2 (
leave 0 [] [.p nilS, r1.1] r1.2) (
(lenA .slice a0 r1.2).bind fun x3 =>
L9_14 [a1, a2, .p nilS, a0, x3, I 0] [] r1.2)) := by
  rw [O_ent]
  kernel_rfl
-- backstitch/watch.Whole
noncomputable def T10_14 : List It := labAt Try.prog cfg 10 14 (fun _ => none)
noncomputable def L10_14 (vals : List AV) (lo : List Nat) (H : Heap) : Res := O.lab 10 [6, 20, 21, 22] (T10_14) vals lo H
noncomputable def T10_37 : List It := labAt Try.prog cfg 10 37 (fun _ => none)
noncomputable def L10_37 (vals : List AV) (lo : List Nat) (H : Heap) : Res := O.lab 10 [6, 20, 21, 22] (T10_37) vals lo H
noncomputable def T10_29 : List It := labAt Try.prog cfg 10 29 (fun _ => none)
noncomputable def L10_29 (vals : List AV) (lo : List Nat) (H : Heap) : Res := O.lab 10 [6, 7, 8, 9, 11, 20, 21, 22] (T10_29) vals lo H
theorem L10_14_eq (lo : List Nat) (v6 v20 v21 v22 : AV) (H : Heap) : L10_14 [v6, v20, v21, v22] lo H = (
(bin .lss .int v22 v21).bind fun x1 =>
cond x1 (
(idxA 12 v20 v22).bind fun x2 =>
(ld true 12 x2 H).bind fun x3 =>
(boxO [] [(I 0), (I 0), (I 0), (I 0), (I 0), (I 0), (I 0), (I 0), (I 0), (I 0), (I 0), (I 0)] H).bind fun r4 =>
((stA 12 r4.1 x3 lo r4.2).map fun H' => (undefA, H')).bind fun r5 =>
(ld true 12 r4.1 r5.2).bind fun x6 =>
(callA cfg O 35 [x6] lo r5.2).bind fun r7 =>
(extractA r7.1 0).bind fun x8 =>
(extractA r7.1 1).bind fun x9 =>
(boxO [] [(I 0), (I 0)] r7.2).bind fun r10 =>
((stA 2 r10.1 x8 lo r10.2).map fun H' => (undefA, H')).bind fun r11 =>
(un .not x9).bind fun x12 =>
cond x12 (
L10_37 [v6, v20, v21, v22] lo r11.2) (
(fldA 8 r4.1).bind fun x13 =>
(ld true 2 x13 r11.2).bind fun x14 =>
(boxO [] [(I 0), (I 0)] r11.2).bind fun r15 =>
((stA 2 r15.1 x14 lo r15.2).map fun H' => (undefA, H')).bind fun r16 =>
(fldA 0 r4.1).bind fun x17 =>
(ld false 1 x17 r16.2).bind fun x18 =>
(bin .eql .int x18 (I 4)).bind fun x19 =>
cond x19 (
(fldA 10 r4.1).bind fun x20 =>
(ld true 2 x20 r16.2).bind fun x21 =>
((stA 2 r15.1 x21 lo r16.2).map fun H' => (undefA, H')).bind fun r22 =>
L10_29 [v6, v22, r4.1, r10.1, r15.1, v20, v21, v22] lo r22.2) (
L10_29 [v6, v22, r4.1, r10.1, r15.1, v20, v21, v22] lo r16.2))) (
leave 0 lo [I 0, B false, I 0] H)) := by
  show O.lab _ _ _ _ _ _ = _
  rw [O_lab]
  kernel_rfl
theorem L10_37_eq (lo : List Nat) (v6 v20 v21 v22 : AV) (H : Heap) : L10_37 [v6, v20, v21, v22] lo H = (
(bin .add .int v22 (I 1)).bind fun x1 =>
L10_14 [v6, v20, v21, x1] lo H) := by
  show O.lab _ _ _ _ _ _ = _
  rw [O_lab]
  kernel_rfl
theorem L10_29_eq (lo : List Nat) (v6 v7 v8 v9 v11 v20 v21 v22 : AV) (H : Heap) : L10_29 [v6, v7, v8, v9, v11, v20, v21, v22] lo H = (
(ld true 2 v9 H).bind fun x1 =>
(lookA (.agg 2 [(0, .int), (1, .int)]) (.agg [(I 0), (I 0)]) true v6 x1 H).bind fun x2 =>
(extractA x2 0).bind fun x3 =>
(extractA x2 1).bind fun x4 =>
(boxO [] [(I 0), (I 0)] H).bind fun r5 =>
((stA 2 r5.1 x3 lo r5.2).map fun H' => (undefA, H')).bind fun r6 =>
(gd x4 true (ld true 2 r5.1 r6.2)).bind fun x7 =>
(gd x4 true (ld true 2 v11 r6.2)).bind fun x8 =>
(gd x4 true (bin .neq (.agg 2 [(0, .int), (1, .int)]) x7 x8)).bind fun x9 =>
(pickA x4 x9 (B false)).bind fun x10 =>
cond x10 (
leave 0 lo [v7, B true, I 0] r6.2) (
(ld true 2 v9 r6.2).bind fun x11 =>
(fldA 8 v8).bind fun x12 =>
(ld true 2 x12 r6.2).bind fun x13 =>
((mapUpdA (.agg 2 [(0, .int), (1, .int)]) v6 x11 x13 lo r6.2).map fun H' => (undefA, H')).bind fun r14 =>
L10_37 [v6, v20, v21, v22] lo r14.2)) := by
  show O.lab _ _ _ _ _ _ = _
  rw [O_lab]
  kernel_rfl
theorem f10_eq (a0 : AV) : O.ent 10 [a0] [] [] = (
(callA cfg O 33 [a0, I 0] [] []).bind fun r1 =>
(bin .neq .int r1.1 (I 0)).bind fun x2 =>
cond x2 (
leave 0 [] [I 0, B false, r1.1] r1.2) (
(some (mkMap r1.2)).bind fun r3 =>
(lenA .slice a0 r3.2).bind fun x4 =>
L10_14 [r3.1, a0, x4, I 0] [] r3.2)) := by
  rw [O_ent]
  kernel_rfl
-- backstitch/backstitchref4.EventErr
theorem f11_eq (a0 a1 : AV) : O.ent 11 [a0, a1] [] [] = (
(lenA .slice a0 []).bind fun x1 =>
(bin .gtr .int x1 (I 200)).bind fun x2 =>
cond x2 (
leave 0 [] [I 2] []) (
(lenA .slice a0 []).bind fun x3 =>
(callA cfg O 37 [a1, I 0, x3] [] []).bind fun r4 =>
(un .not r4.1).bind fun x5 =>
cond x5 (
leave 0 [] [I 1] r4.2) (
leave 0 [] [I 0] r4.2))) := by
  rw [O_ent]
  kernel_rfl
-- backstitch/backstitchref4.WatchValue
noncomputable def T12_8 : List It := labAt Try.prog cfg 12 8 (fun _ => none)
noncomputable def L12_8 (vals : List AV) (lo : List Nat) (H : Heap) : Res := O.lab 12 [0, 1, 2, 8, 10, 11, 12] (T12_8) vals lo H
noncomputable def T12_11 : List It := labAt Try.prog cfg 12 11 (fun _ => none)
noncomputable def L12_11 (vals : List AV) (lo : List Nat) (H : Heap) : Res := O.lab 12 [0, 1, 2, 8, 10, 11, 12] (T12_11) vals lo H
noncomputable def T12_17 : List It := labAt Try.prog cfg 12 17 (fun _ => none)
noncomputable def L12_17 (vals : List AV) (lo : List Nat) (H : Heap) : Res := O.lab 12 [0, 1, 2, 8, 10, 11, 12] (T12_17) vals lo H
theorem L12_8_eq (lo : List Nat) (v0 v1 v2 v8 v10 v11 v12 : AV) (H : Heap) : L12_8 [v0, v1, v2, v8, v10, v11, v12] lo H = (
(lenA .slice v0 H).bind fun x1 =>
(bin .lss .int v12 x1).bind fun x2 =>
(gd x2 true (some v11)).bind fun x3 =>
(gd x2 true (un .not x3)).bind fun x4 =>
(pickA x2 x4 (B false)).bind fun x5 =>
cond x5 (
(idxA 12 v0 v12).bind fun x6 =>
(ld true 12 x6 H).bind fun x7 =>
(callA cfg O 15 [x7, I 3, v1, v2] lo H).bind fun r8 =>
cond r8.1 (
(idxA 12 v0 v12).bind fun x9 =>
(fldA 8 x9).bind fun x10 =>
(ld true 2 x10 r8.2).bind fun x11 =>
((stA 2 v10 x11 lo r8.2).map fun H' => (undefA, H')).bind fun r12 =>
L12_17 [v0, v1, v2, v8, v10, B true, v12] lo r12.2) (
L12_17 [v0, v1, v2, v8, v10, v11, v12] lo r8.2)) (
(ld true 2 v10 H).bind fun x13 =>
((stA 2 v8 x13 lo H).map fun H' => (undefA, H')).bind fun r14 =>
((ld true 2 v8 r14.2).bind fun x16 => ((some []).map fun q18 => v11 :: q18).map fun q17 => x16 :: q17).bind fun xs15 => leave 0 lo xs15 r14.2)) := by
  show O.lab _ _ _ _ _ _ = _
  rw [O_lab]
  kernel_rfl
theorem L12_11_eq (lo : List Nat) (v0 v1 v2 v8 v10 v11 v12 : AV) (H : Heap) : L12_11 [v0, v1, v2, v8, v10, v11, v12] lo H = (
(bin .add .int v12 (I 1)).bind fun x1 =>
L12_8 [v0, v1, v2, v8, v10, v11, x1] lo H) := by
  show O.lab _ _ _ _ _ _ = _
  rw [O_lab]
  kernel_rfl
theorem L12_17_eq (lo : List Nat) (v0 v1 v2 v8 v10 v11 v12 : AV) (H : Heap) : L12_17 [v0, v1, v2, v8, v10, v11, v12] lo H = (
(idxA 12 v0 v12).bind fun x1 =>
(ld true 12 x1 H).bind fun x2 =>
(callA cfg O 15 [x2, I 4, v1, v2] lo H).bind fun r3 =>
cond r3.1 (
(idxA 12 v0 v12).bind fun x4 =>
(fldA 10 x4).bind fun x5 =>
(ld true 2 x5 r3.2).bind fun x6 =>
((stA 2 v10 x6 lo r3.2).map fun H' => (undefA, H')).bind fun r7 =>
L12_11 [v0, v1, v2, v8, v10, B true, v12] lo r7.2) (
L12_11 [v0, v1, v2, v8, v10, v11, v12] lo r3.2)) := by
  show O.lab _ _ _ _ _ _ = _
  rw [O_lab]
  kernel_rfl
theorem f12_eq (a0 a1 a2 a3 : AV) : O.ent 12 [a0, a1, a2, a3] [] [] = (
(boxO [] [(I 0), (I 0)] []).bind fun r1 =>
(callA cfg O 38 [a0, a1, a2, a3] [] r1.2).bind fun r2 =>
(extractA r2.1 0).bind fun x3 =>
(extractA r2.1 1).bind fun x4 =>
(boxO [] [(I 0), (I 0)] r2.2).bind fun r5 =>
((stA 2 r5.1 x3 [] r5.2).map fun H' => (undefA, H')).bind fun r6 =>
L12_8 [a0, a1, a2, r1.1, r5.1, x4, a3] [] r6.2) := by
  rw [O_ent]
  kernel_rfl
-- backstitch/backstitchref4.WatchLast
noncomputable def T13_8 : List It := labAt Try.prog cfg 13 8 (fun _ => none)
noncomputable def L13_8 (vals : List AV) (lo : List Nat) (H : Heap) : Res := O.lab 13 [0, 1, 2, 3, 9, 10] (T13_8) vals lo H
noncomputable def T13_11 : List It := labAt Try.prog cfg 13 11 (fun _ => none)
noncomputable def L13_11 (vals : List AV) (lo : List Nat) (H : Heap) : Res := O.lab 13 [0, 1, 2, 3, 9, 10] (T13_11) vals lo H
theorem L13_8_eq (lo : List Nat) (v0 v1 v2 v3 v9 v10 : AV) (H : Heap) : L13_8 [v0, v1, v2, v3, v9, v10] lo H = (
(bin .lss .int v10 v3).bind fun x1 =>
cond x1 (
(idxA 12 v0 v10).bind fun x2 =>
(ld true 12 x2 H).bind fun x3 =>
(callA cfg O 15 [x3, I 4, v1, v2] lo H).bind fun r4 =>
cond r4.1 (
L13_11 [v0, v1, v2, v3, v10, v10] lo r4.2) (
L13_11 [v0, v1, v2, v3, v9, v10] lo r4.2)) (
leave 0 lo [v9] H)) := by
  show O.lab _ _ _ _ _ _ = _
  rw [O_lab]
  kernel_rfl
theorem L13_11_eq (lo : List Nat) (v0 v1 v2 v3 v9 v10 : AV) (H : Heap) : L13_11 [v0, v1, v2, v3, v9, v10] lo H = (
(bin .add .int v10 (I 1)).bind fun x1 =>
L13_8 [v0, v1, v2, v3, v9, x1] lo H) := by
  show O.lab _ _ _ _ _ _ = _
  rw [O_lab]
  kernel_rfl
theorem f13_eq (a0 a1 a2 a3 : AV) : O.ent 13 [a0, a1, a2, a3] [] [] = (
L13_8 [a0, a1, a2, a3, I (-1), I 0] [] []) := by
  rw [O_ent]
  kernel_rfl
-- backstitch/backstitchref4.WatchWhole
noncomputable def T14_6 : List It := labAt Try.prog cfg 14 6 (fun _ => none)
noncomputable def L14_6 (vals : List AV) (lo : List Nat) (H : Heap) : Res := O.lab 14 [0, 3] (T14_6) vals lo H
noncomputable def T14_9 : List It := labAt Try.prog cfg 14 9 (fun _ => none)
noncomputable def L14_9 (vals : List AV) (lo : List Nat) (H : Heap) : Res := O.lab 14 [0, 3] (T14_9) vals lo H
noncomputable def T14_21 : List It := labAt Try.prog cfg 14 21 (fun _ => none)
noncomputable def L14_21 (vals : List AV) (lo : List Nat) (H : Heap) : Res := O.lab 14 [0, 3, 4, 5, 6] (T14_21) vals lo H
theorem L14_6_eq (lo : List Nat) (v0 v3 : AV) (H : Heap) : L14_6 [v0, v3] lo H = (
(lenA .slice v0 H).bind fun x1 =>
(bin .lss .int v3 x1).bind fun x2 =>
cond x2 (
(idxA 12 v0 v3).bind fun x3 =>
(fldA 0 x3).bind fun x4 =>
(ld false 1 x4 H).bind fun x5 =>
(bin .neq .int x5 (I 3)).bind fun x6 =>
(gd x6 true (some v0)).bind fun x7 =>
(gd x6 true (some v3)).bind fun x8 =>
(gd x6 true (idxA 12 x7 x8)).bind fun x9 =>
(gd x6 true (fldA 0 x9)).bind fun x10 =>
(gd x6 true (ld false 1 x10 H)).bind fun x11 =>
(gd x6 true (bin .neq .int x11 (I 4))).bind fun x12 =>
(pickA x6 x12 (B false)).bind fun x13 =>
cond x13 (
L14_9 [v0, v3] lo H) (
(idxA 12 v0 v3).bind fun x14 =>
(fldA 6 x14).bind fun x15 =>
(ld false 1 x15 H).bind fun x16 =>
(idxA 12 v0 v3).bind fun x17 =>
(fldA 7 x17).bind fun x18 =>
(ld false 1 x18 H).bind fun x19 =>
(callA cfg O 38 [v0, x16, x19, v3] lo H).bind fun r20 =>
(extractA r20.1 0).bind fun x21 =>
(extractA r20.1 1).bind fun x22 =>
(boxO [] [(I 0), (I 0)] r20.2).bind fun r23 =>
((stA 2 r23.1 x21 lo r23.2).map fun H' => (undefA, H')).bind fun r24 =>
(idxA 12 v0 v3).bind fun x25 =>
(fldA 8 x25).bind fun x26 =>
(ld true 2 x26 r24.2).bind fun x27 =>
(boxO [] [(I 0), (I 0)] r24.2).bind fun r28 =>
((stA 2 r28.1 x27 lo r28.2).map fun H' => (undefA, H')).bind fun r29 =>
(idxA 12 v0 v3).bind fun x30 =>
(fldA 0 x30).bind fun x31 =>
(ld false 1 x31 r29.2).bind fun x32 =>
(bin .eql .int x32 (I 4)).bind fun x33 =>
cond x33 (
(idxA 12 v0 v3).bind fun x34 =>
(fldA 10 x34).bind fun x35 =>
(ld true 2 x35 r29.2).bind fun x36 =>
((stA 2 r28.1 x36 lo r29.2).map fun H' => (undefA, H')).bind fun r37 =>
L14_21 [v0, v3, r23.1, x22, r28.1] lo r37.2) (
L14_21 [v0, v3, r23.1, x22, r28.1] lo r29.2))) (
leave 0 lo [I (-1)] H)) := by
  show O.lab _ _ _ _ _ _ = _
  rw [O_lab]
  kernel_rfl
theorem L14_9_eq (lo : List Nat) (v0 v3 : AV) (H : Heap) : L14_9 [v0, v3] lo H = (
(bin .add .int v3 (I 1)).bind fun x1 =>
L14_6 [v0, x1] lo H) := by
  show O.lab _ _ _ _ _ _ = _
  rw [O_lab]
  kernel_rfl
theorem L14_21_eq (lo : List Nat) (v0 v3 v4 v5 v6 : AV) (H : Heap) : L14_21 [v0, v3, v4, v5, v6] lo H = (
(gd v5 true (ld true 2 v4 H)).bind fun x1 =>
(gd v5 true (ld true 2 v6 H)).bind fun x2 =>
(gd v5 true (bin .neq (.agg 2 [(0, .int), (1, .int)]) x1 x2)).bind fun x3 =>
(pickA v5 x3 (B false)).bind fun x4 =>
cond x4 (
leave 0 lo [v3] H) (
L14_9 [v0, v3] lo H)) := by
  show O.lab _ _ _ _ _ _ = _
  rw [O_lab]
  kernel_rfl
theorem f14_eq (a0 : AV) : O.ent 14 [a0] [] [] = (
L14_6 [a0, I 0] [] []) := by
  rw [O_ent]
  kernel_rfl
-- backstitch/backstitchref4.IsAt
theorem f15_eq (a0 a1 a2 a3 : AV) : O.ent 15 [a0, a1, a2, a3] [] [] = (
(boxO [] (AV.cells a0) []).bind fun r1 =>
(fldA 0 r1.1).bind fun x2 =>
(ld false 1 x2 r1.2).bind fun x3 =>
(bin .eql .int x3 a1).bind fun x4 =>
(gd x4 true (fldA 6 r1.1)).bind fun x5 =>
(gd x4 true (ld false 1 x5 r1.2)).bind fun x6 =>
(gd x4 true (some a2)).bind fun x7 =>
(gd x4 true (bin .eql .int x6 x7)).bind fun x8 =>
(pickA x4 x8 (B false)).bind fun x9 =>
(gd x9 true (fldA 7 r1.1)).bind fun x10 =>
(gd x9 true (ld false 1 x10 r1.2)).bind fun x11 =>
(gd x9 true (some a3)).bind fun x12 =>
(gd x9 true (bin .eql .int x11 x12)).bind fun x13 =>
(pickA x9 x13 (B false)).bind fun x14 =>
leave 0 [] [x14] r1.2) := by
  rw [O_ent]
  kernel_rfl
-- backstitch/backstitchref4.SameInts
noncomputable def T16_10 : List It := labAt Try.prog cfg 16 10 (fun _ => none)
noncomputable def L16_10 (vals : List AV) (lo : List Nat) (H : Heap) : Res := O.lab 16 [0, 1, 5] (T16_10) vals lo H
theorem L16_10_eq (lo : List Nat) (v0 v1 v5 : AV) (H : Heap) : L16_10 [v0, v1, v5] lo H = (
(lenA .slice v0 H).bind fun x1 =>
(bin .lss .int v5 x1).bind fun x2 =>
cond x2 (
(idxA 1 v0 v5).bind fun x3 =>
(ld false 1 x3 H).bind fun x4 =>
(idxA 1 v1 v5).bind fun x5 =>
(ld false 1 x5 H).bind fun x6 =>
(bin .neq .int x4 x6).bind fun x7 =>
cond x7 (
leave 0 lo [B false] H) (
(bin .add .int v5 (I 1)).bind fun x8 =>
L16_10 [v0, v1, x8] lo H)) (
leave 0 lo [B true] H)) := by
  show O.lab _ _ _ _ _ _ = _
  rw [O_lab]
  kernel_rfl
theorem f16_eq (a0 a1 : AV) : O.ent 16 [a0, a1] [] [] = (
(lenA .slice a0 []).bind fun x1 =>
(lenA .slice a1 []).bind fun x2 =>
(bin .neq .int x1 x2).bind fun x3 =>
cond x3 (
leave 0 [] [B false] []) (
L16_10 [a0, a1, I 0] [] [])) := by
  rw [O_ent]
  kernel_rfl
-- backstitch/watch.check
theorem f33_eq (a0 a1 : AV) : O.ent 33 [a0, a1] [] [] = (
(lenA .slice a0 []).bind fun x1 =>
(bin .gtr .int x1 (I 200)).bind fun x2 =>
cond x2 (
leave 0 [] [I 2] []) (
(bin .lss .int a1 (I 0)).bind fun x3 =>
(gd x3 false (some a1)).bind fun x4 =>
(gd x3 false (some a0)).bind fun x5 =>
(gd x3 false (lenA .slice x5 [])).bind fun x6 =>
(gd x3 false (bin .gtr .int x4 x6)).bind fun x7 =>
(pickA x3 (B true) x7).bind fun x8 =>
cond x8 (
leave 0 [] [I 1] []) (
leave 0 [] [I 0] []))) := by
  rw [O_ent]
  kernel_rfl
-- slices.Backward[[]backstitch/api.Event,backstitch/api.Event]
theorem f34_eq (a0 : AV) (lo : List Nat) (H : Heap) : O.ent 34 [a0] lo H = (
(boxO [] (AV.cells a0) H).bind fun r1 =>
leave 4 lo [.fn 56 [] [r1.1]] r1.2) := by
  rw [O_ent]
  kernel_rfl
-- backstitch/watch.of
theorem f35_eq (a0 : AV) : O.ent 35 [a0] [] [] = (
(boxO [] (AV.cells a0) []).bind fun r1 =>
(boxO [] [(I 0), (I 0)] r1.2).bind fun r2 =>
(fldA 6 r1.1).bind fun x3 =>
(ld false 1 x3 r2.2).bind fun x4 =>
(fldA 7 r1.1).bind fun x5 =>
(ld false 1 x5 r2.2).bind fun x6 =>
(buildA [(I 0), (I 0)] [(0, 1, x4), (1, 1, x6)]).bind fun x7 =>
(fldA 0 r1.1).bind fun x8 =>
(ld false 1 x8 r2.2).bind fun x9 =>
(bin .eql .int x9 (I 3)).bind fun x10 =>
(gd x10 false (fldA 0 r1.1)).bind fun x11 =>
(gd x10 false (ldX false 1 x11 r2.2)).bind fun x12 =>
(gd x10 false (bin .eql .int x12 (I 4))).bind fun x13 =>
(pickA x10 (B true) x13).bind fun x14 =>
((stX 2 r2.1 x7 [] r2.2).map fun H' => (undefA, H')).bind fun r15 =>
((ld true 2 r2.1 r15.2).bind fun x17 => ((some []).map fun q19 => x14 :: q19).map fun q18 => x17 :: q18).bind fun xs16 => leave 0 [] xs16 r15.2) := by
  rw [O_ent]
  kernel_rfl
-- (backstitch/watch.slot).writes
theorem f36_eq (a0 a1 : AV) : O.ent 36 [a0, a1] [] [] = (
(boxO [] (AV.cells a0) []).bind fun r1 =>
(boxO [] (AV.cells a1) r1.2).bind fun r2 =>
(ld true 12 r2.1 r2.2).bind fun x3 =>
(callA cfg O 35 [x3] [] r2.2).bind fun r4 =>
(extractA r4.1 0).bind fun x5 =>
(extractA r4.1 1).bind fun x6 =>
(boxO [] [(I 0), (I 0)] r4.2).bind fun r7 =>
((stA 2 r7.1 x5 [] r7.2).map fun H' => (undefA, H')).bind fun r8 =>
(gd x6 true (ld true 2 r7.1 r8.2)).bind fun x9 =>
(gd x6 true (ld true 2 r1.1 r8.2)).bind fun x10 =>
(gd x6 true (bin .eql (.agg 2 [(0, .int), (1, .int)]) x9 x10)).bind fun x11 =>
(pickA x6 x11 (B false)).bind fun x12 =>
(gd x12 true (fldA 0 r2.1)).bind fun x13 =>
(gd x12 true (ld false 1 x13 r8.2)).bind fun x14 =>
(gd x12 true (bin .eql .int x14 (I 4))).bind fun x15 =>
(pickA x12 x15 (B false)).bind fun x16 =>
leave 0 [] [x16] r8.2) := by
  rw [O_ent]
  kernel_rfl
-- backstitch/backstitchref4.between
theorem f37_eq (a0 a1 a2 : AV) : O.ent 37 [a0, a1, a2] [] [] = (
(bin .geq .int a0 a1).bind fun x1 =>
(gd x1 true (some a0)).bind fun x2 =>
(gd x1 true (some a2)).bind fun x3 =>
(gd x1 true (bin .leq .int x2 x3)).bind fun x4 =>
(pickA x1 x4 (B false)).bind fun x5 =>
leave 0 [] [x5] []) := by
  rw [O_ent]
  kernel_rfl
-- backstitch/backstitchref4.WatchKnown
noncomputable def T38_8 : List It := labAt Try.prog cfg 38 8 (fun _ => none)
noncomputable def L38_8 (vals : List AV) (lo : List Nat) (H : Heap) : Res := O.lab 38 [0, 1, 2, 3, 8, 10, 11, 12] (T38_8) vals lo H
noncomputable def T38_11 : List It := labAt Try.prog cfg 38 11 (fun _ => none)
noncomputable def L38_11 (vals : List AV) (lo : List Nat) (H : Heap) : Res := O.lab 38 [0, 1, 2, 3, 8, 10, 11, 12] (T38_11) vals lo H
theorem L38_8_eq (lo : List Nat) (v0 v1 v2 v3 v8 v10 v11 v12 : AV) (H : Heap) : L38_8 [v0, v1, v2, v3, v8, v10, v11, v12] lo H = (
(bin .lss .int v12 v3).bind fun x1 =>
cond x1 (
(idxA 12 v0 v12).bind fun x2 =>
(ld true 12 x2 H).bind fun x3 =>
(callA cfg O 15 [x3, I 3, v1, v2] lo H).bind fun r4 =>
(gd r4.1 false (some v0)).bind fun x5 =>
(gd r4.1 false (some v12)).bind fun x6 =>
(gd r4.1 false (idxA 12 x5 x6)).bind fun x7 =>
(gd r4.1 false (ld true 12 x7 r4.2)).bind fun x8 =>
(gd r4.1 false (some v1)).bind fun x9 =>
(gd r4.1 false (some v2)).bind fun x10 =>
(gdH r4.1 false (callA cfg O 15 [x8, I 4, x9, x10] lo r4.2) r4.2).bind fun r11 =>
(pickA r4.1 (B true) r11.1).bind fun x12 =>
cond x12 (
(idxA 12 v0 v12).bind fun x13 =>
(fldA 8 x13).bind fun x14 =>
(ld true 2 x14 r11.2).bind fun x15 =>
((stA 2 v10 x15 lo r11.2).map fun H' => (undefA, H')).bind fun r16 =>
L38_11 [v0, v1, v2, v3, v8, v10, B true, v12] lo r16.2) (
L38_11 [v0, v1, v2, v3, v8, v10, v11, v12] lo r11.2)) (
(ld true 2 v10 H).bind fun x17 =>
((stA 2 v8 x17 lo H).map fun H' => (undefA, H')).bind fun r18 =>
((ld true 2 v8 r18.2).bind fun x20 => ((some []).map fun q22 => v11 :: q22).map fun q21 => x20 :: q21).bind fun xs19 => leave 0 lo xs19 r18.2)) := by
  show O.lab _ _ _ _ _ _ = _
  rw [O_lab]
  kernel_rfl
theorem L38_11_eq (lo : List Nat) (v0 v1 v2 v3 v8 v10 v11 v12 : AV) (H : Heap) : L38_11 [v0, v1, v2, v3, v8, v10, v11, v12] lo H = (
(bin .add .int v12 (I 1)).bind fun x1 =>
L38_8 [v0, v1, v2, v3, v8, v10, v11, x1] lo H) := by
  show O.lab _ _ _ _ _ _ = _
  rw [O_lab]
  kernel_rfl
theorem f38_eq (a0 a1 a2 a3 : AV) : O.ent 38 [a0, a1, a2, a3] [] [] = (
(boxO [] [(I 0), (I 0)] []).bind fun r1 =>
(buildA [(I 0), (I 0)] []).bind fun x2 =>
(boxO [] [(I 0), (I 0)] r1.2).bind fun r3 =>
((stA 2 r3.1 x2 [] r3.2).map fun H' => (undefA, H')).bind fun r4 =>
L38_8 [a0, a1, a2, a3, r1.1, r3.1, B false, I 0] [] r4.2) := by
  rw [O_ent]
  kernel_rfl
-- slices.Backward[[]backstitch/api.Event,backstitch/api.Event]$1
noncomputable def T56_4 : List It := labAt Try.prog cfg 56 4 (fun _ => none)
noncomputable def L56_4 (vals : List AV) (lo : List Nat) (H : Heap) : Res := O.lab 56 [0, 1, 3] (T56_4) vals lo H
theorem L56_4_eq (lo : List Nat) (v0 v1 v3 : AV) (H : Heap) : L56_4 [v0, v1, v3] lo H = (
(bin .geq .int v3 (I 0)).bind fun x1 =>
cond x1 (
(ld false 1 v1 H).bind fun x2 =>
(idxA 12 x2 v3).bind fun x3 =>
(ld true 12 x3 H).bind fun x4 =>
(callV cfg O v0 [v3, x4] lo H).bind fun r5 =>
(un .not r5.1).bind fun x6 =>
cond x6 (
leave 0 lo [] r5.2) (
(bin .sub .int v3 (I 1)).bind fun x7 =>
L56_4 [v0, v1, x7] lo r5.2)) (
leave 0 lo [] H)) := by
  show O.lab _ _ _ _ _ _ = _
  rw [O_lab]
  kernel_rfl
theorem f56_eq (a0 a1 : AV) : O.ent 56 [a0, a1] [] [] = (
(ld false 1 a1 []).bind fun x1 =>
(lenA .slice x1 []).bind fun x2 =>
(bin .sub .int x2 (I 1)).bind fun x3 =>
L56_4 [a0, a1, x3] [] []) := by
  rw [O_ent]
  kernel_rfl
end Go.Proofs.Ytjncpgcbgdkflaa
