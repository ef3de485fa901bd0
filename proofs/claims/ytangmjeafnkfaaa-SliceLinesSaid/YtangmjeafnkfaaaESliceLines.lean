import Derived.Test.YtangmjeafnkfaaaCf
set_option linter.unusedVariables false
set_option maxRecDepth 100000
namespace Go.Proofs.Ytangmjeafnkfaaa
open Go Go.AM
-- backstitch/backstitchlaw4.SliceLines
noncomputable def T13_19 : List It := labAt Try.prog cfg 13 19 (fun _ => none)
noncomputable def L13_19 (vals : List AV) (lo : List Nat) (H : Heap) : Res := O.lab 13 [5, 6, 7, 8, 9, 10, 11] (T13_19) vals lo H
noncomputable def T13_24 : List It := labAt Try.prog cfg 13 24 (fun _ => none)
noncomputable def L13_24 (vals : List AV) (lo : List Nat) (H : Heap) : Res := O.lab 13 [5, 6, 7, 8, 9, 10, 11, 12] (T13_24) vals lo H
theorem L13_19_eq (lo : List Nat) (v5 v6 v7 v8 v9 v10 v11 : AV) (H : Heap) : L13_19 [v5, v6, v7, v8, v9, v10, v11] lo H = (
(lenA .slice v7 H).bind fun x1 =>
(lenA .slice v11 H).bind fun x2 =>
(bin .neq .int x1 x2).bind fun x3 =>
cond x3 (
leave 0 lo [B false] H) (
L13_24 [v5, v6, v7, v8, v9, v10, v11, I 0] lo H)) := by
  show O.lab _ _ _ _ _ _ = _
  rw [O_lab]
  kernel_rfl
theorem L13_24_eq (lo : List Nat) (v5 v6 v7 v8 v9 v10 v11 v12 : AV) (H : Heap) : L13_24 [v5, v6, v7, v8, v9, v10, v11, v12] lo H = (
(lenA .slice v7 H).bind fun x1 =>
(bin .lss .int v12 x1).bind fun x2 =>
cond x2 (
(idxA 4 v7 v12).bind fun x3 =>
(ld true 4 x3 H).bind fun x4 =>
(idxA 4 v11 v12).bind fun x5 =>
(ld true 4 x5 H).bind fun x6 =>
(bin .neq (.agg 4 [(0, .int), (1, .int), (2, .int), (3, .int)]) x4 x6).bind fun x7 =>
cond x7 (
leave 0 lo [B false] H) (
(bin .add .int v12 (I 1)).bind fun x8 =>
L13_24 [v5, v6, v7, v8, v9, v10, v11, x8] lo H)) (
(bin .eql .int v5 v10).bind fun x9 =>
(gd x9 true (some v6)).bind fun x10 =>
(gd x9 true (some v9)).bind fun x11 =>
(gd x9 true (bin .eql .int x10 x11)).bind fun x12 =>
(pickA x9 x12 (B false)).bind fun x13 =>
(gd x13 true (some v8)).bind fun x14 =>
(gd x13 true (some v9)).bind fun x15 =>
(gd x13 true (bin .eql .int x14 x15)).bind fun x16 =>
(pickA x13 x16 (B false)).bind fun x17 =>
leave 0 lo [x17] H)) := by
  show O.lab _ _ _ _ _ _ = _
  rw [O_lab]
  kernel_rfl
theorem f13_eq (a0 a1 : AV) : O.ent 13 [a0, a1] [] [] = (
(callA cfg O 52 [a0, a1] [] []).bind fun r1 =>
(extractA r1.1 0).bind fun x2 =>
(extractA r1.1 1).bind fun x3 =>
(callA cfg O 53 [a0, a1] [] r1.2).bind fun r4 =>
(extractA r4.1 0).bind fun x5 =>
(extractA r4.1 1).bind fun x6 =>
(callA cfg O 54 [a0, a1] [] r4.2).bind fun r7 =>
(bin .eql .int r7.1 (I 0)).bind fun x8 =>
cond x8 (
(callA cfg O 55 [a0, a1] [] r7.2).bind fun r9 =>
(callA cfg O 56 [a0, a1] [] r9.2).bind fun r10 =>
L13_19 [x2, x3, x5, x6, r7.1, r9.1, r10.1] [] r10.2) (
L13_19 [x2, x3, x5, x6, r7.1, I 0, .p nilS] [] r7.2)) := by
  rw [O_ent]
  kernel_rfl
-- backstitch/slice.Run
noncomputable def T52_14 : List It := labAt Try.prog cfg 52 14 (fun _ => none)
noncomputable def L52_14 (vals : List AV) (lo : List Nat) (H : Heap) : Res := O.lab 52 [0, 1, 7, 20, 21, 22] (T52_14) vals lo H
theorem L52_14_eq (lo : List Nat) (v0 v1 v7 v20 v21 v22 : AV) (H : Heap) : L52_14 [v0, v1, v7, v20, v21, v22] lo H = (
(bin .lss .int v22 v21).bind fun x1 =>
cond x1 (
(idxA 4 v20 v22).bind fun x2 =>
(ld true 4 x2 H).bind fun x3 =>
(boxO [] [(I 0), (I 0), (I 0), (I 0)] H).bind fun r4 =>
((stA 4 r4.1 x3 lo r4.2).map fun H' => (undefA, H')).bind fun r5 =>
(ld true 4 r4.1 r5.2).bind fun x6 =>
(callA cfg O 119 [v7, x6] lo r5.2).bind fun r7 =>
(bin .add .int v22 (I 1)).bind fun x8 =>
L52_14 [v0, v1, v7, v20, v21, x8] lo r7.2) (
(idxA 4 v0 v1).bind fun x9 =>
(fldA 0 x9).bind fun x10 =>
(ld false 1 x10 H).bind fun x11 =>
(lookA .int (I 0) false v7 x11 H).bind fun x12 =>
leave 0 lo [x12, I 0] H)) := by
  show O.lab _ _ _ _ _ _ = _
  rw [O_lab]
  kernel_rfl
theorem f52_eq (a0 a1 : AV) : O.ent 52 [a0, a1] [] [] = (
(callA cfg O 118 [a0, a1] [] []).bind fun r1 =>
(bin .neq .int r1.1 (I 0)).bind fun x2 =>
cond x2 (
leave 0 [] [I 0, r1.1] r1.2) (
(some (mkMap r1.2)).bind fun r3 =>
(bin .add .int a1 (I 1)).bind fun x4 =>
(cutA 4 a0 none (some x4) none r3.2).bind fun x5 =>
(lenA .slice x5 r3.2).bind fun x6 =>
L52_14 [a0, a1, r3.1, x5, x6, I 0] [] r3.2)) := by
  rw [O_ent]
  kernel_rfl
-- backstitch/slice.Alone
noncomputable def T53_14 : List It := labAt Try.prog cfg 53 14 (fun _ => none)
noncomputable def L53_14 (vals : List AV) (lo : List Nat) (H : Heap) : Res := O.lab 53 [0, 7, 19, 20, 21] (T53_14) vals lo H
noncomputable def T53_23 : List It := labAt Try.prog cfg 53 23 (fun _ => none)
noncomputable def L53_23 (vals : List AV) (lo : List Nat) (H : Heap) : Res := O.lab 53 [0, 7, 19, 20, 21] (T53_23) vals lo H
theorem L53_14_eq (lo : List Nat) (v0 v7 v19 v20 v21 : AV) (H : Heap) : L53_14 [v0, v7, v19, v20, v21] lo H = (
(bin .lss .int v21 v20).bind fun x1 =>
cond x1 (
(idxA 1 v19 v21).bind fun x2 =>
(ld false 1 x2 H).bind fun x3 =>
cond x3 (
(idxA 4 v0 v21).bind fun x4 =>
(ld true 4 x4 H).bind fun x5 =>
(litA false 4 [x5] H).bind fun r6 =>
(appA 4 32 v7 r6.1 r6.2).bind fun r7 =>
L53_23 [v0, r7.1, v19, v20, v21] lo r7.2) (
L53_23 [v0, v7, v19, v20, v21] lo H)) (
leave 0 lo [v7, I 0] H)) := by
  show O.lab _ _ _ _ _ _ = _
  rw [O_lab]
  kernel_rfl
theorem L53_23_eq (lo : List Nat) (v0 v7 v19 v20 v21 : AV) (H : Heap) : L53_23 [v0, v7, v19, v20, v21] lo H = (
(bin .add .int v21 (I 1)).bind fun x1 =>
L53_14 [v0, v7, v19, v20, x1] lo H) := by
  show O.lab _ _ _ _ _ _ = _
  rw [O_lab]
  kernel_rfl
theorem f53_eq (a0 a1 : AV) : O.ent 53 [a0, a1] [] [] = (
(callA cfg O 118 [a0, a1] [] []).bind fun r1 =>
(bin .neq .int r1.1 (I 0)).bind fun x2 =>
cond x2 (
leave 0 [] [.p nilS, r1.1] r1.2) (
(callA cfg O 120 [a0] [] r1.2).bind fun r3 =>
(callA cfg O 99 [r3.1, a1] [] r3.2).bind fun r4 =>
(lenA .slice r4.1 r4.2).bind fun x5 =>
L53_14 [a0, .p nilS, r4.1, x5, I 0] [] r4.2)) := by
  rw [O_ent]
  kernel_rfl
-- backstitch/backstitchref4.LetErr
noncomputable def T54_10 : List It := labAt Try.prog cfg 54 10 (fun _ => none)
noncomputable def L54_10 (vals : List AV) (lo : List Nat) (H : Heap) : Res := O.lab 54 [0, 1, 5] (T54_10) vals lo H
theorem L54_10_eq (lo : List Nat) (v0 v1 v5 : AV) (H : Heap) : L54_10 [v0, v1, v5] lo H = (
(lenA .slice v0 H).bind fun x1 =>
(bin .lss .int v5 x1).bind fun x2 =>
cond x2 (
(idxA 4 v0 v5).bind fun x3 =>
(fldA 1 x3).bind fun x4 =>
(ld false 1 x4 H).bind fun x5 =>
(callA cfg O 61 [x5, I 0, I 3] lo H).bind fun r6 =>
(un .not r6.1).bind fun x7 =>
cond x7 (
leave 0 lo [I 7] r6.2) (
(bin .add .int v5 (I 1)).bind fun x8 =>
L54_10 [v0, v1, x8] lo r6.2)) (
(lenA .slice v0 H).bind fun x9 =>
(bin .sub .int x9 (I 1)).bind fun x10 =>
(callA cfg O 61 [v1, I 0, x10] lo H).bind fun r11 =>
(un .not r11.1).bind fun x12 =>
cond x12 (
leave 0 lo [I 1] r11.2) (
leave 0 lo [I 0] r11.2))) := by
  show O.lab _ _ _ _ _ _ = _
  rw [O_lab]
  kernel_rfl
theorem f54_eq (a0 a1 : AV) : O.ent 54 [a0, a1] [] [] = (
(lenA .slice a0 []).bind fun x1 =>
(bin .gtr .int x1 (I 200)).bind fun x2 =>
cond x2 (
leave 0 [] [I 2] []) (
L54_10 [a0, a1, I 0] [] [])) := by
  rw [O_ent]
  kernel_rfl
-- backstitch/backstitchref4.LetRun
noncomputable def T55_8 : List It := labAt Try.prog cfg 55 8 (fun _ => none)
noncomputable def L55_8 (vals : List AV) (lo : List Nat) (H : Heap) : Res := O.lab 55 [0, 1, 5, 6] (T55_8) vals lo H
noncomputable def T55_11 : List It := labAt Try.prog cfg 55 11 (fun _ => none)
noncomputable def L55_11 (vals : List AV) (lo : List Nat) (H : Heap) : Res := O.lab 55 [0, 1, 5, 6] (T55_11) vals lo H
noncomputable def T55_21 : List It := labAt Try.prog cfg 55 21 (fun _ => none)
noncomputable def L55_21 (vals : List AV) (lo : List Nat) (H : Heap) : Res := O.lab 55 [0, 1, 5, 6, 7, 8] (T55_21) vals lo H
noncomputable def T55_27 : List It := labAt Try.prog cfg 55 27 (fun _ => none)
noncomputable def L55_27 (vals : List AV) (lo : List Nat) (H : Heap) : Res := O.lab 55 [0, 1, 5, 6, 7, 8] (T55_27) vals lo H
theorem L55_8_eq (lo : List Nat) (v0 v1 v5 v6 : AV) (H : Heap) : L55_8 [v0, v1, v5, v6] lo H = (
(bin .leq .int v6 v1).bind fun x1 =>
cond x1 (
(idxA 4 v0 v6).bind fun x2 =>
(fldA 2 x2).bind fun x3 =>
(ld false 1 x3 H).bind fun x4 =>
(callA cfg O 121 [v0, v6, x4] lo H).bind fun r5 =>
(bin .geq .int r5.1 (I 0)).bind fun x6 =>
cond x6 (
(idxA 1 v5 r5.1).bind fun x7 =>
(ld false 1 x7 r5.2).bind fun x8 =>
L55_21 [v0, v1, v5, v6, x8, I 0] lo r5.2) (
L55_21 [v0, v1, v5, v6, I 0, I 0] lo r5.2)) (
(idxA 1 v5 v1).bind fun x9 =>
(ld false 1 x9 H).bind fun x10 =>
leave 0 lo [x10] H)) := by
  show O.lab _ _ _ _ _ _ = _
  rw [O_lab]
  kernel_rfl
theorem L55_11_eq (lo : List Nat) (v0 v1 v5 v6 : AV) (H : Heap) : L55_11 [v0, v1, v5, v6] lo H = (
(bin .add .int v6 (I 1)).bind fun x1 =>
L55_8 [v0, v1, v5, x1] lo H) := by
  show O.lab _ _ _ _ _ _ = _
  rw [O_lab]
  kernel_rfl
theorem L55_21_eq (lo : List Nat) (v0 v1 v5 v6 v7 v8 : AV) (H : Heap) : L55_21 [v0, v1, v5, v6, v7, v8] lo H = (
(idxA 4 v0 v6).bind fun x1 =>
(fldA 3 x1).bind fun x2 =>
(ld false 1 x2 H).bind fun x3 =>
(callA cfg O 121 [v0, v6, x3] lo H).bind fun r4 =>
(bin .geq .int r4.1 (I 0)).bind fun x5 =>
cond x5 (
(idxA 1 v5 r4.1).bind fun x6 =>
(ld false 1 x6 r4.2).bind fun x7 =>
L55_27 [v0, v1, v5, v6, v7, x7] lo r4.2) (
L55_27 [v0, v1, v5, v6, v7, v8] lo r4.2)) := by
  show O.lab _ _ _ _ _ _ = _
  rw [O_lab]
  kernel_rfl
theorem L55_27_eq (lo : List Nat) (v0 v1 v5 v6 v7 v8 : AV) (H : Heap) : L55_27 [v0, v1, v5, v6, v7, v8] lo H = (
(idxA 4 v0 v6).bind fun x1 =>
(fldA 1 x1).bind fun x2 =>
(ld false 1 x2 H).bind fun x3 =>
(bin .eql .int x3 (I 0)).bind fun x4 =>
cond x4 (
(bin .add .int v7 v8).bind fun x5 =>
(idxA 1 v5 v6).bind fun x6 =>
((stA 1 x6 x5 lo H).map fun H' => (undefA, H')).bind fun r7 =>
L55_11 [v0, v1, v5, v6] lo r7.2) (
(bin .eql .int x3 (I 1)).bind fun x8 =>
cond x8 (
(bin .sub .int v7 v8).bind fun x9 =>
(idxA 1 v5 v6).bind fun x10 =>
((stA 1 x10 x9 lo H).map fun H' => (undefA, H')).bind fun r11 =>
L55_11 [v0, v1, v5, v6] lo r11.2) (
(bin .eql .int x3 (I 2)).bind fun x12 =>
cond x12 (
(bin .mul .int v7 v8).bind fun x13 =>
(idxA 1 v5 v6).bind fun x14 =>
((stA 1 x14 x13 lo H).map fun H' => (undefA, H')).bind fun r15 =>
L55_11 [v0, v1, v5, v6] lo r15.2) (
(idxA 4 v0 v6).bind fun x16 =>
(fldA 2 x16).bind fun x17 =>
(ld false 1 x17 H).bind fun x18 =>
(idxA 1 v5 v6).bind fun x19 =>
((stA 1 x19 x18 lo H).map fun H' => (undefA, H')).bind fun r20 =>
L55_11 [v0, v1, v5, v6] lo r20.2)))) := by
  show O.lab _ _ _ _ _ _ = _
  rw [O_lab]
  kernel_rfl
theorem f55_eq (a0 a1 : AV) : O.ent 55 [a0, a1] [] [] = (
(bin .add .int a1 (I 1)).bind fun x1 =>
(mkRow 1 8 [(.v (.int .i64 0))] x1 x1 []).bind fun r2 =>
L55_8 [a0, a1, r2.1, I 0] [] r2.2) := by
  rw [O_ent]
  kernel_rfl
-- backstitch/backstitchref4.LetAlone
noncomputable def T56_12 : List It := labAt Try.prog cfg 56 12 (fun _ => none)
noncomputable def L56_12 (vals : List AV) (lo : List Nat) (H : Heap) : Res := O.lab 56 [0, 5, 6, 7] (T56_12) vals lo H
noncomputable def T56_15 : List It := labAt Try.prog cfg 56 15 (fun _ => none)
noncomputable def L56_15 (vals : List AV) (lo : List Nat) (H : Heap) : Res := O.lab 56 [0, 5, 6, 7] (T56_15) vals lo H
noncomputable def T56_29 : List It := labAt Try.prog cfg 56 29 (fun _ => none)
noncomputable def L56_29 (vals : List AV) (lo : List Nat) (H : Heap) : Res := O.lab 56 [0, 5, 6, 7] (T56_29) vals lo H
theorem L56_12_eq (lo : List Nat) (v0 v5 v6 v7 : AV) (H : Heap) : L56_12 [v0, v5, v6, v7] lo H = (
(bin .geq .int v7 (I 0)).bind fun x1 =>
cond x1 (
(idxA 1 v5 v7).bind fun x2 =>
(ld false 1 x2 H).bind fun x3 =>
(un .not x3).bind fun x4 =>
cond x4 (
L56_15 [v0, v5, v6, v7] lo H) (
(idxA 4 v0 v7).bind fun x5 =>
(ld true 4 x5 H).bind fun x6 =>
(litA false 4 [x6] H).bind fun r7 =>
(appA 4 32 r7.1 v6 r7.2).bind fun r8 =>
(idxA 4 v0 v7).bind fun x9 =>
(fldA 1 x9).bind fun x10 =>
(ld false 1 x10 r8.2).bind fun x11 =>
(bin .eql .int x11 (I 3)).bind fun x12 =>
cond x12 (
L56_15 [v0, v5, r8.1, v7] lo r8.2) (
(idxA 4 v0 v7).bind fun x13 =>
(fldA 2 x13).bind fun x14 =>
(ld false 1 x14 r8.2).bind fun x15 =>
(callA cfg O 121 [v0, v7, x15] lo r8.2).bind fun r16 =>
(bin .geq .int r16.1 (I 0)).bind fun x17 =>
cond x17 (
(idxA 1 v5 r16.1).bind fun x18 =>
((stA 1 x18 (B true) lo r16.2).map fun H' => (undefA, H')).bind fun r19 =>
L56_29 [v0, v5, r8.1, v7] lo r19.2) (
L56_29 [v0, v5, r8.1, v7] lo r16.2)))) (
leave 0 lo [v6] H)) := by
  show O.lab _ _ _ _ _ _ = _
  rw [O_lab]
  kernel_rfl
theorem L56_15_eq (lo : List Nat) (v0 v5 v6 v7 : AV) (H : Heap) : L56_15 [v0, v5, v6, v7] lo H = (
(bin .sub .int v7 (I 1)).bind fun x1 =>
L56_12 [v0, v5, v6, x1] lo H) := by
  show O.lab _ _ _ _ _ _ = _
  rw [O_lab]
  kernel_rfl
theorem L56_29_eq (lo : List Nat) (v0 v5 v6 v7 : AV) (H : Heap) : L56_29 [v0, v5, v6, v7] lo H = (
(idxA 4 v0 v7).bind fun x1 =>
(fldA 3 x1).bind fun x2 =>
(ld false 1 x2 H).bind fun x3 =>
(callA cfg O 121 [v0, v7, x3] lo H).bind fun r4 =>
(bin .geq .int r4.1 (I 0)).bind fun x5 =>
cond x5 (
(idxA 1 v5 r4.1).bind fun x6 =>
((stA 1 x6 (B true) lo r4.2).map fun H' => (undefA, H')).bind fun r7 =>
L56_15 [v0, v5, v6, v7] lo r7.2) (
L56_15 [v0, v5, v6, v7] lo r4.2)) := by
  show O.lab _ _ _ _ _ _ = _
  rw [O_lab]
  kernel_rfl
theorem f56_eq (a0 a1 : AV) : O.ent 56 [a0, a1] [] [] = (
(bin .add .int a1 (I 1)).bind fun x1 =>
(mkRow 1 1 [(.v (.bool false))] x1 x1 []).bind fun r2 =>
(idxA 1 r2.1 a1).bind fun x3 =>
((stA 1 x3 (B true) [] r2.2).map fun H' => (undefA, H')).bind fun r4 =>
L56_12 [a0, r2.1, .p nilS, a1] [] r4.2) := by
  rw [O_ent]
  kernel_rfl
-- backstitch/slice.right
theorem f118_eq (a0 a1 : AV) : O.ent 118 [a0, a1] [] [] = (
(lenA .slice a0 []).bind fun x1 =>
(bin .gtr .int x1 (I 200)).bind fun x2 =>
cond x2 (
leave 0 [] [I 2] []) (
(callA cfg O 145 [a0, .fn 146 [] []] [] []).bind fun r3 =>
cond r3.1 (
leave 0 [] [I 7] r3.2) (
(bin .lss .int a1 (I 0)).bind fun x4 =>
(gd x4 false (some a1)).bind fun x5 =>
(gd x4 false (some a0)).bind fun x6 =>
(gd x4 false (lenA .slice x6 r3.2)).bind fun x7 =>
(gd x4 false (bin .geq .int x5 x7)).bind fun x8 =>
(pickA x4 (B true) x8).bind fun x9 =>
cond x9 (
leave 0 [] [I 1] r3.2) (
leave 0 [] [I 0] r3.2)))) := by
  rw [O_ent]
  kernel_rfl
-- (backstitch/slice.vars).do
noncomputable def T119_23 : List It := labAt Try.prog cfg 119 23 (fun _ => none)
noncomputable def L119_23 (vals : List AV) (lo : List Nat) (H : Heap) : Res := O.lab 119 [0, 3, 4] (T119_23) vals lo H
theorem L119_23_eq (lo : List Nat) (v0 v3 v4 : AV) (H : Heap) : L119_23 [v0, v3, v4] lo H = (
(fldA 0 v3).bind fun x1 =>
(ld false 1 x1 H).bind fun x2 =>
((mapUpdA .int v0 x2 v4 lo H).map fun H' => (undefA, H')).bind fun r3 =>
leave 1 lo [] r3.2) := by
  show O.lab _ _ _ _ _ _ = _
  rw [O_lab]
  kernel_rfl
theorem f119_eq (a0 a1 : AV) (lo : List Nat) (H : Heap) : O.ent 119 [a0, a1] lo H = (
(boxO [] (AV.cells a1) H).bind fun r1 =>
(fldA 2 r1.1).bind fun x2 =>
(ld false 1 x2 r1.2).bind fun x3 =>
(lookA .int (I 0) false a0 x3 r1.2).bind fun x4 =>
(fldA 3 r1.1).bind fun x5 =>
(ld false 1 x5 r1.2).bind fun x6 =>
(lookA .int (I 0) false a0 x6 r1.2).bind fun x7 =>
(fldA 1 r1.1).bind fun x8 =>
(ld false 1 x8 r1.2).bind fun x9 =>
(bin .eql .int x9 (I 0)).bind fun x10 =>
cond x10 (
(bin .add .int x4 x7).bind fun x11 =>
L119_23 [a0, r1.1, x11] lo r1.2) (
(bin .eql .int x9 (I 1)).bind fun x12 =>
cond x12 (
(bin .sub .int x4 x7).bind fun x13 =>
L119_23 [a0, r1.1, x13] lo r1.2) (
(bin .eql .int x9 (I 2)).bind fun x14 =>
cond x14 (
(bin .mul .int x4 x7).bind fun x15 =>
L119_23 [a0, r1.1, x15] lo r1.2) (
(fldA 2 r1.1).bind fun x16 =>
(ld false 1 x16 r1.2).bind fun x17 =>
L119_23 [a0, r1.1, x17] lo r1.2)))) := by
  rw [O_ent]
  kernel_rfl
-- backstitch/slice.back
noncomputable def T99_10 : List It := labAt Try.prog cfg 99 10 (fun _ => none)
noncomputable def L99_10 (vals : List AV) (lo : List Nat) (H : Heap) : Res := O.lab 99 [0, 5, 6] (T99_10) vals lo H
noncomputable def T99_13 : List It := labAt Try.prog cfg 99 13 (fun _ => none)
noncomputable def L99_13 (vals : List AV) (lo : List Nat) (H : Heap) : Res := O.lab 99 [0, 5, 6] (T99_13) vals lo H
noncomputable def T99_18 : List It := labAt Try.prog cfg 99 18 (fun _ => none)
noncomputable def L99_18 (vals : List AV) (lo : List Nat) (H : Heap) : Res := O.lab 99 [0, 5, 6, 29, 30, 31] (T99_18) vals lo H
theorem L99_10_eq (lo : List Nat) (v0 v5 v6 : AV) (H : Heap) : L99_10 [v0, v5, v6] lo H = (
(bin .geq .int v6 (I 0)).bind fun x1 =>
cond x1 (
(idxA 1 v5 v6).bind fun x2 =>
(ld false 1 x2 H).bind fun x3 =>
(un .not x3).bind fun x4 =>
cond x4 (
L99_13 [v0, v5, v6] lo H) (
(idxA 1 v0 v6).bind fun x5 =>
(fldA 0 x5).bind fun x6 =>
(ld false 1 x6 H).bind fun x7 =>
(lenA .slice x7 H).bind fun x8 =>
L99_18 [v0, v5, v6, x7, x8, I 0] lo H)) (
leave 0 lo [v5] H)) := by
  show O.lab _ _ _ _ _ _ = _
  rw [O_lab]
  kernel_rfl
theorem L99_13_eq (lo : List Nat) (v0 v5 v6 : AV) (H : Heap) : L99_13 [v0, v5, v6] lo H = (
(bin .sub .int v6 (I 1)).bind fun x1 =>
L99_10 [v0, v5, x1] lo H) := by
  show O.lab _ _ _ _ _ _ = _
  rw [O_lab]
  kernel_rfl
theorem L99_18_eq (lo : List Nat) (v0 v5 v6 v29 v30 v31 : AV) (H : Heap) : L99_18 [v0, v5, v6, v29, v30, v31] lo H = (
(bin .lss .int v31 v30).bind fun x1 =>
cond x1 (
(idxA 1 v29 v31).bind fun x2 =>
(ld false 1 x2 H).bind fun x3 =>
(idxA 1 v5 x3).bind fun x4 =>
((stA 1 x4 (B true) lo H).map fun H' => (undefA, H')).bind fun r5 =>
(bin .add .int v31 (I 1)).bind fun x6 =>
L99_18 [v0, v5, v6, v29, v30, x6] lo r5.2) (
L99_13 [v0, v5, v6] lo H)) := by
  show O.lab _ _ _ _ _ _ = _
  rw [O_lab]
  kernel_rfl
theorem f99_eq (a0 a1 : AV) : O.ent 99 [a0, a1] [] [] = (
(lenA .slice a0 []).bind fun x1 =>
(mkRow 1 1 [(.v (.bool false))] x1 x1 []).bind fun r2 =>
(idxA 1 r2.1 a1).bind fun x3 =>
((stA 1 x3 (B true) [] r2.2).map fun H' => (undefA, H')).bind fun r4 =>
L99_10 [a0, r2.1, a1] [] r4.2) := by
  rw [O_ent]
  kernel_rfl
-- backstitch/slice.uses
noncomputable def T120_10 : List It := labAt Try.prog cfg 120 10 (fun _ => none)
noncomputable def L120_10 (vals : List AV) (lo : List Nat) (H : Heap) : Res := O.lab 120 [3, 4, 15, 16, 17] (T120_10) vals lo H
noncomputable def T120_16 : List It := labAt Try.prog cfg 120 16 (fun _ => none)
noncomputable def L120_16 (vals : List AV) (lo : List Nat) (H : Heap) : Res := O.lab 120 [3, 4, 5, 6, 15, 16, 17, 26, 27, 28] (T120_16) vals lo H
noncomputable def T120_27 : List It := labAt Try.prog cfg 120 27 (fun _ => none)
noncomputable def L120_27 (vals : List AV) (lo : List Nat) (H : Heap) : Res := O.lab 120 [3, 4, 5, 6, 15, 16, 17, 26, 27, 28] (T120_27) vals lo H
theorem L120_10_eq (lo : List Nat) (v3 v4 v15 v16 v17 : AV) (H : Heap) : L120_10 [v3, v4, v15, v16, v17] lo H = (
(bin .lss .int v17 v16).bind fun x1 =>
cond x1 (
(idxA 4 v15 v17).bind fun x2 =>
(ld true 4 x2 H).bind fun x3 =>
(boxO [] [(I 0), (I 0), (I 0), (I 0)] H).bind fun r4 =>
((stA 4 r4.1 x3 lo r4.2).map fun H' => (undefA, H')).bind fun r5 =>
(fldA 2 r4.1).bind fun x6 =>
(ld false 1 x6 r5.2).bind fun x7 =>
(fldA 3 r4.1).bind fun x8 =>
(ld false 1 x8 r5.2).bind fun x9 =>
(litA false 1 [x7, x9] r5.2).bind fun r10 =>
(lenA .slice r10.1 r10.2).bind fun x11 =>
L120_16 [v3, v4, v17, r4.1, v15, v16, v17, r10.1, x11, I 0] lo r10.2) (
leave 0 lo [v4] H)) := by
  show O.lab _ _ _ _ _ _ = _
  rw [O_lab]
  kernel_rfl
theorem L120_16_eq (lo : List Nat) (v3 v4 v5 v6 v15 v16 v17 v26 v27 v28 : AV) (H : Heap) : L120_16 [v3, v4, v5, v6, v15, v16, v17, v26, v27, v28] lo H = (
(bin .lss .int v28 v27).bind fun x1 =>
cond x1 (
(idxA 1 v26 v28).bind fun x2 =>
(ld false 1 x2 H).bind fun x3 =>
(lookA .int (I 0) true v3 x3 H).bind fun x4 =>
(extractA x4 0).bind fun x5 =>
(extractA x4 1).bind fun x6 =>
(gd x6 true (fldA 1 v6)).bind fun x7 =>
(gd x6 true (ld false 1 x7 H)).bind fun x8 =>
(gd x6 true (bin .lss .int x8 (I 3))).bind fun x9 =>
(pickA x6 x9 (B false)).bind fun x10 =>
cond x10 (
(idxA 1 v4 v5).bind fun x11 =>
(fldA 0 x11).bind fun x12 =>
(ld false 1 x12 H).bind fun x13 =>
(litA false 1 [x5] H).bind fun r14 =>
(appA 1 8 x13 r14.1 r14.2).bind fun r15 =>
(idxA 1 v4 v5).bind fun x16 =>
(fldA 0 x16).bind fun x17 =>
((stA 1 x17 r15.1 lo r15.2).map fun H' => (undefA, H')).bind fun r18 =>
L120_27 [v3, v4, v5, v6, v15, v16, v17, v26, v27, v28] lo r18.2) (
L120_27 [v3, v4, v5, v6, v15, v16, v17, v26, v27, v28] lo H)) (
(fldA 0 v6).bind fun x19 =>
(ld false 1 x19 H).bind fun x20 =>
((mapUpdA .int v3 x20 v5 lo H).map fun H' => (undefA, H')).bind fun r21 =>
(bin .add .int v17 (I 1)).bind fun x22 =>
L120_10 [v3, v4, v15, v16, x22] lo r21.2)) := by
  show O.lab _ _ _ _ _ _ = _
  rw [O_lab]
  kernel_rfl
theorem L120_27_eq (lo : List Nat) (v3 v4 v5 v6 v15 v16 v17 v26 v27 v28 : AV) (H : Heap) : L120_27 [v3, v4, v5, v6, v15, v16, v17, v26, v27, v28] lo H = (
(bin .add .int v28 (I 1)).bind fun x1 =>
L120_16 [v3, v4, v5, v6, v15, v16, v17, v26, v27, x1] lo H) := by
  show O.lab _ _ _ _ _ _ = _
  rw [O_lab]
  kernel_rfl
theorem f120_eq (a0 : AV) : O.ent 120 [a0] [] [] = (
(some (mkMap [])).bind fun r1 =>
(lenA .slice a0 r1.2).bind fun x2 =>
(mkBsl 1 24 [nilS] x2 x2 r1.2).bind fun r3 =>
(lenA .slice a0 r3.2).bind fun x4 =>
L120_10 [r1.1, r3.1, a0, x4, I 0] [] r3.2) := by
  rw [O_ent]
  kernel_rfl
-- backstitch/backstitchref4.lastInto
noncomputable def T121_6 : List It := labAt Try.prog cfg 121 6 (fun _ => none)
noncomputable def L121_6 (vals : List AV) (lo : List Nat) (H : Heap) : Res := O.lab 121 [0, 2, 7] (T121_6) vals lo H
theorem L121_6_eq (lo : List Nat) (v0 v2 v7 : AV) (H : Heap) : L121_6 [v0, v2, v7] lo H = (
(bin .geq .int v7 (I 0)).bind fun x1 =>
cond x1 (
(idxA 4 v0 v7).bind fun x2 =>
(fldA 0 x2).bind fun x3 =>
(ld false 1 x3 H).bind fun x4 =>
(bin .eql .int x4 v2).bind fun x5 =>
cond x5 (
leave 0 lo [v7] H) (
(bin .sub .int v7 (I 1)).bind fun x6 =>
L121_6 [v0, v2, x6] lo H)) (
leave 0 lo [I (-1)] H)) := by
  show O.lab _ _ _ _ _ _ = _
  rw [O_lab]
  kernel_rfl
theorem f121_eq (a0 a1 a2 : AV) : O.ent 121 [a0, a1, a2] [] [] = (
(bin .sub .int a1 (I 1)).bind fun x1 =>
L121_6 [a0, a2, x1] [] []) := by
  rw [O_ent]
  kernel_rfl
-- slices.ContainsFunc[[]backstitch/api.DLet,backstitch/api.DLet]
theorem f145_eq (a0 a1 : AV) : O.ent 145 [a0, a1] [] [] = (
(callA cfg O 155 [a0, a1] [] []).bind fun r1 =>
(bin .geq .int r1.1 (I 0)).bind fun x2 =>
leave 0 [] [x2] r1.2) := by
  rw [O_ent]
  kernel_rfl
-- backstitch/slice.right$1
theorem f146_eq (a0 : AV) : O.ent 146 [a0] [] [] = (
(boxO [] (AV.cells a0) []).bind fun r1 =>
(fldA 1 r1.1).bind fun x2 =>
(ld false 1 x2 r1.2).bind fun x3 =>
(bin .lss .int x3 (I 0)).bind fun x4 =>
(gd x4 false (fldA 1 r1.1)).bind fun x5 =>
(gd x4 false (ld false 1 x5 r1.2)).bind fun x6 =>
(gd x4 false (bin .gtr .int x6 (I 3))).bind fun x7 =>
(pickA x4 (B true) x7).bind fun x8 =>
leave 0 [] [x8] r1.2) := by
  rw [O_ent]
  kernel_rfl
-- slices.IndexFunc[[]backstitch/api.DLet,backstitch/api.DLet]
noncomputable def T155_6 : List It := labAt Try.prog cfg 155 6 (fun _ => none)
noncomputable def L155_6 (vals : List AV) (lo : List Nat) (H : Heap) : Res := O.lab 155 [0, 1, 7, 8] (T155_6) vals lo H
theorem L155_6_eq (lo : List Nat) (v0 v1 v7 v8 : AV) (H : Heap) : L155_6 [v0, v1, v7, v8] lo H = (
(bin .lss .int v8 v7).bind fun x1 =>
cond x1 (
(idxA 4 v0 v8).bind fun x2 =>
(ld true 4 x2 H).bind fun x3 =>
(callV cfg O v1 [x3] lo H).bind fun r4 =>
cond r4.1 (
leave 0 lo [v8] r4.2) (
(bin .add .int v8 (I 1)).bind fun x5 =>
L155_6 [v0, v1, v7, x5] lo r4.2)) (
leave 0 lo [I (-1)] H)) := by
  show O.lab _ _ _ _ _ _ = _
  rw [O_lab]
  kernel_rfl
theorem f155_eq (a0 a1 : AV) : O.ent 155 [a0, a1] [] [] = (
(lenA .slice a0 []).bind fun x1 =>
L155_6 [a0, a1, x1, I 0] [] []) := by
  rw [O_ent]
  kernel_rfl
end Go.Proofs.Ytangmjeafnkfaaa
