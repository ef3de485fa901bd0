import Derived.Test.YtangmjeafnkfaaaCf
set_option linter.unusedVariables false
set_option maxRecDepth 100000
namespace Go.Proofs.Ytangmjeafnkfaaa
open Go Go.AM
-- backstitch/backstitchlaw4.WalkTells
noncomputable def T7_31 : List It := labAt Try.prog cfg 7 31 (fun _ => none)
noncomputable def L7_31 (vals : List AV) (lo : List Nat) (H : Heap) : Res := O.lab 7 [0, 1, 7, 8, 9, 10, 11, 12, 13, 14, 15, 16, 17, 18, 19] (T7_31) vals lo H
noncomputable def T7_18 : List It := labAt Try.prog cfg 7 18 (fun _ => none)
noncomputable def L7_18 (vals : List AV) (lo : List Nat) (H : Heap) : Res := O.lab 7 [0, 1, 2, 7, 8, 9, 10, 11, 12, 13, 14, 15, 16, 17, 18, 19, 20] (T7_18) vals lo H
noncomputable def T7_21 : List It := labAt Try.prog cfg 7 21 (fun _ => none)
noncomputable def L7_21 (vals : List AV) (lo : List Nat) (H : Heap) : Res := O.lab 7 [0, 1, 2, 7, 8, 9, 10, 11, 12, 13, 14, 15, 16, 17, 18, 19, 20] (T7_21) vals lo H
noncomputable def T7_27 : List It := labAt Try.prog cfg 7 27 (fun _ => none)
noncomputable def L7_27 (vals : List AV) (lo : List Nat) (H : Heap) : Res := O.lab 7 [0, 1, 2, 7, 8, 9, 10, 11, 12, 13, 14, 15, 16, 17, 18, 19, 20] (T7_27) vals lo H
noncomputable def T7_35 : List It := labAt Try.prog cfg 7 35 (fun _ => none)
noncomputable def L7_35 (vals : List AV) (lo : List Nat) (H : Heap) : Res := O.lab 7 [7, 8, 9, 10, 11, 12, 13, 14, 15, 16, 17, 18, 19] (T7_35) vals lo H
theorem L7_31_eq (lo : List Nat) (v0 v1 v7 v8 v9 v10 v11 v12 v13 v14 v15 v16 v17 v18 v19 : AV) (H : Heap) : L7_31 [v0, v1, v7, v8, v9, v10, v11, v12, v13, v14, v15, v16, v17, v18, v19] lo H = (
(bin .eql .int v16 (I 0)).bind fun x1 =>
cond x1 (
(callA cfg O 34 [v0, v1] lo H).bind fun r2 =>
L7_35 [v7, v8, v9, v10, v11, v12, v13, v14, v15, v16, v17, v18, r2.1] lo r2.2) (
L7_35 [v7, v8, v9, v10, v11, v12, v13, v14, v15, v16, v17, v18, v19] lo H)) := by
  show O.lab _ _ _ _ _ _ = _
  rw [O_lab]
  kernel_rfl
theorem L7_18_eq (lo : List Nat) (v0 v1 v2 v7 v8 v9 v10 v11 v12 v13 v14 v15 v16 v17 v18 v19 v20 : AV) (H : Heap) : L7_18 [v0, v1, v2, v7, v8, v9, v10, v11, v12, v13, v14, v15, v16, v17, v18, v19, v20] lo H = (
(lenA .slice v0 H).bind fun x1 =>
(bin .lss .int v20 x1).bind fun x2 =>
cond x2 (
(bin .gtr .int v20 v1).bind fun x3 =>
(gd x3 true (some v17)).bind fun x4 =>
(gd x3 true (bin .lss .int x4 (I 0))).bind fun x5 =>
(pickA x3 x5 (B false)).bind fun x6 =>
(gd x6 true (some v0)).bind fun x7 =>
(gd x6 true (some v1)).bind fun x8 =>
(gd x6 true (idxA 3 x7 x8)).bind fun x9 =>
(gd x6 true (ld true 3 x9 H)).bind fun x10 =>
(gd x6 true (some v0)).bind fun x11 =>
(gd x6 true (some v20)).bind fun x12 =>
(gd x6 true (idxA 3 x11 x12)).bind fun x13 =>
(gd x6 true (ld true 3 x13 H)).bind fun x14 =>
(gd x6 true (some v2)).bind fun x15 =>
(gdH x6 true (callA cfg O 33 [x10, x14, x15] lo H) H).bind fun r16 =>
(pickA x6 r16.1 (B false)).bind fun x17 =>
cond x17 (
L7_27 [v0, v1, v2, v7, v8, v9, v10, v11, v12, v13, v14, v15, v16, v20, v18, v19, v20] lo r16.2) (
L7_27 [v0, v1, v2, v7, v8, v9, v10, v11, v12, v13, v14, v15, v16, v17, v18, v19, v20] lo r16.2)) (
L7_31 [v0, v1, v7, v8, v9, v10, v11, v12, v13, v14, v15, v16, v17, v18, v19] lo H)) := by
  show O.lab _ _ _ _ _ _ = _
  rw [O_lab]
  kernel_rfl
theorem L7_21_eq (lo : List Nat) (v0 v1 v2 v7 v8 v9 v10 v11 v12 v13 v14 v15 v16 v17 v18 v19 v20 : AV) (H : Heap) : L7_21 [v0, v1, v2, v7, v8, v9, v10, v11, v12, v13, v14, v15, v16, v17, v18, v19, v20] lo H = (
(bin .add .int v20 (I 1)).bind fun x1 =>
L7_18 [v0, v1, v2, v7, v8, v9, v10, v11, v12, v13, v14, v15, v16, v17, v18, v19, x1] lo H) := by
  show O.lab _ _ _ _ _ _ = _
  rw [O_lab]
  kernel_rfl
theorem L7_27_eq (lo : List Nat) (v0 v1 v2 v7 v8 v9 v10 v11 v12 v13 v14 v15 v16 v17 v18 v19 v20 : AV) (H : Heap) : L7_27 [v0, v1, v2, v7, v8, v9, v10, v11, v12, v13, v14, v15, v16, v17, v18, v19, v20] lo H = (
(bin .lss .int v20 v1).bind fun x1 =>
(gd x1 true (some v0)).bind fun x2 =>
(gd x1 true (some v20)).bind fun x3 =>
(gd x1 true (idxA 3 x2 x3)).bind fun x4 =>
(gd x1 true (ld true 3 x4 H)).bind fun x5 =>
(gd x1 true (some v0)).bind fun x6 =>
(gd x1 true (some v1)).bind fun x7 =>
(gd x1 true (idxA 3 x6 x7)).bind fun x8 =>
(gd x1 true (ld true 3 x8 H)).bind fun x9 =>
(gd x1 true (some v2)).bind fun x10 =>
(gdH x1 true (callA cfg O 33 [x5, x9, x10] lo H) H).bind fun r11 =>
(pickA x1 r11.1 (B false)).bind fun x12 =>
cond x12 (
L7_21 [v0, v1, v2, v7, v8, v9, v10, v11, v12, v13, v14, v15, v16, v17, v20, v19, v20] lo r11.2) (
L7_21 [v0, v1, v2, v7, v8, v9, v10, v11, v12, v13, v14, v15, v16, v17, v18, v19, v20] lo r11.2)) := by
  show O.lab _ _ _ _ _ _ = _
  rw [O_lab]
  kernel_rfl
theorem L7_35_eq (lo : List Nat) (v7 v8 v9 v10 v11 v12 v13 v14 v15 v16 v17 v18 v19 : AV) (H : Heap) : L7_35 [v7, v8, v9, v10, v11, v12, v13, v14, v15, v16, v17, v18, v19] lo H = (
(bests true v17 [I 0]).bind fun x1 =>
(bin .eql .int v7 x1).bind fun x2 =>
(gd x2 true (some v8)).bind fun x3 =>
(gd x2 true (some v17)).bind fun x4 =>
(gd x2 true (bin .geq .int x4 (I 0))).bind fun x5 =>
(gd x2 true (bin .eql .bool x3 x5)).bind fun x6 =>
(pickA x2 x6 (B false)).bind fun x7 =>
(gd x7 true (some v9)).bind fun x8 =>
(gd x7 true (some v15)).bind fun x9 =>
(gd x7 true (bin .eql .int x8 x9)).bind fun x10 =>
(pickA x7 x10 (B false)).bind fun x11 =>
(gd x11 true (some v10)).bind fun x12 =>
(gd x11 true (some v18)).bind fun x13 =>
(gd x11 true (bests true x13 [I 0])).bind fun x14 =>
(gd x11 true (bin .eql .int x12 x14)).bind fun x15 =>
(pickA x11 x15 (B false)).bind fun x16 =>
(gd x16 true (some v11)).bind fun x17 =>
(gd x16 true (some v18)).bind fun x18 =>
(gd x16 true (bin .geq .int x18 (I 0))).bind fun x19 =>
(gd x16 true (bin .eql .bool x17 x19)).bind fun x20 =>
(pickA x16 x20 (B false)).bind fun x21 =>
(gd x21 true (some v12)).bind fun x22 =>
(gd x21 true (some v15)).bind fun x23 =>
(gd x21 true (bin .eql .int x22 x23)).bind fun x24 =>
(pickA x21 x24 (B false)).bind fun x25 =>
(gd x25 true (some v13)).bind fun x26 =>
(gd x25 true (some v19)).bind fun x27 =>
(gd x25 true (bin .eql .int x26 x27)).bind fun x28 =>
(pickA x25 x28 (B false)).bind fun x29 =>
(gd x29 true (some v14)).bind fun x30 =>
(gd x29 true (some v16)).bind fun x31 =>
(gd x29 true (bin .eql .int x30 x31)).bind fun x32 =>
(pickA x29 x32 (B false)).bind fun x33 =>
leave 0 lo [x33] H) := by
  show O.lab _ _ _ _ _ _ = _
  rw [O_lab]
  kernel_rfl
theorem f7_eq (a0 a1 a2 : AV) : O.ent 7 [a0, a1, a2] [] [] = (
(callA cfg O 29 [a0, a1, a2] [] []).bind fun r1 =>
(extractA r1.1 0).bind fun x2 =>
(extractA r1.1 1).bind fun x3 =>
(extractA r1.1 2).bind fun x4 =>
(callA cfg O 30 [a0, a1, a2] [] r1.2).bind fun r5 =>
(extractA r5.1 0).bind fun x6 =>
(extractA r5.1 1).bind fun x7 =>
(extractA r5.1 2).bind fun x8 =>
(callA cfg O 31 [a0, a1] [] r5.2).bind fun r9 =>
(extractA r9.1 0).bind fun x10 =>
(extractA r9.1 1).bind fun x11 =>
(callA cfg O 32 [a0, a1, a2] [] r9.2).bind fun r12 =>
(callA cfg O 32 [a0, a1, I 1] [] r12.2).bind fun r13 =>
(bin .eql .int r12.1 (I 0)).bind fun x14 =>
cond x14 (
L7_18 [a0, a1, a2, x2, x3, x4, x6, x7, x8, x10, x11, r12.1, r13.1, I (-1), I (-1), I 0, I 0] [] r13.2) (
L7_31 [a0, a1, x2, x3, x4, x6, x7, x8, x10, x11, r12.1, r13.1, I (-1), I (-1), I 0] [] r13.2)) := by
  rw [O_ent]
  kernel_rfl
-- backstitch/walk.Next
noncomputable def T29_12 : List It := labAt Try.prog cfg 29 12 (fun _ => none)
noncomputable def L29_12 (vals : List AV) (lo : List Nat) (H : Heap) : Res := O.lab 29 [0, 1, 2, 10] (T29_12) vals lo H
theorem L29_12_eq (lo : List Nat) (v0 v1 v2 v10 : AV) (H : Heap) : L29_12 [v0, v1, v2, v10] lo H = (
(lenA .slice v0 H).bind fun x1 =>
(bin .lss .int v10 x1).bind fun x2 =>
cond x2 (
(idxA 3 v0 v1).bind fun x3 =>
(ld true 3 x3 H).bind fun x4 =>
(idxA 3 v0 v10).bind fun x5 =>
(ld true 3 x5 H).bind fun x6 =>
(callA cfg O 85 [x4, x6, v2] lo H).bind fun r7 =>
cond r7.1 (
leave 0 lo [v10, B true, I 0] r7.2) (
(bin .add .int v10 (I 1)).bind fun x8 =>
L29_12 [v0, v1, v2, x8] lo r7.2)) (
leave 0 lo [I 0, B false, I 0] H)) := by
  show O.lab _ _ _ _ _ _ = _
  rw [O_lab]
  kernel_rfl
theorem f29_eq (a0 a1 a2 : AV) : O.ent 29 [a0, a1, a2] [] [] = (
(callA cfg O 84 [a0, a1, a2] [] []).bind fun r1 =>
(bin .neq .int r1.1 (I 0)).bind fun x2 =>
cond x2 (
leave 0 [] [I 0, B false, r1.1] r1.2) (
(bin .add .int a1 (I 1)).bind fun x3 =>
L29_12 [a0, a1, a2, x3] [] r1.2)) := by
  rw [O_ent]
  kernel_rfl
-- backstitch/walk.Last
noncomputable def T30_12 : List It := labAt Try.prog cfg 30 12 (fun _ => none)
noncomputable def L30_12 (vals : List AV) (lo : List Nat) (H : Heap) : Res := O.lab 30 [0, 1, 2, 10] (T30_12) vals lo H
theorem L30_12_eq (lo : List Nat) (v0 v1 v2 v10 : AV) (H : Heap) : L30_12 [v0, v1, v2, v10] lo H = (
(bin .geq .int v10 (I 0)).bind fun x1 =>
cond x1 (
(idxA 3 v0 v10).bind fun x2 =>
(ld true 3 x2 H).bind fun x3 =>
(idxA 3 v0 v1).bind fun x4 =>
(ld true 3 x4 H).bind fun x5 =>
(callA cfg O 85 [x3, x5, v2] lo H).bind fun r6 =>
cond r6.1 (
leave 0 lo [v10, B true, I 0] r6.2) (
(bin .sub .int v10 (I 1)).bind fun x7 =>
L30_12 [v0, v1, v2, x7] lo r6.2)) (
leave 0 lo [I 0, B false, I 0] H)) := by
  show O.lab _ _ _ _ _ _ = _
  rw [O_lab]
  kernel_rfl
theorem f30_eq (a0 a1 a2 : AV) : O.ent 30 [a0, a1, a2] [] [] = (
(callA cfg O 84 [a0, a1, a2] [] []).bind fun r1 =>
(bin .neq .int r1.1 (I 0)).bind fun x2 =>
cond x2 (
leave 0 [] [I 0, B false, r1.1] r1.2) (
(bin .sub .int a1 (I 1)).bind fun x3 =>
L30_12 [a0, a1, a2, x3] [] r1.2)) := by
  rw [O_ent]
  kernel_rfl
-- backstitch/walk.Top
noncomputable def T31_14 : List It := labAt Try.prog cfg 31 14 (fun _ => none)
noncomputable def L31_14 (vals : List AV) (lo : List Nat) (H : Heap) : Res := O.lab 31 [0, 1, 7, 8] (T31_14) vals lo H
noncomputable def T31_17 : List It := labAt Try.prog cfg 31 17 (fun _ => none)
noncomputable def L31_17 (vals : List AV) (lo : List Nat) (H : Heap) : Res := O.lab 31 [0, 1, 7, 8] (T31_17) vals lo H
theorem L31_14_eq (lo : List Nat) (v0 v1 v7 v8 : AV) (H : Heap) : L31_14 [v0, v1, v7, v8] lo H = (
(bin .geq .int v8 (I 0)).bind fun x1 =>
cond x1 (
(idxA 3 v0 v8).bind fun x2 =>
(fldA 0 x2).bind fun x3 =>
(ld false 1 x3 H).bind fun x4 =>
(idxA 3 v0 v1).bind fun x5 =>
(fldA 0 x5).bind fun x6 =>
(ld false 1 x6 H).bind fun x7 =>
(bin .neq .int x4 x7).bind fun x8 =>
cond x8 (
L31_17 [v0, v1, v7, v8] lo H) (
(idxA 3 v0 v8).bind fun x9 =>
(fldA 1 x9).bind fun x10 =>
(ld false 1 x10 H).bind fun x11 =>
(idxA 3 v0 v1).bind fun x12 =>
(fldA 1 x12).bind fun x13 =>
(ld false 1 x13 H).bind fun x14 =>
(bin .lss .int x11 x14).bind fun x15 =>
cond x15 (
leave 0 lo [v7, I 0] H) (
L31_17 [v0, v1, v8, v8] lo H))) (
leave 0 lo [v7, I 0] H)) := by
  show O.lab _ _ _ _ _ _ = _
  rw [O_lab]
  kernel_rfl
theorem L31_17_eq (lo : List Nat) (v0 v1 v7 v8 : AV) (H : Heap) : L31_17 [v0, v1, v7, v8] lo H = (
(bin .sub .int v8 (I 1)).bind fun x1 =>
L31_14 [v0, v1, v7, x1] lo H) := by
  show O.lab _ _ _ _ _ _ = _
  rw [O_lab]
  kernel_rfl
theorem f31_eq (a0 a1 : AV) : O.ent 31 [a0, a1] [] [] = (
(callA cfg O 84 [a0, a1, I 1] [] []).bind fun r1 =>
(bin .neq .int r1.1 (I 0)).bind fun x2 =>
cond x2 (
leave 0 [] [I 0, r1.1] r1.2) (
(bin .sub .int a1 (I 1)).bind fun x3 =>
L31_14 [a0, a1, a1, x3] [] r1.2)) := by
  rw [O_ent]
  kernel_rfl
-- backstitch/backstitchref4.WalkErr
theorem f32_eq (a0 a1 a2 : AV) : O.ent 32 [a0, a1, a2] [] [] = (
(lenA .slice a0 []).bind fun x1 =>
(bin .gtr .int x1 (I 200)).bind fun x2 =>
cond x2 (
leave 0 [] [I 2] []) (
(lenA .slice a0 []).bind fun x3 =>
(bin .sub .int x3 (I 1)).bind fun x4 =>
(callA cfg O 61 [a1, I 0, x4] [] []).bind fun r5 =>
(un .not r5.1).bind fun x6 =>
(gd x6 false (some a2)).bind fun x7 =>
(gdH x6 false (callA cfg O 61 [x7, I 1, I 4] [] r5.2) r5.2).bind fun r8 =>
(gd x6 false (un .not r8.1)).bind fun x9 =>
(pickA x6 (B true) x9).bind fun x10 =>
cond x10 (
leave 0 [] [I 1] r8.2) (
leave 0 [] [I 0] r8.2))) := by
  rw [O_ent]
  kernel_rfl
-- backstitch/backstitchref4.Reached
theorem f33_eq (a0 a1 a2 : AV) : O.ent 33 [a0, a1, a2] [] [] = (
(boxO [] (AV.cells a0) []).bind fun r1 =>
(boxO [] (AV.cells a1) r1.2).bind fun r2 =>
(bin .eql .int a2 (I 1)).bind fun x3 =>
cond x3 (
leave 0 [] [B true] r2.2) (
(fldA 0 r1.1).bind fun x4 =>
(ld false 1 x4 r2.2).bind fun x5 =>
(fldA 0 r2.1).bind fun x6 =>
(ld false 1 x6 r2.2).bind fun x7 =>
(bin .eql .int x5 x7).bind fun x8 =>
(gd x8 true (fldA 1 r2.1)).bind fun x9 =>
(gd x8 true (ld false 1 x9 r2.2)).bind fun x10 =>
(gd x8 true (fldA 1 r1.1)).bind fun x11 =>
(gd x8 true (ld false 1 x11 r2.2)).bind fun x12 =>
(gd x8 true (bin .lss .int x10 x12)).bind fun x13 =>
(pickA x8 x13 (B false)).bind fun x14 =>
(fldA 0 r1.1).bind fun x15 =>
(ld false 1 x15 r2.2).bind fun x16 =>
(fldA 0 r2.1).bind fun x17 =>
(ld false 1 x17 r2.2).bind fun x18 =>
(bin .eql .int x16 x18).bind fun x19 =>
(gd x19 true (fldA 1 r2.1)).bind fun x20 =>
(gd x19 true (ld false 1 x20 r2.2)).bind fun x21 =>
(gd x19 true (fldA 1 r1.1)).bind fun x22 =>
(gd x19 true (ld false 1 x22 r2.2)).bind fun x23 =>
(gd x19 true (bin .eql .int x21 x23)).bind fun x24 =>
(pickA x19 x24 (B false)).bind fun x25 =>
(gd x14 false (some a2)).bind fun x26 =>
(gd x14 false (bin .eql .int x26 (I 2))).bind fun x27 =>
(gd x14 false (some x27)).bind fun x28 =>
(gd x28 true (some x25)).bind fun x29 =>
(gd x14 false (pickA x28 x29 (B false))).bind fun x30 =>
(pickA x14 (B true) x30).bind fun x31 =>
(gd x31 false (some a2)).bind fun x32 =>
(gd x31 false (bin .eql .int x32 (I 4))).bind fun x33 =>
(gd x31 false (some x33)).bind fun x34 =>
(gd x34 true (some x25)).bind fun x35 =>
(gd x31 false (pickA x34 x35 (B false))).bind fun x36 =>
(gd x31 false (some x36)).bind fun x37 =>
(gd x37 true (fldA 2 r1.1)).bind fun x38 =>
(gd x37 true (ld false 1 x38 r2.2)).bind fun x39 =>
(gd x37 true (fldA 2 r2.1)).bind fun x40 =>
(gd x37 true (ld false 1 x40 r2.2)).bind fun x41 =>
(gd x37 true (bin .neq .int x39 x41)).bind fun x42 =>
(gd x31 false (pickA x37 x42 (B false))).bind fun x43 =>
(pickA x31 (B true) x43).bind fun x44 =>
leave 0 [] [x44] r2.2)) := by
  rw [O_ent]
  kernel_rfl
-- backstitch/backstitchref4.WalkTop
noncomputable def T34_6 : List It := labAt Try.prog cfg 34 6 (fun _ => none)
noncomputable def L34_6 (vals : List AV) (lo : List Nat) (H : Heap) : Res := O.lab 34 [0, 1, 5] (T34_6) vals lo H
noncomputable def T34_14 : List It := labAt Try.prog cfg 34 14 (fun _ => none)
noncomputable def L34_14 (vals : List AV) (lo : List Nat) (H : Heap) : Res := O.lab 34 [0, 1, 5, 6, 7] (T34_14) vals lo H
noncomputable def T34_17 : List It := labAt Try.prog cfg 34 17 (fun _ => none)
noncomputable def L34_17 (vals : List AV) (lo : List Nat) (H : Heap) : Res := O.lab 34 [0, 1, 5, 6, 7] (T34_17) vals lo H
theorem L34_6_eq (lo : List Nat) (v0 v1 v5 : AV) (H : Heap) : L34_6 [v0, v1, v5] lo H = (
(bin .leq .int v5 v1).bind fun x1 =>
cond x1 (
(idxA 3 v0 v5).bind fun x2 =>
(fldA 0 x2).bind fun x3 =>
(ld false 1 x3 H).bind fun x4 =>
(idxA 3 v0 v1).bind fun x5 =>
(fldA 0 x5).bind fun x6 =>
(ld false 1 x6 H).bind fun x7 =>
(bin .eql .int x4 x7).bind fun x8 =>
L34_14 [v0, v1, v5, x8, v5] lo H) (
leave 0 lo [v1] H)) := by
  show O.lab _ _ _ _ _ _ = _
  rw [O_lab]
  kernel_rfl
theorem L34_14_eq (lo : List Nat) (v0 v1 v5 v6 v7 : AV) (H : Heap) : L34_14 [v0, v1, v5, v6, v7] lo H = (
(bin .leq .int v7 v1).bind fun x1 =>
cond x1 (
(idxA 3 v0 v7).bind fun x2 =>
(fldA 0 x2).bind fun x3 =>
(ld false 1 x3 H).bind fun x4 =>
(idxA 3 v0 v1).bind fun x5 =>
(fldA 0 x5).bind fun x6 =>
(ld false 1 x6 H).bind fun x7 =>
(bin .eql .int x4 x7).bind fun x8 =>
(gd x8 true (some v0)).bind fun x9 =>
(gd x8 true (some v7)).bind fun x10 =>
(gd x8 true (idxA 3 x9 x10)).bind fun x11 =>
(gd x8 true (fldA 1 x11)).bind fun x12 =>
(gd x8 true (ld false 1 x12 H)).bind fun x13 =>
(gd x8 true (some v0)).bind fun x14 =>
(gd x8 true (some v1)).bind fun x15 =>
(gd x8 true (idxA 3 x14 x15)).bind fun x16 =>
(gd x8 true (fldA 1 x16)).bind fun x17 =>
(gd x8 true (ld false 1 x17 H)).bind fun x18 =>
(gd x8 true (bin .lss .int x13 x18)).bind fun x19 =>
(pickA x8 x19 (B false)).bind fun x20 =>
cond x20 (
L34_17 [v0, v1, v5, B false, v7] lo H) (
L34_17 [v0, v1, v5, v6, v7] lo H)) (
cond v6 (
leave 0 lo [v5] H) (
(bin .add .int v5 (I 1)).bind fun x21 =>
L34_6 [v0, v1, x21] lo H))) := by
  show O.lab _ _ _ _ _ _ = _
  rw [O_lab]
  kernel_rfl
theorem L34_17_eq (lo : List Nat) (v0 v1 v5 v6 v7 : AV) (H : Heap) : L34_17 [v0, v1, v5, v6, v7] lo H = (
(bin .add .int v7 (I 1)).bind fun x1 =>
L34_14 [v0, v1, v5, v6, x1] lo H) := by
  show O.lab _ _ _ _ _ _ = _
  rw [O_lab]
  kernel_rfl
theorem f34_eq (a0 a1 : AV) : O.ent 34 [a0, a1] [] [] = (
L34_6 [a0, a1, I 0] [] []) := by
  rw [O_ent]
  kernel_rfl
-- backstitch/walk.check
theorem f84_eq (a0 a1 a2 : AV) : O.ent 84 [a0, a1, a2] [] [] = (
(lenA .slice a0 []).bind fun x1 =>
(bin .gtr .int x1 (I 200)).bind fun x2 =>
cond x2 (
leave 0 [] [I 2] []) (
(bin .lss .int a1 (I 0)).bind fun x3 =>
(gd x3 false (some a1)).bind fun x4 =>
(gd x3 false (some a0)).bind fun x5 =>
(gd x3 false (lenA .slice x5 [])).bind fun x6 =>
(gd x3 false (bin .geq .int x4 x6)).bind fun x7 =>
(pickA x3 (B true) x7).bind fun x8 =>
(gd x8 false (some a2)).bind fun x9 =>
(gd x8 false (bin .lss .int x9 (I 1))).bind fun x10 =>
(pickA x8 (B true) x10).bind fun x11 =>
(gd x11 false (some a2)).bind fun x12 =>
(gd x11 false (bin .gtr .int x12 (I 4))).bind fun x13 =>
(pickA x11 (B true) x13).bind fun x14 =>
cond x14 (
leave 0 [] [I 1] []) (
leave 0 [] [I 0] []))) := by
  rw [O_ent]
  kernel_rfl
-- backstitch/walk.reached
theorem f85_eq (a0 a1 a2 : AV) : O.ent 85 [a0, a1, a2] [] [] = (
(boxO [] (AV.cells a0) []).bind fun r1 =>
(boxO [] (AV.cells a1) r1.2).bind fun r2 =>
(bin .eql .int a2 (I 1)).bind fun x3 =>
cond x3 (
leave 0 [] [B true] r2.2) (
(fldA 0 r1.1).bind fun x4 =>
(ld false 1 x4 r2.2).bind fun x5 =>
(fldA 0 r2.1).bind fun x6 =>
(ld false 1 x6 r2.2).bind fun x7 =>
(bin .neq .int x5 x7).bind fun x8 =>
cond x8 (
leave 0 [] [B false] r2.2) (
(bin .eql .int a2 (I 2)).bind fun x9 =>
cond x9 (
(fldA 1 r2.1).bind fun x10 =>
(ld false 1 x10 r2.2).bind fun x11 =>
(fldA 1 r1.1).bind fun x12 =>
(ld false 1 x12 r2.2).bind fun x13 =>
(bin .leq .int x11 x13).bind fun x14 =>
leave 0 [] [x14] r2.2) (
(bin .eql .int a2 (I 3)).bind fun x15 =>
cond x15 (
(fldA 1 r2.1).bind fun x16 =>
(ld false 1 x16 r2.2).bind fun x17 =>
(fldA 1 r1.1).bind fun x18 =>
(ld false 1 x18 r2.2).bind fun x19 =>
(bin .lss .int x17 x19).bind fun x20 =>
leave 0 [] [x20] r2.2) (
(fldA 1 r2.1).bind fun x21 =>
(ld false 1 x21 r2.2).bind fun x22 =>
(fldA 1 r1.1).bind fun x23 =>
(ld false 1 x23 r2.2).bind fun x24 =>
(bin .lss .int x22 x24).bind fun x25 =>
(gd x25 false (fldA 1 r2.1)).bind fun x26 =>
(gd x25 false (ld false 1 x26 r2.2)).bind fun x27 =>
(gd x25 false (fldA 1 r1.1)).bind fun x28 =>
(gd x25 false (ld false 1 x28 r2.2)).bind fun x29 =>
(gd x25 false (bin .eql .int x27 x29)).bind fun x30 =>
(gd x25 false (some x30)).bind fun x31 =>
(gd x31 true (fldA 2 r2.1)).bind fun x32 =>
(gd x31 true (ld false 1 x32 r2.2)).bind fun x33 =>
(gd x31 true (fldA 2 r1.1)).bind fun x34 =>
(gd x31 true (ld false 1 x34 r2.2)).bind fun x35 =>
(gd x31 true (bin .neq .int x33 x35)).bind fun x36 =>
(gd x25 false (pickA x31 x36 (B false))).bind fun x37 =>
(pickA x25 (B true) x37).bind fun x38 =>
leave 0 [] [x38] r2.2))))) := by
  rw [O_ent]
  kernel_rfl
end Go.Proofs.Ytangmjeafnkfaaa
