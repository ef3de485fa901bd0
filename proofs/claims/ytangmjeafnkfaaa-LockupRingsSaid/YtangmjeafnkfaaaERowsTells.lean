import Derived.Test.YtangmjeafnkfaaaCf
set_option linter.unusedVariables false
set_option maxRecDepth 100000
namespace Go.Proofs.Ytangmjeafnkfaaa
open Go Go.AM
-- backstitch/backstitchlaw4.RowsTells
noncomputable def T5_25 : List It := labAt Try.prog cfg 5 25 (fun _ => none)
noncomputable def L5_25 (vals : List AV) (lo : List Nat) (H : Heap) : Res := O.lab 5 [0, 1, 2, 3, 4, 11, 12, 13, 14, 15, 16, 17, 18, 19, 20, 21, 22, 23] (T5_25) vals lo H
noncomputable def T5_26 : List It := labAt Try.prog cfg 5 26 (fun _ => none)
noncomputable def L5_26 (vals : List AV) (lo : List Nat) (H : Heap) : Res := O.lab 5 [0, 1, 2, 3, 4, 11, 12, 13, 14, 15, 16, 17, 18, 19, 20, 21, 22, 23, 24] (T5_26) vals lo H
noncomputable def T5_29 : List It := labAt Try.prog cfg 5 29 (fun _ => none)
noncomputable def L5_29 (vals : List AV) (lo : List Nat) (H : Heap) : Res := O.lab 5 [0, 1, 2, 3, 4, 11, 12, 13, 14, 15, 16, 17, 18, 19, 20, 21, 22, 23, 24] (T5_29) vals lo H
noncomputable def T5_35 : List It := labAt Try.prog cfg 5 35 (fun _ => none)
noncomputable def L5_35 (vals : List AV) (lo : List Nat) (H : Heap) : Res := O.lab 5 [0, 1, 2, 3, 4, 11, 12, 13, 14, 15, 16, 17, 18, 19, 20, 21, 22, 23, 24] (T5_35) vals lo H
noncomputable def T5_40 : List It := labAt Try.prog cfg 5 40 (fun _ => none)
noncomputable def L5_40 (vals : List AV) (lo : List Nat) (H : Heap) : Res := O.lab 5 [0, 4, 11, 12, 13, 14, 15, 16, 17, 18, 19, 20, 21, 22, 23, 25] (T5_40) vals lo H
noncomputable def T5_48 : List It := labAt Try.prog cfg 5 48 (fun _ => none)
noncomputable def L5_48 (vals : List AV) (lo : List Nat) (H : Heap) : Res := O.lab 5 [0, 4, 11, 12, 13, 14, 15, 16, 17, 18, 19, 20, 21, 22, 23, 25, 26, 27] (T5_48) vals lo H
noncomputable def T5_51 : List It := labAt Try.prog cfg 5 51 (fun _ => none)
noncomputable def L5_51 (vals : List AV) (lo : List Nat) (H : Heap) : Res := O.lab 5 [0, 4, 11, 12, 13, 14, 15, 16, 17, 18, 19, 20, 21, 22, 23, 25, 26, 27] (T5_51) vals lo H
noncomputable def T5_64 : List It := labAt Try.prog cfg 5 64 (fun _ => none)
noncomputable def L5_64 (vals : List AV) (lo : List Nat) (H : Heap) : Res := O.lab 5 [0, 11, 12, 13, 14, 15, 16, 17, 18, 19, 20, 21, 22, 23, 28] (T5_64) vals lo H
noncomputable def T5_72 : List It := labAt Try.prog cfg 5 72 (fun _ => none)
noncomputable def L5_72 (vals : List AV) (lo : List Nat) (H : Heap) : Res := O.lab 5 [0, 11, 12, 13, 14, 15, 16, 17, 18, 19, 20, 21, 22, 23, 28, 29, 30] (T5_72) vals lo H
noncomputable def T5_75 : List It := labAt Try.prog cfg 5 75 (fun _ => none)
noncomputable def L5_75 (vals : List AV) (lo : List Nat) (H : Heap) : Res := O.lab 5 [0, 11, 12, 13, 14, 15, 16, 17, 18, 19, 20, 21, 22, 23, 28, 29, 30] (T5_75) vals lo H
theorem L5_25_eq (lo : List Nat) (v0 v1 v2 v3 v4 v11 v12 v13 v14 v15 v16 v17 v18 v19 v20 v21 v22 v23 : AV) (H : Heap) : L5_25 [v0, v1, v2, v3, v4, v11, v12, v13, v14, v15, v16, v17, v18, v19, v20, v21, v22, v23] lo H = (
L5_26 [v0, v1, v2, v3, v4, v11, v12, v13, v14, v15, v16, v17, v18, v19, v20, v21, v22, v23, I 0] lo H) := by
  show O.lab _ _ _ _ _ _ = _
  rw [O_lab]
  kernel_rfl
theorem L5_26_eq (lo : List Nat) (v0 v1 v2 v3 v4 v11 v12 v13 v14 v15 v16 v17 v18 v19 v20 v21 v22 v23 v24 : AV) (H : Heap) : L5_26 [v0, v1, v2, v3, v4, v11, v12, v13, v14, v15, v16, v17, v18, v19, v20, v21, v22, v23, v24] lo H = (
(lenA .slice v0 H).bind fun x1 =>
(bin .lss .int v24 x1).bind fun x2 =>
(gd x2 true (some v19)).bind fun x3 =>
(gd x2 true (bin .eql .int x3 (I 0))).bind fun x4 =>
(pickA x2 x4 (B false)).bind fun x5 =>
cond x5 (
(idxA 12 v0 v24).bind fun x6 =>
(fldA 0 x6).bind fun x7 =>
(ld false 1 x7 H).bind fun x8 =>
(bin .eql .int x8 v1).bind fun x9 =>
cond x9 (
(litA false 1 [v24] H).bind fun r10 =>
(appA 1 8 v21 r10.1 r10.2).bind fun r11 =>
L5_35 [v0, v1, v2, v3, v4, v11, v12, v13, v14, v15, v16, v17, v18, v19, v20, r11.1, v22, v23, v24] lo r11.2) (
L5_35 [v0, v1, v2, v3, v4, v11, v12, v13, v14, v15, v16, v17, v18, v19, v20, v21, v22, v23, v24] lo H)) (
L5_40 [v0, v4, v11, v12, v13, v14, v15, v16, v17, v18, v19, v20, v21, v22, v23, I 0] lo H)) := by
  show O.lab _ _ _ _ _ _ = _
  rw [O_lab]
  kernel_rfl
theorem L5_29_eq (lo : List Nat) (v0 v1 v2 v3 v4 v11 v12 v13 v14 v15 v16 v17 v18 v19 v20 v21 v22 v23 v24 : AV) (H : Heap) : L5_29 [v0, v1, v2, v3, v4, v11, v12, v13, v14, v15, v16, v17, v18, v19, v20, v21, v22, v23, v24] lo H = (
(bin .add .int v24 (I 1)).bind fun x1 =>
L5_26 [v0, v1, v2, v3, v4, v11, v12, v13, v14, v15, v16, v17, v18, v19, v20, v21, v22, v23, x1] lo H) := by
  show O.lab _ _ _ _ _ _ = _
  rw [O_lab]
  kernel_rfl
theorem L5_35_eq (lo : List Nat) (v0 v1 v2 v3 v4 v11 v12 v13 v14 v15 v16 v17 v18 v19 v20 v21 v22 v23 v24 : AV) (H : Heap) : L5_35 [v0, v1, v2, v3, v4, v11, v12, v13, v14, v15, v16, v17, v18, v19, v20, v21, v22, v23, v24] lo H = (
(idxA 12 v0 v24).bind fun x1 =>
(fldA 1 x1).bind fun x2 =>
(ld false 1 x2 H).bind fun x3 =>
(bin .geq .int x3 v2).bind fun x4 =>
(gd x4 true (some v0)).bind fun x5 =>
(gd x4 true (some v24)).bind fun x6 =>
(gd x4 true (idxA 12 x5 x6)).bind fun x7 =>
(gd x4 true (fldA 1 x7)).bind fun x8 =>
(gd x4 true (ld false 1 x8 H)).bind fun x9 =>
(gd x4 true (some v3)).bind fun x10 =>
(gd x4 true (bin .lss .int x9 x10)).bind fun x11 =>
(pickA x4 x11 (B false)).bind fun x12 =>
cond x12 (
(litA false 1 [v24] H).bind fun r13 =>
(appA 1 8 v22 r13.1 r13.2).bind fun r14 =>
L5_29 [v0, v1, v2, v3, v4, v11, v12, v13, v14, v15, v16, v17, v18, v19, v20, v21, r14.1, v23, v24] lo r14.2) (
L5_29 [v0, v1, v2, v3, v4, v11, v12, v13, v14, v15, v16, v17, v18, v19, v20, v21, v22, v23, v24] lo H)) := by
  show O.lab _ _ _ _ _ _ = _
  rw [O_lab]
  kernel_rfl
theorem L5_40_eq (lo : List Nat) (v0 v4 v11 v12 v13 v14 v15 v16 v17 v18 v19 v20 v21 v22 v23 v25 : AV) (H : Heap) : L5_40 [v0, v4, v11, v12, v13, v14, v15, v16, v17, v18, v19, v20, v21, v22, v23, v25] lo H = (
(bin .lss .int v25 v4).bind fun x1 =>
(gd x1 true (some v20)).bind fun x2 =>
(gd x1 true (bin .eql .int x2 (I 0))).bind fun x3 =>
(pickA x1 x3 (B false)).bind fun x4 =>
cond x4 (
L5_48 [v0, v4, v11, v12, v13, v14, v15, v16, v17, v18, v19, v20, v21, v22, v23, v25, .p nilS, I 0] lo H) (
(bin .neq .int v19 (I 0)).bind fun x5 =>
(gd x5 true (some v15)).bind fun x6 =>
(gd x5 true (lenA .slice x6 H)).bind fun x7 =>
(gd x5 true (bin .gtr .int x7 (I 0))).bind fun x8 =>
(pickA x5 x8 (B false)).bind fun x9 =>
(gd x9 false (some v19)).bind fun x10 =>
(gd x9 false (bin .eql .int x10 (I 0))).bind fun x11 =>
(gd x9 false (some x11)).bind fun x12 =>
(gd x12 true (some v15)).bind fun x13 =>
(gd x12 true (lenA .slice x13 H)).bind fun x14 =>
(gd x12 true (bin .neq .int x14 (I 18))).bind fun x15 =>
(gd x9 false (pickA x12 x15 (B false))).bind fun x16 =>
(pickA x9 (B true) x16).bind fun x17 =>
cond x17 (
leave 0 lo [B false] H) (
L5_64 [v0, v11, v12, v13, v14, v15, v16, v17, v18, v19, v20, v21, v22, v23, I 0] lo H))) := by
  show O.lab _ _ _ _ _ _ = _
  rw [O_lab]
  kernel_rfl
theorem L5_48_eq (lo : List Nat) (v0 v4 v11 v12 v13 v14 v15 v16 v17 v18 v19 v20 v21 v22 v23 v25 v26 v27 : AV) (H : Heap) : L5_48 [v0, v4, v11, v12, v13, v14, v15, v16, v17, v18, v19, v20, v21, v22, v23, v25, v26, v27] lo H = (
(lenA .slice v0 H).bind fun x1 =>
(bin .lss .int v27 x1).bind fun x2 =>
cond x2 (
(idxA 12 v0 v27).bind fun x3 =>
(fldA 2 x3).bind fun x4 =>
(ld false 1 x4 H).bind fun x5 =>
(bin .eql .int x5 v25).bind fun x6 =>
cond x6 (
(litA false 1 [v27] H).bind fun r7 =>
(appA 1 8 v26 r7.1 r7.2).bind fun r8 =>
L5_51 [v0, v4, v11, v12, v13, v14, v15, v16, v17, v18, v19, v20, v21, v22, v23, v25, r8.1, v27] lo r8.2) (
L5_51 [v0, v4, v11, v12, v13, v14, v15, v16, v17, v18, v19, v20, v21, v22, v23, v25, v26, v27] lo H)) (
(litA false 1 [v26] H).bind fun r9 =>
(appA 1 24 v23 r9.1 r9.2).bind fun r10 =>
(bin .add .int v25 (I 1)).bind fun x11 =>
L5_40 [v0, v4, v11, v12, v13, v14, v15, v16, v17, v18, v19, v20, v21, v22, r10.1, x11] lo r10.2)) := by
  show O.lab _ _ _ _ _ _ = _
  rw [O_lab]
  kernel_rfl
theorem L5_51_eq (lo : List Nat) (v0 v4 v11 v12 v13 v14 v15 v16 v17 v18 v19 v20 v21 v22 v23 v25 v26 v27 : AV) (H : Heap) : L5_51 [v0, v4, v11, v12, v13, v14, v15, v16, v17, v18, v19, v20, v21, v22, v23, v25, v26, v27] lo H = (
(bin .add .int v27 (I 1)).bind fun x1 =>
L5_48 [v0, v4, v11, v12, v13, v14, v15, v16, v17, v18, v19, v20, v21, v22, v23, v25, v26, x1] lo H) := by
  show O.lab _ _ _ _ _ _ = _
  rw [O_lab]
  kernel_rfl
theorem L5_64_eq (lo : List Nat) (v0 v11 v12 v13 v14 v15 v16 v17 v18 v19 v20 v21 v22 v23 v28 : AV) (H : Heap) : L5_64 [v0, v11, v12, v13, v14, v15, v16, v17, v18, v19, v20, v21, v22, v23, v28] lo H = (
(lenA .slice v15 H).bind fun x1 =>
(bin .lss .int v28 x1).bind fun x2 =>
cond x2 (
L5_72 [v0, v11, v12, v13, v14, v15, v16, v17, v18, v19, v20, v21, v22, v23, v28, I 0, I 0] lo H) (
(callA cfg O 17 [v11, v21] lo H).bind fun r3 =>
(gd r3.1 true (some v12)).bind fun x4 =>
(gd r3.1 true (some v19)).bind fun x5 =>
(gd r3.1 true (bin .eql .int x4 x5)).bind fun x6 =>
(pickA r3.1 x6 (B false)).bind fun x7 =>
(gd x7 true (some v13)).bind fun x8 =>
(gd x7 true (some v22)).bind fun x9 =>
(gdH x7 true (callA cfg O 17 [x8, x9] lo r3.2) r3.2).bind fun r10 =>
(pickA x7 r10.1 (B false)).bind fun x11 =>
(gd x11 true (some v14)).bind fun x12 =>
(gd x11 true (some v19)).bind fun x13 =>
(gd x11 true (bin .eql .int x12 x13)).bind fun x14 =>
(pickA x11 x14 (B false)).bind fun x15 =>
(gd x15 true (some v16)).bind fun x16 =>
(gd x15 true (some v19)).bind fun x17 =>
(gd x15 true (bin .eql .int x16 x17)).bind fun x18 =>
(pickA x15 x18 (B false)).bind fun x19 =>
(gd x19 true (some v17)).bind fun x20 =>
(gd x19 true (some v23)).bind fun x21 =>
(gdH x19 true (callA cfg O 25 [x20, x21] lo r10.2) r10.2).bind fun r22 =>
(pickA x19 r22.1 (B false)).bind fun x23 =>
(gd x23 true (some v18)).bind fun x24 =>
(gd x23 true (some v20)).bind fun x25 =>
(gd x23 true (bin .eql .int x24 x25)).bind fun x26 =>
(pickA x23 x26 (B false)).bind fun x27 =>
leave 0 lo [x27] r22.2)) := by
  show O.lab _ _ _ _ _ _ = _
  rw [O_lab]
  kernel_rfl
theorem L5_72_eq (lo : List Nat) (v0 v11 v12 v13 v14 v15 v16 v17 v18 v19 v20 v21 v22 v23 v28 v29 v30 : AV) (H : Heap) : L5_72 [v0, v11, v12, v13, v14, v15, v16, v17, v18, v19, v20, v21, v22, v23, v28, v29, v30] lo H = (
(lenA .slice v0 H).bind fun x1 =>
(bin .lss .int v30 x1).bind fun x2 =>
cond x2 (
(idxA 12 v0 v30).bind fun x3 =>
(fldA 0 x3).bind fun x4 =>
(ld false 1 x4 H).bind fun x5 =>
(bin .eql .int x5 v28).bind fun x6 =>
(gd x6 false (some v28)).bind fun x7 =>
(gd x6 false (bin .eql .int x7 (I 0))).bind fun x8 =>
(gd x6 false (some x8)).bind fun x9 =>
(gd x9 true (some v0)).bind fun x10 =>
(gd x9 true (some v30)).bind fun x11 =>
(gd x9 true (idxA 12 x10 x11)).bind fun x12 =>
(gd x9 true (fldA 0 x12)).bind fun x13 =>
(gd x9 true (ld false 1 x13 H)).bind fun x14 =>
(gd x9 true (bin .lss .int x14 (I 0))).bind fun x15 =>
(gd x9 true (some x15)).bind fun x16 =>
(gd x16 false (some v0)).bind fun x17 =>
(gd x16 false (some v30)).bind fun x18 =>
(gd x16 false (idxA 12 x17 x18)).bind fun x19 =>
(gd x16 false (fldA 0 x19)).bind fun x20 =>
(gd x16 false (ld false 1 x20 H)).bind fun x21 =>
(gd x16 false (bin .gtr .int x21 (I 17))).bind fun x22 =>
(gd x9 true (pickA x16 (B true) x22)).bind fun x23 =>
(gd x6 false (pickA x9 x23 (B false))).bind fun x24 =>
(pickA x6 (B true) x24).bind fun x25 =>
cond x25 (
(bin .add .int v29 (I 1)).bind fun x26 =>
L5_75 [v0, v11, v12, v13, v14, v15, v16, v17, v18, v19, v20, v21, v22, v23, v28, x26, v30] lo H) (
L5_75 [v0, v11, v12, v13, v14, v15, v16, v17, v18, v19, v20, v21, v22, v23, v28, v29, v30] lo H)) (
(idxA 1 v15 v28).bind fun x27 =>
(ld false 1 x27 H).bind fun x28 =>
(bin .neq .int x28 v29).bind fun x29 =>
cond x29 (
leave 0 lo [B false] H) (
(bin .add .int v28 (I 1)).bind fun x30 =>
L5_64 [v0, v11, v12, v13, v14, v15, v16, v17, v18, v19, v20, v21, v22, v23, x30] lo H))) := by
  show O.lab _ _ _ _ _ _ = _
  rw [O_lab]
  kernel_rfl
theorem L5_75_eq (lo : List Nat) (v0 v11 v12 v13 v14 v15 v16 v17 v18 v19 v20 v21 v22 v23 v28 v29 v30 : AV) (H : Heap) : L5_75 [v0, v11, v12, v13, v14, v15, v16, v17, v18, v19, v20, v21, v22, v23, v28, v29, v30] lo H = (
(bin .add .int v30 (I 1)).bind fun x1 =>
L5_72 [v0, v11, v12, v13, v14, v15, v16, v17, v18, v19, v20, v21, v22, v23, v28, v29, x1] lo H) := by
  show O.lab _ _ _ _ _ _ = _
  rw [O_lab]
  kernel_rfl
theorem f5_eq (a0 a1 a2 a3 a4 : AV) : O.ent 5 [a0, a1, a2, a3, a4] [] [] = (
(callA cfg O 20 [a0, a1] [] []).bind fun r1 =>
(extractA r1.1 0).bind fun x2 =>
(extractA r1.1 1).bind fun x3 =>
(callA cfg O 21 [a0, a2, a3] [] r1.2).bind fun r4 =>
(extractA r4.1 0).bind fun x5 =>
(extractA r4.1 1).bind fun x6 =>
(callA cfg O 22 [a0] [] r4.2).bind fun r7 =>
(extractA r7.1 0).bind fun x8 =>
(extractA r7.1 1).bind fun x9 =>
(callA cfg O 23 [a0, a4] [] r7.2).bind fun r10 =>
(extractA r10.1 0).bind fun x11 =>
(extractA r10.1 1).bind fun x12 =>
(callA cfg O 24 [a0, I 0] [] r10.2).bind fun r13 =>
(bin .eql .int r13.1 (I 0)).bind fun x14 =>
(gd x14 true (some a4)).bind fun x15 =>
(gd x14 true (bin .lss .int x15 (I 0))).bind fun x16 =>
(gd x14 true (some x16)).bind fun x17 =>
(gd x17 false (some a4)).bind fun x18 =>
(gd x17 false (bin .gtr .int x18 (I 8))).bind fun x19 =>
(gd x14 true (pickA x17 (B true) x19)).bind fun x20 =>
(pickA x14 x20 (B false)).bind fun x21 =>
cond x21 (
L5_25 [a0, a1, a2, a3, a4, x2, x3, x5, x6, x8, x9, x11, x12, r13.1, I 1, .p nilS, .p nilS, .p nilS] [] r13.2) (
L5_25 [a0, a1, a2, a3, a4, x2, x3, x5, x6, x8, x9, x11, x12, r13.1, r13.1, .p nilS, .p nilS, .p nilS] [] r13.2)) := by
  rw [O_ent]
  kernel_rfl
-- backstitch/backstitchref4.SameInts
noncomputable def T17_10 : List It := labAt Try.prog cfg 17 10 (fun _ => none)
noncomputable def L17_10 (vals : List AV) (lo : List Nat) (H : Heap) : Res := O.lab 17 [0, 1, 5] (T17_10) vals lo H
theorem L17_10_eq (lo : List Nat) (v0 v1 v5 : AV) (H : Heap) : L17_10 [v0, v1, v5] lo H = (
(lenA .slice v0 H).bind fun x1 =>
(bin .lss .int v5 x1).bind fun x2 =>
cond x2 (
(idxA 1 v0 v5).bind fun x3 =>
(ld false 1 x3 H).bind fun x4 =>
(idxA 1 v1 v5).bind fun x5 =>
(ld false 1 x5 H).bind fun x6 =>
(bin .neq .int x4 x6).bind fun x7 =>
cond x7 (
leave 0 lo [B false] H) (
(bin .add .int v5 (I 1)).bind fun x8 =>
L17_10 [v0, v1, x8] lo H)) (
leave 0 lo [B true] H)) := by
  show O.lab _ _ _ _ _ _ = _
  rw [O_lab]
  kernel_rfl
theorem f17_eq (a0 a1 : AV) : O.ent 17 [a0, a1] [] [] = (
(lenA .slice a0 []).bind fun x1 =>
(lenA .slice a1 []).bind fun x2 =>
(bin .neq .int x1 x2).bind fun x3 =>
cond x3 (
leave 0 [] [B false] []) (
L17_10 [a0, a1, I 0] [] [])) := by
  rw [O_ent]
  kernel_rfl
-- backstitch/rows.Of
theorem f20_eq (a0 a1 : AV) : O.ent 20 [a0, a1] [] [] = (
(boxO [] (AV.cells a1) []).bind fun r1 =>
(callA cfg O 77 [a0, .fn 78 [] [r1.1]] [] r1.2).bind fun r2 =>
(extractA r2.1 0).bind fun x3 =>
(extractA r2.1 1).bind fun x4 =>
leave 0 [] [x3, x4] r2.2) := by
  rw [O_ent]
  kernel_rfl
-- backstitch/rows.Between
theorem f21_eq (a0 a1 a2 : AV) : O.ent 21 [a0, a1, a2] [] [] = (
(boxO [] (AV.cells a1) []).bind fun r1 =>
(boxO [] (AV.cells a2) r1.2).bind fun r2 =>
(callA cfg O 77 [a0, .fn 79 [] [r1.1, r2.1]] [] r2.2).bind fun r3 =>
(extractA r3.1 0).bind fun x4 =>
(extractA r3.1 1).bind fun x5 =>
leave 0 [] [x4, x5] r3.2) := by
  rw [O_ent]
  kernel_rfl
-- backstitch/rows.Count
noncomputable def T22_12 : List It := labAt Try.prog cfg 22 12 (fun _ => none)
noncomputable def L22_12 (vals : List AV) (lo : List Nat) (H : Heap) : Res := O.lab 22 [4, 12, 13, 14] (T22_12) vals lo H
noncomputable def T22_23 : List It := labAt Try.prog cfg 22 23 (fun _ => none)
noncomputable def L22_23 (vals : List AV) (lo : List Nat) (H : Heap) : Res := O.lab 22 [4, 7, 12, 13, 14] (T22_23) vals lo H
theorem L22_12_eq (lo : List Nat) (v4 v12 v13 v14 : AV) (H : Heap) : L22_12 [v4, v12, v13, v14] lo H = (
(bin .lss .int v14 v13).bind fun x1 =>
cond x1 (
(idxA 12 v12 v14).bind fun x2 =>
(ld true 12 x2 H).bind fun x3 =>
(boxO [] [(I 0), (I 0), (I 0), (I 0), (I 0), (I 0), (I 0), (I 0), (I 0), (I 0), (I 0), (I 0)] H).bind fun r4 =>
((stA 12 r4.1 x3 lo r4.2).map fun H' => (undefA, H')).bind fun r5 =>
(fldA 0 r4.1).bind fun x6 =>
(ld false 1 x6 r5.2).bind fun x7 =>
(bin .lss .int x7 (I 0)).bind fun x8 =>
(gd x8 false (some x7)).bind fun x9 =>
(gd x8 false (bin .gtr .int x9 (I 17))).bind fun x10 =>
(pickA x8 (B true) x10).bind fun x11 =>
cond x11 (
L22_23 [v4, I 0, v12, v13, v14] lo r5.2) (
L22_23 [v4, x7, v12, v13, v14] lo r5.2)) (
leave 0 lo [v4, I 0] H)) := by
  show O.lab _ _ _ _ _ _ = _
  rw [O_lab]
  kernel_rfl
theorem L22_23_eq (lo : List Nat) (v4 v7 v12 v13 v14 : AV) (H : Heap) : L22_23 [v4, v7, v12, v13, v14] lo H = (
(idxA 1 v4 v7).bind fun x1 =>
(ld false 1 x1 H).bind fun x2 =>
(bin .add .int x2 (I 1)).bind fun x3 =>
(idxA 1 v4 v7).bind fun x4 =>
((stA 1 x4 x3 lo H).map fun H' => (undefA, H')).bind fun r5 =>
(bin .add .int v14 (I 1)).bind fun x6 =>
L22_12 [v4, v12, v13, x6] lo r5.2) := by
  show O.lab _ _ _ _ _ _ = _
  rw [O_lab]
  kernel_rfl
theorem f22_eq (a0 : AV) : O.ent 22 [a0] [] [] = (
(lenA .slice a0 []).bind fun x1 =>
(bin .gtr .int x1 (I 200)).bind fun x2 =>
cond x2 (
leave 0 [] [.p nilS, I 2] []) (
(mkRow 1 8 [(.v (.int .i64 0))] (I 18) (I 18) []).bind fun r3 =>
(lenA .slice a0 r3.2).bind fun x4 =>
L22_12 [r3.1, a0, x4, I 0] [] r3.2)) := by
  rw [O_ent]
  kernel_rfl
-- backstitch/rows.Threads
noncomputable def T23_16 : List It := labAt Try.prog cfg 23 16 (fun _ => none)
noncomputable def L23_16 (vals : List AV) (lo : List Nat) (H : Heap) : Res := O.lab 23 [1, 6, 22, 23, 24] (T23_16) vals lo H
noncomputable def T23_25 : List It := labAt Try.prog cfg 23 25 (fun _ => none)
noncomputable def L23_25 (vals : List AV) (lo : List Nat) (H : Heap) : Res := O.lab 23 [1, 6, 22, 23, 24] (T23_25) vals lo H
theorem L23_16_eq (lo : List Nat) (v1 v6 v22 v23 v24 : AV) (H : Heap) : L23_16 [v1, v6, v22, v23, v24] lo H = (
(bin .lss .int v24 v23).bind fun x1 =>
cond x1 (
(idxA 12 v22 v24).bind fun x2 =>
(ld true 12 x2 H).bind fun x3 =>
(boxO [] [(I 0), (I 0), (I 0), (I 0), (I 0), (I 0), (I 0), (I 0), (I 0), (I 0), (I 0), (I 0)] H).bind fun r4 =>
((stA 12 r4.1 x3 lo r4.2).map fun H' => (undefA, H')).bind fun r5 =>
(fldA 2 r4.1).bind fun x6 =>
(ld false 1 x6 r5.2).bind fun x7 =>
(bin .geq .int x7 (I 0)).bind fun x8 =>
(gd x8 true (fldA 2 r4.1)).bind fun x9 =>
(gd x8 true (ld false 1 x9 r5.2)).bind fun x10 =>
(gd x8 true (some v1)).bind fun x11 =>
(gd x8 true (bin .lss .int x10 x11)).bind fun x12 =>
(pickA x8 x12 (B false)).bind fun x13 =>
cond x13 (
(fldA 2 r4.1).bind fun x14 =>
(ldS false 1 x14 r5.2).bind fun x15 =>
(fldA 2 r4.1).bind fun x16 =>
(ldS false 1 x16 r5.2).bind fun x17 =>
(idxA 1 v6 x17).bind fun x18 =>
(ldS false 1 x18 r5.2).bind fun x19 =>
(litA false 1 [v24] r5.2).bind fun r20 =>
(appA 1 8 x19 r20.1 r20.2).bind fun r21 =>
(idxA 1 v6 x15).bind fun x22 =>
((stA 1 x22 r21.1 lo r21.2).map fun H' => (undefA, H')).bind fun r23 =>
L23_25 [v1, v6, v22, v23, v24] lo r23.2) (
L23_25 [v1, v6, v22, v23, v24] lo r5.2)) (
leave 0 lo [v6, I 0] H)) := by
  show O.lab _ _ _ _ _ _ = _
  rw [O_lab]
  kernel_rfl
theorem L23_25_eq (lo : List Nat) (v1 v6 v22 v23 v24 : AV) (H : Heap) : L23_25 [v1, v6, v22, v23, v24] lo H = (
(bin .add .int v24 (I 1)).bind fun x1 =>
L23_16 [v1, v6, v22, v23, x1] lo H) := by
  show O.lab _ _ _ _ _ _ = _
  rw [O_lab]
  kernel_rfl
theorem f23_eq (a0 a1 : AV) : O.ent 23 [a0, a1] [] [] = (
(lenA .slice a0 []).bind fun x1 =>
(bin .gtr .int x1 (I 200)).bind fun x2 =>
cond x2 (
leave 0 [] [.p nilS, I 2] []) (
(bin .lss .int a1 (I 0)).bind fun x3 =>
(gd x3 false (some a1)).bind fun x4 =>
(gd x3 false (bin .gtr .int x4 (I 8))).bind fun x5 =>
(pickA x3 (B true) x5).bind fun x6 =>
cond x6 (
leave 0 [] [.p nilS, I 1] []) (
(mkBsl 1 24 [nilS] a1 a1 []).bind fun r7 =>
(lenA .slice a0 r7.2).bind fun x8 =>
L23_16 [a1, r7.1, a0, x8, I 0] [] r7.2))) := by
  rw [O_ent]
  kernel_rfl
-- backstitch/backstitchref4.EventErr
theorem f24_eq (a0 a1 : AV) : O.ent 24 [a0, a1] [] [] = (
(lenA .slice a0 []).bind fun x1 =>
(bin .gtr .int x1 (I 200)).bind fun x2 =>
cond x2 (
leave 0 [] [I 2] []) (
(lenA .slice a0 []).bind fun x3 =>
(callA cfg O 61 [a1, I 0, x3] [] []).bind fun r4 =>
(un .not r4.1).bind fun x5 =>
cond x5 (
leave 0 [] [I 1] r4.2) (
leave 0 [] [I 0] r4.2))) := by
  rw [O_ent]
  kernel_rfl
-- backstitch/backstitchref4.SameRows
noncomputable def T25_10 : List It := labAt Try.prog cfg 25 10 (fun _ => none)
noncomputable def L25_10 (vals : List AV) (lo : List Nat) (H : Heap) : Res := O.lab 25 [0, 1, 5] (T25_10) vals lo H
theorem L25_10_eq (lo : List Nat) (v0 v1 v5 : AV) (H : Heap) : L25_10 [v0, v1, v5] lo H = (
(lenA .slice v0 H).bind fun x1 =>
(bin .lss .int v5 x1).bind fun x2 =>
cond x2 (
(idxA 1 v0 v5).bind fun x3 =>
(ld false 1 x3 H).bind fun x4 =>
(idxA 1 v1 v5).bind fun x5 =>
(ld false 1 x5 H).bind fun x6 =>
(callA cfg O 17 [x4, x6] lo H).bind fun r7 =>
(un .not r7.1).bind fun x8 =>
cond x8 (
leave 0 lo [B false] r7.2) (
(bin .add .int v5 (I 1)).bind fun x9 =>
L25_10 [v0, v1, x9] lo r7.2)) (
leave 0 lo [B true] H)) := by
  show O.lab _ _ _ _ _ _ = _
  rw [O_lab]
  kernel_rfl
theorem f25_eq (a0 a1 : AV) : O.ent 25 [a0, a1] [] [] = (
(lenA .slice a0 []).bind fun x1 =>
(lenA .slice a1 []).bind fun x2 =>
(bin .neq .int x1 x2).bind fun x3 =>
cond x3 (
leave 0 [] [B false] []) (
L25_10 [a0, a1, I 0] [] [])) := by
  rw [O_ent]
  kernel_rfl
-- backstitch/rows.places
noncomputable def T77_12 : List It := labAt Try.prog cfg 77 12 (fun _ => none)
noncomputable def L77_12 (vals : List AV) (lo : List Nat) (H : Heap) : Res := O.lab 77 [1, 6, 12, 13, 14] (T77_12) vals lo H
noncomputable def T77_21 : List It := labAt Try.prog cfg 77 21 (fun _ => none)
noncomputable def L77_21 (vals : List AV) (lo : List Nat) (H : Heap) : Res := O.lab 77 [1, 6, 12, 13, 14] (T77_21) vals lo H
theorem L77_12_eq (lo : List Nat) (v1 v6 v12 v13 v14 : AV) (H : Heap) : L77_12 [v1, v6, v12, v13, v14] lo H = (
(bin .lss .int v14 v13).bind fun x1 =>
cond x1 (
(idxA 12 v12 v14).bind fun x2 =>
(ld true 12 x2 H).bind fun x3 =>
(boxO [] [(I 0), (I 0), (I 0), (I 0), (I 0), (I 0), (I 0), (I 0), (I 0), (I 0), (I 0), (I 0)] H).bind fun r4 =>
((stA 12 r4.1 x3 lo r4.2).map fun H' => (undefA, H')).bind fun r5 =>
(ld true 12 r4.1 r5.2).bind fun x6 =>
(callV cfg O v1 [x6] lo r5.2).bind fun r7 =>
cond r7.1 (
(litA false 1 [v14] r7.2).bind fun r8 =>
(appA 1 8 v6 r8.1 r8.2).bind fun r9 =>
L77_21 [v1, r9.1, v12, v13, v14] lo r9.2) (
L77_21 [v1, v6, v12, v13, v14] lo r7.2)) (
leave 1 lo [v6, I 0] H)) := by
  show O.lab _ _ _ _ _ _ = _
  rw [O_lab]
  kernel_rfl
theorem L77_21_eq (lo : List Nat) (v1 v6 v12 v13 v14 : AV) (H : Heap) : L77_21 [v1, v6, v12, v13, v14] lo H = (
(bin .add .int v14 (I 1)).bind fun x1 =>
L77_12 [v1, v6, v12, v13, x1] lo H) := by
  show O.lab _ _ _ _ _ _ = _
  rw [O_lab]
  kernel_rfl
theorem f77_eq (a0 a1 : AV) (lo : List Nat) (H : Heap) : O.ent 77 [a0, a1] lo H = (
(lenA .slice a0 H).bind fun x1 =>
(bin .gtr .int x1 (I 200)).bind fun x2 =>
cond x2 (
leave 1 lo [.p nilS, I 2] H) (
(lenA .slice a0 H).bind fun x3 =>
L77_12 [a1, .p nilS, a0, x3, I 0] lo H)) := by
  rw [O_ent]
  kernel_rfl
-- backstitch/rows.Of$1
theorem f78_eq (a0 a1 : AV) (lo : List Nat) (H : Heap) : O.ent 78 [a0, a1] lo H = (
(boxO [] (AV.cells a0) H).bind fun r1 =>
(fldA 0 r1.1).bind fun x2 =>
(ld false 1 x2 r1.2).bind fun x3 =>
(ld false 1 a1 r1.2).bind fun x4 =>
(bin .eql .int x3 x4).bind fun x5 =>
leave 1 lo [x5] r1.2) := by
  rw [O_ent]
  kernel_rfl
-- backstitch/rows.Between$1
theorem f79_eq (a0 a1 a2 : AV) (lo : List Nat) (H : Heap) : O.ent 79 [a0, a1, a2] lo H = (
(boxO [] (AV.cells a0) H).bind fun r1 =>
(ld false 1 a1 r1.2).bind fun x2 =>
(fldA 1 r1.1).bind fun x3 =>
(ld false 1 x3 r1.2).bind fun x4 =>
(bin .leq .int x2 x4).bind fun x5 =>
(gd x5 true (fldA 1 r1.1)).bind fun x6 =>
(gd x5 true (ld false 1 x6 r1.2)).bind fun x7 =>
(gd x5 true (ld false 1 a2 r1.2)).bind fun x8 =>
(gd x5 true (bin .lss .int x7 x8)).bind fun x9 =>
(pickA x5 x9 (B false)).bind fun x10 =>
leave 1 lo [x10] r1.2) := by
  rw [O_ent]
  kernel_rfl
-- backstitch/backstitchref4.between
theorem f61_eq (a0 a1 a2 : AV) : O.ent 61 [a0, a1, a2] [] [] = (
(bin .geq .int a0 a1).bind fun x1 =>
(gd x1 true (some a0)).bind fun x2 =>
(gd x1 true (some a2)).bind fun x3 =>
(gd x1 true (bin .leq .int x2 x3)).bind fun x4 =>
(pickA x1 x4 (B false)).bind fun x5 =>
leave 0 [] [x5] []) := by
  rw [O_ent]
  kernel_rfl
end Go.Proofs.Ytangmjeafnkfaaa
