import Derived.Test.YtkhbbjfdbbnojaaCf
set_option linter.unusedVariables false
set_option maxRecDepth 100000
namespace Go.Proofs.Ytkhbbjfdbbnojaa
open Go Go.AM
-- backstitch/backstitchlaw4.ThinTells
noncomputable def T11_43 : List It := labAt Try.prog cfg 11 43 (fun _ => none)
noncomputable def L11_43 (vals : List AV) (lo : List Nat) (H : Heap) : Res := O.lab 11 [1, 2, 7, 8, 9, 10, 11, 12, 13, 14, 15, 16, 17, 18, 19, 20] (T11_43) vals lo H
noncomputable def T11_34 : List It := labAt Try.prog cfg 11 34 (fun _ => none)
noncomputable def L11_34 (vals : List AV) (lo : List Nat) (H : Heap) : Res := O.lab 11 [0, 1, 2, 7, 8, 9, 10, 11, 12, 13, 14, 15, 16, 17, 18, 19, 20, 21] (T11_34) vals lo H
noncomputable def T11_37 : List It := labAt Try.prog cfg 11 37 (fun _ => none)
noncomputable def L11_37 (vals : List AV) (lo : List Nat) (H : Heap) : Res := O.lab 11 [0, 1, 2, 7, 8, 9, 10, 11, 12, 13, 14, 15, 16, 17, 18, 19, 20, 21] (T11_37) vals lo H
noncomputable def T11_46 : List It := labAt Try.prog cfg 11 46 (fun _ => none)
noncomputable def L11_46 (vals : List AV) (lo : List Nat) (H : Heap) : Res := O.lab 11 [1, 2, 7, 8, 9, 10, 11, 12, 13, 14, 15, 16, 17, 18, 19, 20, 22, 23] (T11_46) vals lo H
noncomputable def T11_49 : List It := labAt Try.prog cfg 11 49 (fun _ => none)
noncomputable def L11_49 (vals : List AV) (lo : List Nat) (H : Heap) : Res := O.lab 11 [1, 2, 7, 8, 9, 10, 11, 12, 13, 14, 15, 16, 17, 18, 19, 20, 22, 23] (T11_49) vals lo H
noncomputable def T11_63 : List It := labAt Try.prog cfg 11 63 (fun _ => none)
noncomputable def L11_63 (vals : List AV) (lo : List Nat) (H : Heap) : Res := O.lab 11 [7, 8, 9, 10, 11, 12, 13, 14, 15, 16, 17, 18, 19, 20] (T11_63) vals lo H
noncomputable def T11_67 : List It := labAt Try.prog cfg 11 67 (fun _ => none)
noncomputable def L11_67 (vals : List AV) (lo : List Nat) (H : Heap) : Res := O.lab 11 [7, 8, 9, 10, 11, 12, 13, 14, 15, 16, 17, 18, 19, 20] (T11_67) vals lo H
theorem L11_43_eq (lo : List Nat) (v1 v2 v7 v8 v9 v10 v11 v12 v13 v14 v15 v16 v17 v18 v19 v20 : AV) (H : Heap) : L11_43 [v1, v2, v7, v8, v9, v10, v11, v12, v13, v14, v15, v16, v17, v18, v19, v20] lo H = (
L11_46 [v1, v2, v7, v8, v9, v10, v11, v12, v13, v14, v15, v16, v17, v18, v19, v20, B false, I 0] lo H) := by
  show O.lab _ _ _ _ _ _ = _
  rw [O_lab]
  kernel_rfl
theorem L11_34_eq (lo : List Nat) (v0 v1 v2 v7 v8 v9 v10 v11 v12 v13 v14 v15 v16 v17 v18 v19 v20 v21 : AV) (H : Heap) : L11_34 [v0, v1, v2, v7, v8, v9, v10, v11, v12, v13, v14, v15, v16, v17, v18, v19, v20, v21] lo H = (
(lenA .slice v1 H).bind fun x1 =>
(bin .lss .int v21 x1).bind fun x2 =>
cond x2 (
(idxA 1 v1 v21).bind fun x3 =>
(ld false 1 x3 H).bind fun x4 =>
(callA cfg O 71 [x4, v0] lo H).bind fun r5 =>
(un .not r5.1).bind fun x6 =>
cond x6 (
(idxA 1 v1 v21).bind fun x7 =>
(ld false 1 x7 r5.2).bind fun x8 =>
(litA false 1 [x8] r5.2).bind fun r9 =>
(appA 1 8 v19 r9.1 r9.2).bind fun r10 =>
L11_37 [v0, v1, v2, v7, v8, v9, v10, v11, v12, v13, v14, v15, v16, v17, v18, r10.1, v20, v21] lo r10.2) (
L11_37 [v0, v1, v2, v7, v8, v9, v10, v11, v12, v13, v14, v15, v16, v17, v18, v19, v20, v21] lo r5.2)) (
L11_43 [v1, v2, v7, v8, v9, v10, v11, v12, v13, v14, v15, v16, v17, v18, v19, v20] lo H)) := by
  show O.lab _ _ _ _ _ _ = _
  rw [O_lab]
  kernel_rfl
theorem L11_37_eq (lo : List Nat) (v0 v1 v2 v7 v8 v9 v10 v11 v12 v13 v14 v15 v16 v17 v18 v19 v20 v21 : AV) (H : Heap) : L11_37 [v0, v1, v2, v7, v8, v9, v10, v11, v12, v13, v14, v15, v16, v17, v18, v19, v20, v21] lo H = (
(bin .add .int v21 (I 1)).bind fun x1 =>
L11_34 [v0, v1, v2, v7, v8, v9, v10, v11, v12, v13, v14, v15, v16, v17, v18, v19, v20, x1] lo H) := by
  show O.lab _ _ _ _ _ _ = _
  rw [O_lab]
  kernel_rfl
theorem L11_46_eq (lo : List Nat) (v1 v2 v7 v8 v9 v10 v11 v12 v13 v14 v15 v16 v17 v18 v19 v20 v22 v23 : AV) (H : Heap) : L11_46 [v1, v2, v7, v8, v9, v10, v11, v12, v13, v14, v15, v16, v17, v18, v19, v20, v22, v23] lo H = (
(lenA .slice v1 H).bind fun x1 =>
(bin .lss .int v23 x1).bind fun x2 =>
(gd x2 true (some v16)).bind fun x3 =>
(gd x2 true (bin .eql .int x3 (I 0))).bind fun x4 =>
(pickA x2 x4 (B false)).bind fun x5 =>
cond x5 (
(idxA 1 v1 v23).bind fun x6 =>
(ld false 1 x6 H).bind fun x7 =>
(bin .lss .int x7 (I 0)).bind fun x8 =>
(gd x8 false (some v23)).bind fun x9 =>
(gd x8 false (bin .gtr .int x9 (I 0))).bind fun x10 =>
(gd x8 false (some x10)).bind fun x11 =>
(gd x11 true (some v1)).bind fun x12 =>
(gd x11 true (some v23)).bind fun x13 =>
(gd x11 true (idxA 1 x12 x13)).bind fun x14 =>
(gd x11 true (ld false 1 x14 H)).bind fun x15 =>
(gd x11 true (some v1)).bind fun x16 =>
(gd x11 true (some v23)).bind fun x17 =>
(gd x11 true (bin .sub .int x17 (I 1))).bind fun x18 =>
(gd x11 true (idxA 1 x16 x18)).bind fun x19 =>
(gd x11 true (ld false 1 x19 H)).bind fun x20 =>
(gd x11 true (bin .leq .int x15 x20)).bind fun x21 =>
(gd x8 false (pickA x11 x21 (B false))).bind fun x22 =>
(pickA x8 (B true) x22).bind fun x23 =>
cond x23 (
L11_49 [v1, v2, v7, v8, v9, v10, v11, v12, v13, v14, v15, I 3, v17, v18, v19, v20, v22, v23] lo H) (
(idxA 1 v1 v23).bind fun x24 =>
(ld false 1 x24 H).bind fun x25 =>
(bin .leq .int x25 v2).bind fun x26 =>
cond x26 (
(idxA 1 v1 v23).bind fun x27 =>
(ld false 1 x27 H).bind fun x28 =>
L11_49 [v1, v2, v7, v8, v9, v10, v11, v12, v13, v14, v15, v16, v17, v18, v19, x28, B true, v23] lo H) (
L11_49 [v1, v2, v7, v8, v9, v10, v11, v12, v13, v14, v15, v16, v17, v18, v19, v20, v22, v23] lo H))) (
(bin .eql .int v16 (I 0)).bind fun x29 =>
(gd x29 true (some v22)).bind fun x30 =>
(gd x29 true (un .not x30)).bind fun x31 =>
(pickA x29 x31 (B false)).bind fun x32 =>
cond x32 (
L11_63 [v7, v8, v9, v10, v11, v12, v13, v14, v15, I 5, v17, v18, v19, v20] lo H) (
L11_63 [v7, v8, v9, v10, v11, v12, v13, v14, v15, v16, v17, v18, v19, v20] lo H))) := by
  show O.lab _ _ _ _ _ _ = _
  rw [O_lab]
  kernel_rfl
theorem L11_49_eq (lo : List Nat) (v1 v2 v7 v8 v9 v10 v11 v12 v13 v14 v15 v16 v17 v18 v19 v20 v22 v23 : AV) (H : Heap) : L11_49 [v1, v2, v7, v8, v9, v10, v11, v12, v13, v14, v15, v16, v17, v18, v19, v20, v22, v23] lo H = (
(bin .add .int v23 (I 1)).bind fun x1 =>
L11_46 [v1, v2, v7, v8, v9, v10, v11, v12, v13, v14, v15, v16, v17, v18, v19, v20, v22, x1] lo H) := by
  show O.lab _ _ _ _ _ _ = _
  rw [O_lab]
  kernel_rfl
theorem L11_63_eq (lo : List Nat) (v7 v8 v9 v10 v11 v12 v13 v14 v15 v16 v17 v18 v19 v20 : AV) (H : Heap) : L11_63 [v7, v8, v9, v10, v11, v12, v13, v14, v15, v16, v17, v18, v19, v20] lo H = (
(bin .neq .int v16 (I 0)).bind fun x1 =>
cond x1 (
L11_67 [v7, v8, v9, v10, v11, v12, v13, v14, v15, v16, v17, v18, v19, I 0] lo H) (
L11_67 [v7, v8, v9, v10, v11, v12, v13, v14, v15, v16, v17, v18, v19, v20] lo H)) := by
  show O.lab _ _ _ _ _ _ = _
  rw [O_lab]
  kernel_rfl
theorem L11_67_eq (lo : List Nat) (v7 v8 v9 v10 v11 v12 v13 v14 v15 v16 v17 v18 v19 v20 : AV) (H : Heap) : L11_67 [v7, v8, v9, v10, v11, v12, v13, v14, v15, v16, v17, v18, v19, v20] lo H = (
(callA cfg O 23 [v7, v17] lo H).bind fun r1 =>
(gd r1.1 true (some v8)).bind fun x2 =>
(gd r1.1 true (some v14)).bind fun x3 =>
(gd r1.1 true (bin .eql .int x2 x3)).bind fun x4 =>
(pickA r1.1 x4 (B false)).bind fun x5 =>
(gd x5 true (some v9)).bind fun x6 =>
(gd x5 true (some v18)).bind fun x7 =>
(gdH x5 true (callA cfg O 23 [x6, x7] lo r1.2) r1.2).bind fun r8 =>
(pickA x5 r8.1 (B false)).bind fun x9 =>
(gd x9 true (some v10)).bind fun x10 =>
(gd x9 true (some v19)).bind fun x11 =>
(gdH x9 true (callA cfg O 23 [x10, x11] lo r8.2) r8.2).bind fun r12 =>
(pickA x9 r12.1 (B false)).bind fun x13 =>
(gd x13 true (some v11)).bind fun x14 =>
(gd x13 true (some v15)).bind fun x15 =>
(gd x13 true (bin .eql .int x14 x15)).bind fun x16 =>
(pickA x13 x16 (B false)).bind fun x17 =>
(gd x17 true (some v12)).bind fun x18 =>
(gd x17 true (some v20)).bind fun x19 =>
(gd x17 true (bin .eql .int x18 x19)).bind fun x20 =>
(pickA x17 x20 (B false)).bind fun x21 =>
(gd x21 true (some v13)).bind fun x22 =>
(gd x21 true (some v16)).bind fun x23 =>
(gd x21 true (bin .eql .int x22 x23)).bind fun x24 =>
(pickA x21 x24 (B false)).bind fun x25 =>
leave 0 lo [x25] r12.2) := by
  show O.lab _ _ _ _ _ _ = _
  rw [O_lab]
  kernel_rfl
theorem f11_eq (a0 a1 a2 : AV) : O.ent 11 [a0, a1, a2] [] [] = (
(callA cfg O 67 [a0] [] []).bind fun r1 =>
(extractA r1.1 0).bind fun x2 =>
(extractA r1.1 1).bind fun x3 =>
(callA cfg O 68 [a1, a0] [] r1.2).bind fun r4 =>
(extractA r4.1 0).bind fun x5 =>
(extractA r4.1 1).bind fun x6 =>
(extractA r4.1 2).bind fun x7 =>
(callA cfg O 69 [a1, a2] [] r4.2).bind fun r8 =>
(extractA r8.1 0).bind fun x9 =>
(extractA r8.1 1).bind fun x10 =>
(bin .lss .int a0 (I 0)).bind fun x11 =>
(gd x11 false (some a0)).bind fun x12 =>
(gd x11 false (bin .gtr .int x12 (I 4000))).bind fun x13 =>
(pickA x11 (B true) x13).bind fun x14 =>
cond x14 (
L11_43 [a1, a2, x2, x3, x5, x6, x7, x9, x10, I 1, I 1, I 0, .p nilS, .p nilS, .p nilS, I 0] [] r8.2) (
(callA cfg O 70 [a0] [] r8.2).bind fun r15 =>
(bin .eql .int a0 (I 0)).bind fun x16 =>
cond x16 (
L11_43 [a1, a2, x2, x3, x5, x6, x7, x9, x10, I 0, I 1, I 0, r15.1, .p nilS, .p nilS, I 0] [] r15.2) (
(bin .sub .int a0 (I 1)).bind fun x17 =>
(callA cfg O 70 [x17] [] r15.2).bind fun r18 =>
(callA cfg O 23 [a1, r18.1] [] r18.2).bind fun r19 =>
(un .not r19.1).bind fun x20 =>
cond x20 (
L11_43 [a1, a2, x2, x3, x5, x6, x7, x9, x10, I 0, I 3, I 0, r15.1, .p nilS, .p nilS, I 0] [] r19.2) (
L11_34 [a0, a1, a2, x2, x3, x5, x6, x7, x9, x10, I 0, I 0, I 0, r15.1, r15.1, .p nilS, I 0, I 0] [] r19.2)))) := by
  rw [O_ent]
  kernel_rfl
-- backstitch/backstitchref4.SameInts
noncomputable def T23_10 : List It := labAt Try.prog cfg 23 10 (fun _ => none)
noncomputable def L23_10 (vals : List AV) (lo : List Nat) (H : Heap) : Res := O.lab 23 [0, 1, 5] (T23_10) vals lo H
theorem L23_10_eq (lo : List Nat) (v0 v1 v5 : AV) (H : Heap) : L23_10 [v0, v1, v5] lo H = (
(lenA .slice v0 H).bind fun x1 =>
(bin .lss .int v5 x1).bind fun x2 =>
cond x2 (
(idxA 1 v0 v5).bind fun x3 =>
(ld false 1 x3 H).bind fun x4 =>
(idxA 1 v1 v5).bind fun x5 =>
(ld false 1 x5 H).bind fun x6 =>
(bin .neq .int x4 x6).bind fun x7 =>
cond x7 (
leave 0 lo [B false] H) (
(bin .add .int v5 (I 1)).bind fun x8 =>
L23_10 [v0, v1, x8] lo H)) (
leave 0 lo [B true] H)) := by
  show O.lab _ _ _ _ _ _ = _
  rw [O_lab]
  kernel_rfl
theorem f23_eq (a0 a1 : AV) : O.ent 23 [a0, a1] [] [] = (
(lenA .slice a0 []).bind fun x1 =>
(lenA .slice a1 []).bind fun x2 =>
(bin .neq .int x1 x2).bind fun x3 =>
cond x3 (
leave 0 [] [B false] []) (
L23_10 [a0, a1, I 0] [] [])) := by
  rw [O_ent]
  kernel_rfl
-- backstitch/thin.Kept
theorem f67_eq (a0 : AV) : O.ent 67 [a0] [] [] = (
(bin .lss .int a0 (I 0)).bind fun x1 =>
(gd x1 false (some a0)).bind fun x2 =>
(gd x1 false (bin .gtr .int x2 (I 4000))).bind fun x3 =>
(pickA x1 (B true) x3).bind fun x4 =>
cond x4 (
leave 0 [] [.p nilS, I 1] []) (
(callA cfg O 126 [a0] [] []).bind fun r5 =>
leave 0 [] [r5.1, I 0] r5.2)) := by
  rw [O_ent]
  kernel_rfl
-- backstitch/thin.Add
noncomputable def T68_18 : List It := labAt Try.prog cfg 68 18 (fun _ => none)
noncomputable def L68_18 (vals : List AV) (lo : List Nat) (H : Heap) : Res := O.lab 68 [7, 8, 29, 30, 31] (T68_18) vals lo H
noncomputable def T68_29 : List It := labAt Try.prog cfg 68 29 (fun _ => none)
noncomputable def L68_29 (vals : List AV) (lo : List Nat) (H : Heap) : Res := O.lab 68 [7, 8, 29, 30, 31] (T68_29) vals lo H
theorem L68_18_eq (lo : List Nat) (v7 v8 v29 v30 v31 : AV) (H : Heap) : L68_18 [v7, v8, v29, v30, v31] lo H = (
(bin .lss .int v31 v30).bind fun x1 =>
cond x1 (
(idxA 1 v29 v31).bind fun x2 =>
(ld false 1 x2 H).bind fun x3 =>
(callA cfg O 98 [v7, x3] lo H).bind fun r4 =>
(extractA r4.1 0).bind fun x5 =>
(extractA r4.1 1).bind fun x6 =>
(un .not x6).bind fun x7 =>
cond x7 (
(litA false 1 [x3] r4.2).bind fun r8 =>
(appA 1 8 v8 r8.1 r8.2).bind fun r9 =>
L68_29 [v7, r9.1, v29, v30, v31] lo r9.2) (
L68_29 [v7, v8, v29, v30, v31] lo r4.2)) (
leave 0 lo [v7, v8, I 0] H)) := by
  show O.lab _ _ _ _ _ _ = _
  rw [O_lab]
  kernel_rfl
theorem L68_29_eq (lo : List Nat) (v7 v8 v29 v30 v31 : AV) (H : Heap) : L68_29 [v7, v8, v29, v30, v31] lo H = (
(bin .add .int v31 (I 1)).bind fun x1 =>
L68_18 [v7, v8, v29, v30, x1] lo H) := by
  show O.lab _ _ _ _ _ _ = _
  rw [O_lab]
  kernel_rfl
theorem f68_eq (a0 a1 : AV) : O.ent 68 [a0, a1] [] [] = (
(bin .lss .int a1 (I 1)).bind fun x1 =>
(gd x1 false (some a1)).bind fun x2 =>
(gd x1 false (bin .gtr .int x2 (I 4000))).bind fun x3 =>
(pickA x1 (B true) x3).bind fun x4 =>
cond x4 (
leave 0 [] [.p nilS, .p nilS, I 1] []) (
(bin .sub .int a1 (I 1)).bind fun x5 =>
(callA cfg O 126 [x5] [] []).bind fun r6 =>
(callA cfg O 101 [a0, r6.1] [] r6.2).bind fun r7 =>
(un .not r7.1).bind fun x8 =>
cond x8 (
leave 0 [] [.p nilS, .p nilS, I 3] r7.2) (
(callA cfg O 126 [a1] [] r7.2).bind fun r9 =>
(lenA .slice a0 r9.2).bind fun x10 =>
L68_18 [r9.1, .p nilS, a0, x10, I 0] [] r9.2))) := by
  rw [O_ent]
  kernel_rfl
-- backstitch/thin.From
noncomputable def T69_8 : List It := labAt Try.prog cfg 69 8 (fun _ => none)
noncomputable def L69_8 (vals : List AV) (lo : List Nat) (H : Heap) : Res := O.lab 69 [0, 1, 6, 11, 12, 13] (T69_8) vals lo H
theorem L69_8_eq (lo : List Nat) (v0 v1 v6 v11 v12 v13 : AV) (H : Heap) : L69_8 [v0, v1, v6, v11, v12, v13] lo H = (
(bin .lss .int v13 v12).bind fun x1 =>
cond x1 (
(idxA 1 v11 v13).bind fun x2 =>
(ld false 1 x2 H).bind fun x3 =>
(bin .leq .int x3 v6).bind fun x4 =>
cond x4 (
leave 0 lo [I 0, I 3] H) (
(bin .add .int v13 (I 1)).bind fun x5 =>
L69_8 [v0, v1, x3, v11, v12, x5] lo H)) (
(callA cfg O 98 [v0, v1] lo H).bind fun r6 =>
(extractA r6.1 0).bind fun x7 =>
(extractA r6.1 1).bind fun x8 =>
cond x8 (
leave 0 lo [v1, I 0] r6.2) (
(bin .eql .int x7 (I 0)).bind fun x9 =>
cond x9 (
leave 0 lo [I 0, I 5] r6.2) (
(bin .sub .int x7 (I 1)).bind fun x10 =>
(idxA 1 v0 x10).bind fun x11 =>
(ld false 1 x11 r6.2).bind fun x12 =>
leave 0 lo [x12, I 0] r6.2)))) := by
  show O.lab _ _ _ _ _ _ = _
  rw [O_lab]
  kernel_rfl
theorem f69_eq (a0 a1 : AV) : O.ent 69 [a0, a1] [] [] = (
(lenA .slice a0 []).bind fun x1 =>
L69_8 [a0, a1, I (-1), a0, x1, I 0] [] []) := by
  rw [O_ent]
  kernel_rfl
-- backstitch/backstitchref4.ThinKept
noncomputable def T70_8 : List It := labAt Try.prog cfg 70 8 (fun _ => none)
noncomputable def L70_8 (vals : List AV) (lo : List Nat) (H : Heap) : Res := O.lab 70 [0, 3, 4] (T70_8) vals lo H
noncomputable def T70_11 : List It := labAt Try.prog cfg 70 11 (fun _ => none)
noncomputable def L70_11 (vals : List AV) (lo : List Nat) (H : Heap) : Res := O.lab 70 [0, 3, 4] (T70_11) vals lo H
theorem L70_8_eq (lo : List Nat) (v0 v3 v4 : AV) (H : Heap) : L70_8 [v0, v3, v4] lo H = (
(bin .leq .int v4 v0).bind fun x1 =>
cond x1 (
(callA cfg O 71 [v4, v0] lo H).bind fun r2 =>
cond r2.1 (
(litA false 1 [v4] r2.2).bind fun r3 =>
(appA 1 8 v3 r3.1 r3.2).bind fun r4 =>
L70_11 [v0, r4.1, v4] lo r4.2) (
L70_11 [v0, v3, v4] lo r2.2)) (
leave 0 lo [v3] H)) := by
  show O.lab _ _ _ _ _ _ = _
  rw [O_lab]
  kernel_rfl
theorem L70_11_eq (lo : List Nat) (v0 v3 v4 : AV) (H : Heap) : L70_11 [v0, v3, v4] lo H = (
(bin .add .int v4 (I 1)).bind fun x1 =>
L70_8 [v0, v3, x1] lo H) := by
  show O.lab _ _ _ _ _ _ = _
  rw [O_lab]
  kernel_rfl
theorem f70_eq (a0 : AV) : O.ent 70 [a0] [] [] = (
L70_8 [a0, .p nilS, I 0] [] []) := by
  rw [O_ent]
  kernel_rfl
-- backstitch/backstitchref4.IsKept
noncomputable def T71_10 : List It := labAt Try.prog cfg 71 10 (fun _ => none)
noncomputable def L71_10 (vals : List AV) (lo : List Nat) (H : Heap) : Res := O.lab 71 [0, 1, 5] (T71_10) vals lo H
theorem L71_10_eq (lo : List Nat) (v0 v1 v5 : AV) (H : Heap) : L71_10 [v0, v1, v5] lo H = (
(bin .leq .int v5 v1).bind fun x1 =>
cond x1 (
(bin .rem .int v0 v5).bind fun x2 =>
(bin .eql .int x2 (I 0)).bind fun x3 =>
(gd x3 true (some v0)).bind fun x4 =>
(gd x3 true (some v5)).bind fun x5 =>
(gd x3 true (bin .add .int x4 x5)).bind fun x6 =>
(gd x3 true (some v5)).bind fun x7 =>
(gd x3 true (bin .add .int x6 x7)).bind fun x8 =>
(gd x3 true (some v1)).bind fun x9 =>
(gd x3 true (bin .gtr .int x8 x9)).bind fun x10 =>
(pickA x3 x10 (B false)).bind fun x11 =>
cond x11 (
leave 0 lo [B true] H) (
(bin .add .int v5 v5).bind fun x12 =>
L71_10 [v0, v1, x12] lo H)) (
leave 0 lo [B false] H)) := by
  show O.lab _ _ _ _ _ _ = _
  rw [O_lab]
  kernel_rfl
theorem f71_eq (a0 a1 : AV) : O.ent 71 [a0, a1] [] [] = (
(bin .eql .int a0 (I 0)).bind fun x1 =>
(gd x1 false (some a0)).bind fun x2 =>
(gd x1 false (some a1)).bind fun x3 =>
(gd x1 false (bin .eql .int x2 x3)).bind fun x4 =>
(pickA x1 (B true) x4).bind fun x5 =>
cond x5 (
leave 0 [] [B true] []) (
L71_10 [a0, a1, I 1] [] [])) := by
  rw [O_ent]
  kernel_rfl
-- backstitch/thin.kept
noncomputable def T126_8 : List It := labAt Try.prog cfg 126 8 (fun _ => none)
noncomputable def L126_8 (vals : List AV) (lo : List Nat) (H : Heap) : Res := O.lab 126 [0, 3, 4] (T126_8) vals lo H
theorem L126_8_eq (lo : List Nat) (v0 v3 v4 : AV) (H : Heap) : L126_8 [v0, v3, v4] lo H = (
(bin .leq .int v4 v0).bind fun x1 =>
cond x1 (
(bin .rem .int v0 v4).bind fun x2 =>
(bin .sub .int v0 x2).bind fun x3 =>
(bin .sub .int x3 v4).bind fun x4 =>
(bests true (I 0) [x4]).bind fun x5 =>
(litA false 1 [x3, x5] H).bind fun r6 =>
(appA 1 8 v3 r6.1 r6.2).bind fun r7 =>
(bin .mul .int v4 (I 2)).bind fun x8 =>
L126_8 [v0, r7.1, x8] lo r7.2) (
(callA cfg O 152 [v3] lo H).bind fun r9 =>
(callA cfg O 153 [v3] lo r9.2).bind fun r10 =>
leave 0 lo [r10.1] r10.2)) := by
  show O.lab _ _ _ _ _ _ = _
  rw [O_lab]
  kernel_rfl
theorem f126_eq (a0 : AV) : O.ent 126 [a0] [] [] = (
(litA true 1 [I 0, a0] []).bind fun r1 =>
L126_8 [a0, r1.1, I 1] [] r1.2) := by
  rw [O_ent]
  kernel_rfl
-- slices.BinarySearch[[]int,int]
noncomputable def T98_8 : List It := labAt Try.prog cfg 98 8 (fun _ => none)
noncomputable def L98_8 (vals : List AV) (lo : List Nat) (H : Heap) : Res := O.lab 98 [0, 1, 6, 7, 8] (T98_8) vals lo H
theorem L98_8_eq (lo : List Nat) (v0 v1 v6 v7 v8 : AV) (H : Heap) : L98_8 [v0, v1, v6, v7, v8] lo H = (
(bin .lss .int v7 v8).bind fun x1 =>
cond x1 (
(bin .add .int v7 v8).bind fun x2 =>
(conv (.int .u64) x2).bind fun x3 =>
(bin .shr .int x3 (.p (.v (.int .u64 1)))).bind fun x4 =>
(conv (.int .i64) x4).bind fun x5 =>
(idxA 1 v0 x5).bind fun x6 =>
(ld false 1 x6 H).bind fun x7 =>
(callA cfg O 139 [x7, v1] lo H).bind fun r8 =>
cond r8.1 (
(bin .add .int x5 (I 1)).bind fun x9 =>
L98_8 [v0, v1, v6, x9, v8] lo r8.2) (
L98_8 [v0, v1, v6, v7, x5] lo r8.2)) (
(bin .lss .int v7 v6).bind fun x10 =>
(gd x10 true (some v0)).bind fun x11 =>
(gd x10 true (some v7)).bind fun x12 =>
(gd x10 true (idxA 1 x11 x12)).bind fun x13 =>
(gd x10 true (ld false 1 x13 H)).bind fun x14 =>
(gd x10 true (some v1)).bind fun x15 =>
(gd x10 true (bin .eql .int x14 x15)).bind fun x16 =>
(gd x10 true (some x16)).bind fun x17 =>
(gd x17 false (some v0)).bind fun x18 =>
(gd x17 false (some v7)).bind fun x19 =>
(gd x17 false (idxA 1 x18 x19)).bind fun x20 =>
(gd x17 false (ld false 1 x20 H)).bind fun x21 =>
(gdH x17 false (callA cfg O 140 [x21] lo H) H).bind fun r22 =>
(gd x17 false (some r22.1)).bind fun x23 =>
(gd x23 true (some v1)).bind fun x24 =>
(gdH x23 true (callA cfg O 140 [x24] lo r22.2) r22.2).bind fun r25 =>
(gd x17 false (pickA x23 r25.1 (B false))).bind fun x26 =>
(gd x10 true (pickA x17 (B true) x26)).bind fun x27 =>
(pickA x10 x27 (B false)).bind fun x28 =>
leave 0 lo [v7, x28] r25.2)) := by
  show O.lab _ _ _ _ _ _ = _
  rw [O_lab]
  kernel_rfl
theorem f98_eq (a0 a1 : AV) : O.ent 98 [a0, a1] [] [] = (
(lenA .slice a0 []).bind fun x1 =>
L98_8 [a0, a1, x1, I 0, x1] [] []) := by
  rw [O_ent]
  kernel_rfl
-- slices.Equal[[]int,int]
noncomputable def T101_10 : List It := labAt Try.prog cfg 101 10 (fun _ => none)
noncomputable def L101_10 (vals : List AV) (lo : List Nat) (H : Heap) : Res := O.lab 101 [0, 1, 12, 13] (T101_10) vals lo H
theorem L101_10_eq (lo : List Nat) (v0 v1 v12 v13 : AV) (H : Heap) : L101_10 [v0, v1, v12, v13] lo H = (
(bin .lss .int v13 v12).bind fun x1 =>
cond x1 (
(idxA 1 v0 v13).bind fun x2 =>
(ld false 1 x2 H).bind fun x3 =>
(idxA 1 v1 v13).bind fun x4 =>
(ld false 1 x4 H).bind fun x5 =>
(bin .neq .int x3 x5).bind fun x6 =>
cond x6 (
leave 0 lo [B false] H) (
(bin .add .int v13 (I 1)).bind fun x7 =>
L101_10 [v0, v1, v12, x7] lo H)) (
leave 0 lo [B true] H)) := by
  show O.lab _ _ _ _ _ _ = _
  rw [O_lab]
  kernel_rfl
theorem f101_eq (a0 a1 : AV) : O.ent 101 [a0, a1] [] [] = (
(lenA .slice a0 []).bind fun x1 =>
(lenA .slice a1 []).bind fun x2 =>
(bin .neq .int x1 x2).bind fun x3 =>
cond x3 (
leave 0 [] [B false] []) (
(lenA .slice a0 []).bind fun x4 =>
L101_10 [a0, a1, x4, I 0] [] [])) := by
  rw [O_ent]
  kernel_rfl
-- slices.Compact[[]int,int]
noncomputable def T153_10 : List It := labAt Try.prog cfg 153 10 (fun _ => none)
noncomputable def L153_10 (vals : List AV) (lo : List Nat) (H : Heap) : Res := O.lab 153 [0, 3] (T153_10) vals lo H
noncomputable def T153_20 : List It := labAt Try.prog cfg 153 20 (fun _ => none)
noncomputable def L153_20 (vals : List AV) (lo : List Nat) (H : Heap) : Res := O.lab 153 [0, 3, 4, 5] (T153_20) vals lo H
noncomputable def T153_23 : List It := labAt Try.prog cfg 153 23 (fun _ => none)
noncomputable def L153_23 (vals : List AV) (lo : List Nat) (H : Heap) : Res := O.lab 153 [0, 3, 4, 5] (T153_23) vals lo H
theorem L153_10_eq (lo : List Nat) (v0 v3 : AV) (H : Heap) : L153_10 [v0, v3] lo H = (
(lenA .slice v0 H).bind fun x1 =>
(bin .lss .int v3 x1).bind fun x2 =>
cond x2 (
(idxA 1 v0 v3).bind fun x3 =>
(ld false 1 x3 H).bind fun x4 =>
(bin .sub .int v3 (I 1)).bind fun x5 =>
(idxA 1 v0 x5).bind fun x6 =>
(ld false 1 x6 H).bind fun x7 =>
(bin .eql .int x4 x7).bind fun x8 =>
cond x8 (
(cutA 1 v0 (some v3) none none H).bind fun x9 =>
L153_20 [v0, v3, x9, I 1] lo H) (
(bin .add .int v3 (I 1)).bind fun x10 =>
L153_10 [v0, x10] lo H)) (
leave 1 lo [v0] H)) := by
  show O.lab _ _ _ _ _ _ = _
  rw [O_lab]
  kernel_rfl
theorem L153_20_eq (lo : List Nat) (v0 v3 v4 v5 : AV) (H : Heap) : L153_20 [v0, v3, v4, v5] lo H = (
(lenA .slice v4 H).bind fun x1 =>
(bin .lss .int v5 x1).bind fun x2 =>
cond x2 (
(idxA 1 v4 v5).bind fun x3 =>
(ld false 1 x3 H).bind fun x4 =>
(bin .sub .int v5 (I 1)).bind fun x5 =>
(idxA 1 v4 x5).bind fun x6 =>
(ld false 1 x6 H).bind fun x7 =>
(bin .neq .int x4 x7).bind fun x8 =>
cond x8 (
(idxA 1 v4 v5).bind fun x9 =>
(ld false 1 x9 H).bind fun x10 =>
(idxA 1 v0 v3).bind fun x11 =>
((stA 1 x11 x10 lo H).map fun H' => (undefA, H')).bind fun r12 =>
(bin .add .int v3 (I 1)).bind fun x13 =>
L153_23 [v0, x13, v4, v5] lo r12.2) (
L153_23 [v0, v3, v4, v5] lo H)) (
(cutA 1 v0 (some v3) none none H).bind fun x14 =>
((clearA 1 [(.v (.int .i64 0))] x14 H).map fun H' => (undefA, H')).bind fun r15 =>
(cutA 1 v0 none (some v3) none r15.2).bind fun x16 =>
leave 1 lo [x16] r15.2)) := by
  show O.lab _ _ _ _ _ _ = _
  rw [O_lab]
  kernel_rfl
theorem L153_23_eq (lo : List Nat) (v0 v3 v4 v5 : AV) (H : Heap) : L153_23 [v0, v3, v4, v5] lo H = (
(bin .add .int v5 (I 1)).bind fun x1 =>
L153_20 [v0, v3, v4, x1] lo H) := by
  show O.lab _ _ _ _ _ _ = _
  rw [O_lab]
  kernel_rfl
theorem f153_eq (a0 : AV) (lo : List Nat) (H : Heap) : O.ent 153 [a0] lo H = (
(lenA .slice a0 H).bind fun x1 =>
(bin .lss .int x1 (I 2)).bind fun x2 =>
cond x2 (
leave 1 lo [a0] H) (
L153_10 [a0, I 1] lo H)) := by
  rw [O_ent]
  kernel_rfl
-- cmp.Less[int]
theorem f139_eq (a0 a1 : AV) : O.ent 139 [a0, a1] [] [] = (
(callA cfg O 150 [a0] [] []).bind fun r1 =>
(gd r1.1 true (some a1)).bind fun x2 =>
(gdH r1.1 true (callA cfg O 150 [x2] [] r1.2) r1.2).bind fun r3 =>
(gd r1.1 true (un .not r3.1)).bind fun x4 =>
(pickA r1.1 x4 (B false)).bind fun x5 =>
(gd x5 false (some a0)).bind fun x6 =>
(gd x5 false (some a1)).bind fun x7 =>
(gd x5 false (bin .lss .int x6 x7)).bind fun x8 =>
(pickA x5 (B true) x8).bind fun x9 =>
leave 0 [] [x9] r3.2) := by
  rw [O_ent]
  kernel_rfl
-- slices.isNaN[int]
theorem f140_eq (a0 : AV) : O.ent 140 [a0] [] [] = (
(bin .neq .int a0 a0).bind fun x1 =>
leave 0 [] [x1] []) := by
  rw [O_ent]
  kernel_rfl
-- cmp.isNaN[int]
theorem f150_eq (a0 : AV) : O.ent 150 [a0] [] [] = (
(bin .neq .int a0 a0).bind fun x1 =>
leave 0 [] [x1] []) := by
  rw [O_ent]
  kernel_rfl
end Go.Proofs.Ytkhbbjfdbbnojaa
