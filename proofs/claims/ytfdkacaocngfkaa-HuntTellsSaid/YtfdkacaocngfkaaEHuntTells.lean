import Derived.Test.YtfdkacaocngfkaaCf
set_option linter.unusedVariables false
set_option maxRecDepth 100000
namespace Go.Proofs.Ytfdkacaocngfkaa
open Go Go.AM
-- backstitch/backstitchlaw4.HuntTells
noncomputable def T6_9 : List It := labAt Try.prog cfg 6 9 (fun _ => none)
noncomputable def L6_9 (vals : List AV) (lo : List Nat) (H : Heap) : Res := O.lab 6 [0, 1, 2, 4, 8] (T6_9) vals lo H
noncomputable def T6_23 : List It := labAt Try.prog cfg 6 23 (fun _ => none)
noncomputable def L6_23 (vals : List AV) (lo : List Nat) (H : Heap) : Res := O.lab 6 [0, 1, 2, 4, 11, 12, 13, 14, 15, 16, 17] (T6_23) vals lo H
noncomputable def T6_33 : List It := labAt Try.prog cfg 6 33 (fun _ => none)
noncomputable def L6_33 (vals : List AV) (lo : List Nat) (H : Heap) : Res := O.lab 6 [0, 1, 2, 11, 12, 13, 14, 15, 16, 18, 19, 20, 21, 22] (T6_33) vals lo H
noncomputable def T6_51 : List It := labAt Try.prog cfg 6 51 (fun _ => none)
noncomputable def L6_51 (vals : List AV) (lo : List Nat) (H : Heap) : Res := O.lab 6 [0, 1, 2, 11, 12, 13, 14, 15, 16, 18, 19, 20, 21, 22, 23, 24, 25, 26] (T6_51) vals lo H
noncomputable def T6_40 : List It := labAt Try.prog cfg 6 40 (fun _ => none)
noncomputable def L6_40 (vals : List AV) (lo : List Nat) (H : Heap) : Res := O.lab 6 [0, 1, 2, 11, 12, 13, 14, 15, 16, 18, 19, 20, 21, 22, 23, 25, 26, 27] (T6_40) vals lo H
noncomputable def T6_43 : List It := labAt Try.prog cfg 6 43 (fun _ => none)
noncomputable def L6_43 (vals : List AV) (lo : List Nat) (H : Heap) : Res := O.lab 6 [0, 1, 2, 11, 12, 13, 14, 15, 16, 18, 19, 20, 21, 22, 23, 25, 26, 27] (T6_43) vals lo H
noncomputable def T6_71 : List It := labAt Try.prog cfg 6 71 (fun _ => none)
noncomputable def L6_71 (vals : List AV) (lo : List Nat) (H : Heap) : Res := O.lab 6 [11, 12, 13, 14, 15, 18, 19, 20, 21, 22, 23, 24, 25, 26] (T6_71) vals lo H
noncomputable def T6_58 : List It := labAt Try.prog cfg 6 58 (fun _ => none)
noncomputable def L6_58 (vals : List AV) (lo : List Nat) (H : Heap) : Res := O.lab 6 [0, 11, 12, 13, 14, 15, 16, 18, 19, 20, 21, 22, 23, 24, 25, 26, 28, 29] (T6_58) vals lo H
noncomputable def T6_61 : List It := labAt Try.prog cfg 6 61 (fun _ => none)
noncomputable def L6_61 (vals : List AV) (lo : List Nat) (H : Heap) : Res := O.lab 6 [0, 11, 12, 13, 14, 15, 16, 18, 19, 20, 21, 22, 23, 24, 25, 26, 28] (T6_61) vals lo H
theorem L6_9_eq (lo : List Nat) (v0 v1 v2 v4 v8 : AV) (H : Heap) : L6_9 [v0, v1, v2, v4, v8] lo H = (
(lenA .slice v2 H).bind fun x1 =>
(bests false x1 [I 5]).bind fun x2 =>
(cutA 1 v2 none (some x2) none H).bind fun x3 =>
(callA cfg O 29 [v0, v1, x3] lo H).bind fun r4 =>
(extractA r4.1 0).bind fun x5 =>
(extractA r4.1 1).bind fun x6 =>
(callA cfg O 30 [v0, v1, x3] lo r4.2).bind fun r7 =>
(extractA r7.1 0).bind fun x8 =>
(extractA r7.1 1).bind fun x9 =>
(extractA r7.1 2).bind fun x10 =>
cond v4 (
L6_23 [v0, v1, x3, v4, x5, x6, x8, x9, x10, .fn 31 [] [v8], .p (.v .nilFunc)] lo r7.2) (
L6_23 [v0, v1, x3, v4, x5, x6, x8, x9, x10, .fn 31 [] [v8], .fn 31 [] [v8]] lo r7.2)) := by
  show O.lab _ _ _ _ _ _ = _
  rw [O_lab]
  kernel_rfl
theorem L6_23_eq (lo : List Nat) (v0 v1 v2 v4 v11 v12 v13 v14 v15 v16 v17 : AV) (H : Heap) : L6_23 [v0, v1, v2, v4, v11, v12, v13, v14, v15, v16, v17] lo H = (
(callA cfg O 32 [v0, v1, v2, v17] lo H).bind fun r1 =>
(extractA r1.1 0).bind fun x2 =>
(extractA r1.1 1).bind fun x3 =>
(extractA r1.1 2).bind fun x4 =>
(callA cfg O 33 [v0, v1, v2] lo r1.2).bind fun r5 =>
(bin .eql .int r5.1 (I 0)).bind fun x6 =>
(gd x6 true (some v4)).bind fun x7 =>
(pickA x6 x7 (B false)).bind fun x8 =>
cond x8 (
L6_33 [v0, v1, v2, v11, v12, v13, v14, v15, v16, x2, x3, x4, r5.1, I 8] lo r5.2) (
L6_33 [v0, v1, v2, v11, v12, v13, v14, v15, v16, x2, x3, x4, r5.1, r5.1] lo r5.2)) := by
  show O.lab _ _ _ _ _ _ = _
  rw [O_lab]
  kernel_rfl
theorem L6_33_eq (lo : List Nat) (v0 v1 v2 v11 v12 v13 v14 v15 v16 v18 v19 v20 v21 v22 : AV) (H : Heap) : L6_33 [v0, v1, v2, v11, v12, v13, v14, v15, v16, v18, v19, v20, v21, v22] lo H = (
(bin .eql .int v21 (I 0)).bind fun x1 =>
cond x1 (
L6_40 [v0, v1, v2, v11, v12, v13, v14, v15, v16, v18, v19, v20, v21, v22, .p nilS, I 0, I 0, I 0] lo H) (
L6_51 [v0, v1, v2, v11, v12, v13, v14, v15, v16, v18, v19, v20, v21, v22, .p nilS, I (-1), I 0, I 0] lo H)) := by
  show O.lab _ _ _ _ _ _ = _
  rw [O_lab]
  kernel_rfl
theorem L6_51_eq (lo : List Nat) (v0 v1 v2 v11 v12 v13 v14 v15 v16 v18 v19 v20 v21 v22 v23 v24 v25 v26 : AV) (H : Heap) : L6_51 [v0, v1, v2, v11, v12, v13, v14, v15, v16, v18, v19, v20, v21, v22, v23, v24, v25, v26] lo H = (
(bin .eql .int v22 (I 0)).bind fun x1 =>
cond x1 (
(litA false 1 [] H).bind fun r2 =>
(appA 1 8 r2.1 v2 r2.2).bind fun r3 =>
L6_58 [v0, v11, v12, v13, v14, v15, v16, v18, v19, v20, v21, v22, v23, v24, v1, v26, r3.1, v24] lo r3.2) (
L6_71 [v11, v12, v13, v14, v15, v18, v19, v20, v21, v22, v23, v24, v25, v26] lo H)) := by
  show O.lab _ _ _ _ _ _ = _
  rw [O_lab]
  kernel_rfl
theorem L6_40_eq (lo : List Nat) (v0 v1 v2 v11 v12 v13 v14 v15 v16 v18 v19 v20 v21 v22 v23 v25 v26 v27 : AV) (H : Heap) : L6_40 [v0, v1, v2, v11, v12, v13, v14, v15, v16, v18, v19, v20, v21, v22, v23, v25, v26, v27] lo H = (
(lenA .slice v0 H).bind fun x1 =>
(bin .lss .int v27 x1).bind fun x2 =>
cond x2 (
(callA cfg O 34 [v0, v27, v1, v2] lo H).bind fun r3 =>
cond r3.1 (
(litA false 1 [v27] r3.2).bind fun r4 =>
(appA 1 8 v23 r4.1 r4.2).bind fun r5 =>
L6_43 [v0, v1, v2, v11, v12, v13, v14, v15, v16, v18, v19, v20, v21, v22, r5.1, v25, v26, v27] lo r5.2) (
L6_43 [v0, v1, v2, v11, v12, v13, v14, v15, v16, v18, v19, v20, v21, v22, v23, v25, v26, v27] lo r3.2)) (
(callA cfg O 35 [v0, v1, v2] lo H).bind fun r6 =>
L6_51 [v0, v1, v2, v11, v12, v13, v14, v15, v16, v18, v19, v20, v21, v22, v23, r6.1, v25, v26] lo r6.2)) := by
  show O.lab _ _ _ _ _ _ = _
  rw [O_lab]
  kernel_rfl
theorem L6_43_eq (lo : List Nat) (v0 v1 v2 v11 v12 v13 v14 v15 v16 v18 v19 v20 v21 v22 v23 v25 v26 v27 : AV) (H : Heap) : L6_43 [v0, v1, v2, v11, v12, v13, v14, v15, v16, v18, v19, v20, v21, v22, v23, v25, v26, v27] lo H = (
(bin .add .int v27 (I 1)).bind fun x1 =>
L6_40 [v0, v1, v2, v11, v12, v13, v14, v15, v16, v18, v19, v20, v21, v22, v23, v25, v26, x1] lo H) := by
  show O.lab _ _ _ _ _ _ = _
  rw [O_lab]
  kernel_rfl
theorem L6_71_eq (lo : List Nat) (v11 v12 v13 v14 v15 v18 v19 v20 v21 v22 v23 v24 v25 v26 : AV) (H : Heap) : L6_71 [v11, v12, v13, v14, v15, v18, v19, v20, v21, v22, v23, v24, v25, v26] lo H = (
(callA cfg O 17 [v11, v23] lo H).bind fun r1 =>
(gd r1.1 true (some v12)).bind fun x2 =>
(gd r1.1 true (some v21)).bind fun x3 =>
(gd r1.1 true (bin .eql .int x2 x3)).bind fun x4 =>
(pickA r1.1 x4 (B false)).bind fun x5 =>
(gd x5 true (some v13)).bind fun x6 =>
(gd x5 true (some v24)).bind fun x7 =>
(gd x5 true (bests true x7 [I 0])).bind fun x8 =>
(gd x5 true (bin .eql .int x6 x8)).bind fun x9 =>
(pickA x5 x9 (B false)).bind fun x10 =>
(gd x10 true (some v14)).bind fun x11 =>
(gd x10 true (some v24)).bind fun x12 =>
(gd x10 true (bin .geq .int x12 (I 0))).bind fun x13 =>
(gd x10 true (bin .eql .bool x11 x13)).bind fun x14 =>
(pickA x10 x14 (B false)).bind fun x15 =>
(gd x15 true (some v15)).bind fun x16 =>
(gd x15 true (some v21)).bind fun x17 =>
(gd x15 true (bin .eql .int x16 x17)).bind fun x18 =>
(pickA x15 x18 (B false)).bind fun x19 =>
(gd x19 true (some v18)).bind fun x20 =>
(gd x19 true (some v25)).bind fun x21 =>
(gd x19 true (bin .eql .int x20 x21)).bind fun x22 =>
(pickA x19 x22 (B false)).bind fun x23 =>
(gd x23 true (some v19)).bind fun x24 =>
(gd x23 true (some v26)).bind fun x25 =>
(gd x23 true (bin .eql .int x24 x25)).bind fun x26 =>
(pickA x23 x26 (B false)).bind fun x27 =>
(gd x27 true (some v20)).bind fun x28 =>
(gd x27 true (some v22)).bind fun x29 =>
(gd x27 true (bin .eql .int x28 x29)).bind fun x30 =>
(pickA x27 x30 (B false)).bind fun x31 =>
leave 0 lo [x31] r1.2) := by
  show O.lab _ _ _ _ _ _ = _
  rw [O_lab]
  kernel_rfl
theorem L6_58_eq (lo : List Nat) (v0 v11 v12 v13 v14 v15 v16 v18 v19 v20 v21 v22 v23 v24 v25 v26 v28 v29 : AV) (H : Heap) : L6_58 [v0, v11, v12, v13, v14, v15, v16, v18, v19, v20, v21, v22, v23, v24, v25, v26, v28, v29] lo H = (
(bin .geq .int v29 (I 0)).bind fun x1 =>
cond x1 (
(bin .add .int v26 (I 1)).bind fun x2 =>
(callV cfg O v16 [v29] lo H).bind fun r3 =>
cond r3.1 (
L6_61 [v0, v11, v12, v13, v14, v15, v16, v18, v19, v20, v21, v22, v23, v24, v29, x2, v28] lo r3.2) (
(litA false 1 [v29] r3.2).bind fun r4 =>
(appA 1 8 v28 r4.1 r4.2).bind fun r5 =>
L6_61 [v0, v11, v12, v13, v14, v15, v16, v18, v19, v20, v21, v22, v23, v24, v25, x2, r5.1] lo r5.2)) (
L6_71 [v11, v12, v13, v14, v15, v18, v19, v20, v21, v22, v23, v24, v25, v26] lo H)) := by
  show O.lab _ _ _ _ _ _ = _
  rw [O_lab]
  kernel_rfl
theorem L6_61_eq (lo : List Nat) (v0 v11 v12 v13 v14 v15 v16 v18 v19 v20 v21 v22 v23 v24 v25 v26 v28 : AV) (H : Heap) : L6_61 [v0, v11, v12, v13, v14, v15, v16, v18, v19, v20, v21, v22, v23, v24, v25, v26, v28] lo H = (
(callA cfg O 35 [v0, v25, v28] lo H).bind fun r1 =>
L6_58 [v0, v11, v12, v13, v14, v15, v16, v18, v19, v20, v21, v22, v23, v24, v25, v26, v28, r1.1] lo r1.2) := by
  show O.lab _ _ _ _ _ _ = _
  rw [O_lab]
  kernel_rfl
theorem f6_eq (a0 a1 a2 a3 a4 : AV) : O.ent 6 [a0, a1, a2, a3, a4] [] [] = (
(boxO [] (AV.cells a3) []).bind fun r1 =>
(lenA .slice a0 r1.2).bind fun x2 =>
(bin .leq .int x2 (I 200)).bind fun x3 =>
cond x3 (
(lenA .slice a0 r1.2).bind fun x4 =>
(bests false x4 [I 20]).bind fun x5 =>
(cutA 1 a0 none (some x5) none r1.2).bind fun x6 =>
L6_9 [x6, a1, a2, a4, r1.1] [] r1.2) (
L6_9 [a0, a1, a2, a4, r1.1] [] r1.2)) := by
  rw [O_ent]
  kernel_rfl
-- backstitch/backstitchref4.SameInts
noncomputable def T17_10 : List It := labAt Try.prog cfg 17 10 (fun _ => none)
noncomputable def L17_10 (vals : List AV) (lo : List Nat) (H : Heap) : Res := O.lab 17 [0, 1, 5] (T17_10) vals lo H
theorem L17_10_eq (lo : List Nat) (v0 v1 v5 : AV) (H : Heap) : L17_10 [v0, v1, v5] lo H = (
(lenA .slice v0 H).bind fun x1 =>
(bin .lss .int v5 x1).bind fun x2 =>
cond x2 (
(idxA 1 v0 v5).bind fun x3 =>
(ld false 1 x3 H).bind fun x4 =>
(idxA 1 v1 v5).bind fun x5 =>
(ld false 1 x5 H).bind fun x6 =>
(bin .neq .int x4 x6).bind fun x7 =>
cond x7 (
leave 0 lo [B false] H) (
(bin .add .int v5 (I 1)).bind fun x8 =>
L17_10 [v0, v1, x8] lo H)) (
leave 0 lo [B true] H)) := by
  show O.lab _ _ _ _ _ _ = _
  rw [O_lab]
  kernel_rfl
theorem f17_eq (a0 a1 : AV) : O.ent 17 [a0, a1] [] [] = (
(lenA .slice a0 []).bind fun x1 =>
(lenA .slice a1 []).bind fun x2 =>
(bin .neq .int x1 x2).bind fun x3 =>
cond x3 (
leave 0 [] [B false] []) (
L17_10 [a0, a1, I 0] [] [])) := by
  rw [O_ent]
  kernel_rfl
-- backstitch/hunt.Suspects
theorem f29_eq (a0 a1 a2 : AV) : O.ent 29 [a0, a1, a2] [] [] = (
(callA cfg O 59 [a0, a1, a2] [] []).bind fun r1 =>
(extractA r1.1 0).bind fun x2 =>
(extractA r1.1 1).bind fun x3 =>
(extractA r1.1 2).bind fun x4 =>
leave 0 [] [x3, x4] r1.2) := by
  rw [O_ent]
  kernel_rfl
-- backstitch/hunt.Pick
theorem f30_eq (a0 a1 a2 : AV) : O.ent 30 [a0, a1, a2] [] [] = (
(callA cfg O 59 [a0, a1, a2] [] []).bind fun r1 =>
(extractA r1.1 0).bind fun x2 =>
(extractA r1.1 1).bind fun x3 =>
(extractA r1.1 2).bind fun x4 =>
(bin .neq .int x4 (I 0)).bind fun x5 =>
cond x5 (
leave 0 [] [I 0, B false, x4] r1.2) (
(callA cfg O 60 [x2, x3, a1] [] r1.2).bind fun r6 =>
(bests true r6.1 [I 0]).bind fun x7 =>
(bin .geq .int r6.1 (I 0)).bind fun x8 =>
leave 0 [] [x7, x8, I 0] r6.2)) := by
  rw [O_ent]
  kernel_rfl
-- backstitch/backstitchlaw4.HuntTells$1
theorem f31_eq (a0 a1 : AV) (lo : List Nat) (H : Heap) : O.ent 31 [a0, a1] lo H = (
(ld false 1 a1 H).bind fun x1 =>
(lenA .slice x1 H).bind fun x2 =>
(bin .lss .int a0 x2).bind fun x3 =>
(gd x3 true (ld false 1 a1 H)).bind fun x4 =>
(gd x3 true (some a0)).bind fun x5 =>
(gd x3 true (idxA 1 x4 x5)).bind fun x6 =>
(gd x3 true (ld false 1 x6 H)).bind fun x7 =>
(pickA x3 x7 (B false)).bind fun x8 =>
leave 1 lo [x8] H) := by
  rw [O_ent]
  kernel_rfl
-- backstitch/hunt.Hunt
noncomputable def T32_11 : List It := labAt Try.prog cfg 32 11 (fun _ => none)
noncomputable def L32_11 (vals : List AV) (lo : List Nat) (H : Heap) : Res := O.lab 32 [1, 2, 3, 11, 12, 13] (T32_11) vals lo H
noncomputable def T32_20 : List It := labAt Try.prog cfg 32 20 (fun _ => none)
noncomputable def L32_20 (vals : List AV) (lo : List Nat) (H : Heap) : Res := O.lab 32 [1, 2, 3, 11, 14, 15] (T32_20) vals lo H
noncomputable def T32_33 : List It := labAt Try.prog cfg 32 33 (fun _ => none)
noncomputable def L32_33 (vals : List AV) (lo : List Nat) (H : Heap) : Res := O.lab 32 [1, 2, 3, 11, 14] (T32_33) vals lo H
theorem L32_11_eq (lo : List Nat) (v1 v2 v3 v11 v12 v13 : AV) (H : Heap) : L32_11 [v1, v2, v3, v11, v12, v13] lo H = (
(bin .neq .int v13 (I 0)).bind fun x1 =>
cond x1 (
leave 1 lo [I 0, I 0, v13] H) (
(callA cfg O 55 [v2] lo H).bind fun r2 =>
(callA cfg O 60 [v11, v12, v1] lo r2.2).bind fun r3 =>
L32_20 [v1, r2.1, v3, v11, I 0, r3.1] lo r3.2)) := by
  show O.lab _ _ _ _ _ _ = _
  rw [O_lab]
  kernel_rfl
theorem L32_20_eq (lo : List Nat) (v1 v2 v3 v11 v14 v15 : AV) (H : Heap) : L32_20 [v1, v2, v3, v11, v14, v15] lo H = (
(bin .geq .int v15 (I 0)).bind fun x1 =>
cond x1 (
(bin .add .int v14 (I 1)).bind fun x2 =>
(callV cfg O v3 [v15] lo H).bind fun r3 =>
cond r3.1 (
L32_33 [v15, v2, v3, v11, x2] lo r3.2) (
(litA false 1 [v15] r3.2).bind fun r4 =>
(appA 1 8 v2 r4.1 r4.2).bind fun r5 =>
L32_33 [v1, r5.1, v3, v11, x2] lo r5.2)) (
leave 1 lo [v1, v14, I 0] H)) := by
  show O.lab _ _ _ _ _ _ = _
  rw [O_lab]
  kernel_rfl
theorem L32_33_eq (lo : List Nat) (v1 v2 v3 v11 v14 : AV) (H : Heap) : L32_33 [v1, v2, v3, v11, v14] lo H = (
(callA cfg O 61 [v11, v1, v2] lo H).bind fun r1 =>
(callA cfg O 60 [v11, r1.1, v1] lo r1.2).bind fun r2 =>
L32_20 [v1, v2, v3, v11, v14, r2.1] lo r2.2) := by
  show O.lab _ _ _ _ _ _ = _
  rw [O_lab]
  kernel_rfl
theorem f32_eq (a0 a1 a2 a3 : AV) (lo : List Nat) (H : Heap) : O.ent 32 [a0, a1, a2, a3] lo H = (
(callA cfg O 59 [a0, a1, a2] lo H).bind fun r1 =>
(extractA r1.1 0).bind fun x2 =>
(extractA r1.1 1).bind fun x3 =>
(extractA r1.1 2).bind fun x4 =>
(bin .eql .int x4 (I 0)).bind fun x5 =>
(gd x5 true (some a3)).bind fun x6 =>
(gd x5 true (bin .eql .fn x6 (.p (.v .nilFunc)))).bind fun x7 =>
(pickA x5 x7 (B false)).bind fun x8 =>
cond x8 (
L32_11 [a1, a2, a3, x2, x3, I 8] lo r1.2) (
L32_11 [a1, a2, a3, x2, x3, x4] lo r1.2)) := by
  rw [O_ent]
  kernel_rfl
-- backstitch/backstitchref4.HuntErr
noncomputable def T33_11 : List It := labAt Try.prog cfg 33 11 (fun _ => none)
noncomputable def L33_11 (vals : List AV) (lo : List Nat) (H : Heap) : Res := O.lab 33 [7] (T33_11) vals lo H
theorem L33_11_eq (lo : List Nat) (v7 : AV) (H : Heap) : L33_11 [v7] lo H = (
leave 0 lo [v7] H) := by
  show O.lab _ _ _ _ _ _ = _
  rw [O_lab]
  kernel_rfl
theorem f33_eq (a0 a1 a2 : AV) : O.ent 33 [a0, a1, a2] [] [] = (
(litA false 1 [a1] []).bind fun r1 =>
(appA 1 8 r1.1 a2 r1.2).bind fun r2 =>
(callA cfg O 62 [a0, r2.1] [] r2.2).bind fun r3 =>
(bin .eql .int r3.1 (I 0)).bind fun x4 =>
(gd x4 true (some a0)).bind fun x5 =>
(gd x4 true (some a1)).bind fun x6 =>
(gd x4 true (some a1)).bind fun x7 =>
(gd x4 true (some a2)).bind fun x8 =>
(gdH x4 true (callA cfg O 34 [x5, x6, x7, x8] [] r3.2) r3.2).bind fun r9 =>
(gd x4 true (un .not r9.1)).bind fun x10 =>
(pickA x4 x10 (B false)).bind fun x11 =>
cond x11 (
L33_11 [I 8] [] r9.2) (
L33_11 [r3.1] [] r9.2)) := by
  rw [O_ent]
  kernel_rfl
-- backstitch/backstitchref4.IsSuspect
noncomputable def T34_10 : List It := labAt Try.prog cfg 34 10 (fun _ => none)
noncomputable def L34_10 (vals : List AV) (lo : List Nat) (H : Heap) : Res := O.lab 34 [0, 1, 3, 9] (T34_10) vals lo H
theorem L34_10_eq (lo : List Nat) (v0 v1 v3 v9 : AV) (H : Heap) : L34_10 [v0, v1, v3, v9] lo H = (
(lenA .slice v3 H).bind fun x1 =>
(bin .lss .int v9 x1).bind fun x2 =>
cond x2 (
(idxA 1 v3 v9).bind fun x3 =>
(ld false 1 x3 H).bind fun x4 =>
(callA cfg O 63 [v0, x4, v1] lo H).bind fun r5 =>
cond r5.1 (
leave 0 lo [B false] r5.2) (
(bin .add .int v9 (I 1)).bind fun x6 =>
L34_10 [v0, v1, v3, x6] lo r5.2)) (
leave 0 lo [B true] H)) := by
  show O.lab _ _ _ _ _ _ = _
  rw [O_lab]
  kernel_rfl
theorem f34_eq (a0 a1 a2 a3 : AV) : O.ent 34 [a0, a1, a2, a3] [] [] = (
(callA cfg O 63 [a0, a2, a1] [] []).bind fun r1 =>
(un .not r1.1).bind fun x2 =>
cond x2 (
leave 0 [] [B false] r1.2) (
L34_10 [a0, a1, a3, I 0] [] r1.2)) := by
  rw [O_ent]
  kernel_rfl
-- backstitch/backstitchref4.HuntPick
noncomputable def T35_8 : List It := labAt Try.prog cfg 35 8 (fun _ => none)
noncomputable def L35_8 (vals : List AV) (lo : List Nat) (H : Heap) : Res := O.lab 35 [0, 1, 2, 7, 8, 9] (T35_8) vals lo H
noncomputable def T35_11 : List It := labAt Try.prog cfg 35 11 (fun _ => none)
noncomputable def L35_11 (vals : List AV) (lo : List Nat) (H : Heap) : Res := O.lab 35 [0, 1, 2, 7, 8, 9] (T35_11) vals lo H
noncomputable def T35_18 : List It := labAt Try.prog cfg 35 18 (fun _ => none)
noncomputable def L35_18 (vals : List AV) (lo : List Nat) (H : Heap) : Res := O.lab 35 [0, 1, 2, 7, 8, 9, 10, 11, 12] (T35_18) vals lo H
noncomputable def T35_21 : List It := labAt Try.prog cfg 35 21 (fun _ => none)
noncomputable def L35_21 (vals : List AV) (lo : List Nat) (H : Heap) : Res := O.lab 35 [0, 1, 2, 7, 8, 9, 10, 11, 12] (T35_21) vals lo H
theorem L35_8_eq (lo : List Nat) (v0 v1 v2 v7 v8 v9 : AV) (H : Heap) : L35_8 [v0, v1, v2, v7, v8, v9] lo H = (
(lenA .slice v0 H).bind fun x1 =>
(bin .lss .int v9 x1).bind fun x2 =>
cond x2 (
(bin .eql .int v9 v1).bind fun x3 =>
(gd x3 false (some v0)).bind fun x4 =>
(gd x3 false (some v9)).bind fun x5 =>
(gd x3 false (some v1)).bind fun x6 =>
(gd x3 false (some v2)).bind fun x7 =>
(gdH x3 false (callA cfg O 34 [x4, x5, x6, x7] lo H) H).bind fun r8 =>
(gd x3 false (un .not r8.1)).bind fun x9 =>
(pickA x3 (B true) x9).bind fun x10 =>
cond x10 (
L35_11 [v0, v1, v2, v7, v8, v9] lo r8.2) (
L35_18 [v0, v1, v2, v7, v8, v9, I 0, I 0, I 0] lo r8.2)) (
leave 0 lo [v8] H)) := by
  show O.lab _ _ _ _ _ _ = _
  rw [O_lab]
  kernel_rfl
theorem L35_11_eq (lo : List Nat) (v0 v1 v2 v7 v8 v9 : AV) (H : Heap) : L35_11 [v0, v1, v2, v7, v8, v9] lo H = (
(bin .add .int v9 (I 1)).bind fun x1 =>
L35_8 [v0, v1, v2, v7, v8, x1] lo H) := by
  show O.lab _ _ _ _ _ _ = _
  rw [O_lab]
  kernel_rfl
theorem L35_18_eq (lo : List Nat) (v0 v1 v2 v7 v8 v9 v10 v11 v12 : AV) (H : Heap) : L35_18 [v0, v1, v2, v7, v8, v9, v10, v11, v12] lo H = (
(lenA .slice v0 H).bind fun x1 =>
(bin .lss .int v12 x1).bind fun x2 =>
cond x2 (
(callA cfg O 34 [v0, v12, v1, v2] lo H).bind fun r3 =>
cond r3.1 (
(callA cfg O 63 [v0, v9, v12] lo r3.2).bind fun r4 =>
cond r4.1 (
(bin .add .int v10 (I 1)).bind fun x5 =>
L35_21 [v0, v1, v2, v7, v8, v9, x5, v11, v12] lo r4.2) (
(bin .add .int v11 (I 1)).bind fun x6 =>
L35_21 [v0, v1, v2, v7, v8, v9, v10, x6, v12] lo r4.2)) (
L35_21 [v0, v1, v2, v7, v8, v9, v10, v11, v12] lo r3.2)) (
(bests false v10 [v11]).bind fun x7 =>
(bin .gtr .int x7 v7).bind fun x8 =>
cond x8 (
(bests false v10 [v11]).bind fun x9 =>
L35_11 [v0, v1, v2, x9, v9, v9] lo H) (
L35_11 [v0, v1, v2, v7, v8, v9] lo H))) := by
  show O.lab _ _ _ _ _ _ = _
  rw [O_lab]
  kernel_rfl
theorem L35_21_eq (lo : List Nat) (v0 v1 v2 v7 v8 v9 v10 v11 v12 : AV) (H : Heap) : L35_21 [v0, v1, v2, v7, v8, v9, v10, v11, v12] lo H = (
(bin .add .int v12 (I 1)).bind fun x1 =>
L35_18 [v0, v1, v2, v7, v8, v9, v10, v11, x1] lo H) := by
  show O.lab _ _ _ _ _ _ = _
  rw [O_lab]
  kernel_rfl
theorem f35_eq (a0 a1 a2 : AV) : O.ent 35 [a0, a1, a2] [] [] = (
L35_8 [a0, a1, a2, I (-1), I (-1), I 0] [] []) := by
  rw [O_ent]
  kernel_rfl
-- backstitch/hunt.asked
theorem f59_eq (a0 a1 a2 : AV) (lo : List Nat) (H : Heap) : O.ent 59 [a0, a1, a2] lo H = (
(callA cfg O 73 [a0, a1, a2] lo H).bind fun r1 =>
(extractA r1.1 0).bind fun x2 =>
(extractA r1.1 1).bind fun x3 =>
(bin .neq .int x3 (I 0)).bind fun x4 =>
cond x4 (
leave 1 lo [.p (.v (.pointer none)), .p nilS, x3] r1.2) (
(callA cfg O 61 [x2, a1, a2] lo r1.2).bind fun r5 =>
(callA cfg O 74 [r5.1, a1] lo r5.2).bind fun r6 =>
(un .not r6.1).bind fun x7 =>
cond x7 (
leave 1 lo [.p (.v (.pointer none)), .p nilS, I 8] r6.2) (
leave 1 lo [x2, r5.1, I 0] r6.2))) := by
  rw [O_ent]
  kernel_rfl
-- (*backstitch/hunt.hunter).pick
noncomputable def T60_8 : List It := labAt Try.prog cfg 60 8 (fun _ => none)
noncomputable def L60_8 (vals : List AV) (lo : List Nat) (H : Heap) : Res := O.lab 60 [0, 1, 2, 7, 8, 15, 16, 17] (T60_8) vals lo H
noncomputable def T60_33 : List It := labAt Try.prog cfg 60 33 (fun _ => none)
noncomputable def L60_33 (vals : List AV) (lo : List Nat) (H : Heap) : Res := O.lab 60 [0, 1, 2, 7, 8, 15, 16, 17] (T60_33) vals lo H
noncomputable def T60_16 : List It := labAt Try.prog cfg 60 16 (fun _ => none)
noncomputable def L60_16 (vals : List AV) (lo : List Nat) (H : Heap) : Res := O.lab 60 [0, 1, 2, 7, 8, 10, 11, 15, 16, 17, 27, 28, 29] (T60_16) vals lo H
noncomputable def T60_25 : List It := labAt Try.prog cfg 60 25 (fun _ => none)
noncomputable def L60_25 (vals : List AV) (lo : List Nat) (H : Heap) : Res := O.lab 60 [0, 1, 2, 7, 8, 10, 11, 15, 16, 17, 27, 28, 29] (T60_25) vals lo H
theorem L60_8_eq (lo : List Nat) (v0 v1 v2 v7 v8 v15 v16 v17 : AV) (H : Heap) : L60_8 [v0, v1, v2, v7, v8, v15, v16, v17] lo H = (
(bin .lss .int v17 v16).bind fun x1 =>
cond x1 (
(idxA 1 v15 v17).bind fun x2 =>
(ld false 1 x2 H).bind fun x3 =>
(nilCheckA v0).bind fun x4 =>
(fldA 0 x4).bind fun x5 =>
(ld false 1 x5 H).bind fun x6 =>
(idxA 1 x6 x3).bind fun x7 =>
(ld false 1 x7 H).bind fun x8 =>
(lenA .slice x8 H).bind fun x9 =>
L60_16 [v0, v1, v2, v7, v8, x3, I 0, v15, v16, v17, x8, x9, I 0] lo H) (
leave 1 lo [v8] H)) := by
  show O.lab _ _ _ _ _ _ = _
  rw [O_lab]
  kernel_rfl
theorem L60_33_eq (lo : List Nat) (v0 v1 v2 v7 v8 v15 v16 v17 : AV) (H : Heap) : L60_33 [v0, v1, v2, v7, v8, v15, v16, v17] lo H = (
(bin .add .int v17 (I 1)).bind fun x1 =>
L60_8 [v0, v1, v2, v7, v8, v15, v16, x1] lo H) := by
  show O.lab _ _ _ _ _ _ = _
  rw [O_lab]
  kernel_rfl
theorem L60_16_eq (lo : List Nat) (v0 v1 v2 v7 v8 v10 v11 v15 v16 v17 v27 v28 v29 : AV) (H : Heap) : L60_16 [v0, v1, v2, v7, v8, v10, v11, v15, v16, v17, v27, v28, v29] lo H = (
(bin .lss .int v29 v28).bind fun x1 =>
cond x1 (
(idxA 1 v27 v29).bind fun x2 =>
(ld false 1 x2 H).bind fun x3 =>
(callA cfg O 74 [v1, x3] lo H).bind fun r4 =>
cond r4.1 (
(bin .add .int v11 (I 1)).bind fun x5 =>
L60_25 [v0, v1, v2, v7, v8, v10, x5, v15, v16, v17, v27, v28, v29] lo r4.2) (
L60_25 [v0, v1, v2, v7, v8, v10, v11, v15, v16, v17, v27, v28, v29] lo r4.2)) (
(lenA .slice v1 H).bind fun x6 =>
(bin .sub .int x6 v11).bind fun x7 =>
(bests false v11 [x7]).bind fun x8 =>
(bin .neq .int v10 v2).bind fun x9 =>
(gd x9 true (some x8)).bind fun x10 =>
(gd x9 true (some v7)).bind fun x11 =>
(gd x9 true (bin .gtr .int x10 x11)).bind fun x12 =>
(pickA x9 x12 (B false)).bind fun x13 =>
cond x13 (
L60_33 [v0, v1, v2, x8, v10, v15, v16, v17] lo H) (
L60_33 [v0, v1, v2, v7, v8, v15, v16, v17] lo H))) := by
  show O.lab _ _ _ _ _ _ = _
  rw [O_lab]
  kernel_rfl
theorem L60_25_eq (lo : List Nat) (v0 v1 v2 v7 v8 v10 v11 v15 v16 v17 v27 v28 v29 : AV) (H : Heap) : L60_25 [v0, v1, v2, v7, v8, v10, v11, v15, v16, v17, v27, v28, v29] lo H = (
(bin .add .int v29 (I 1)).bind fun x1 =>
L60_16 [v0, v1, v2, v7, v8, v10, v11, v15, v16, v17, v27, v28, x1] lo H) := by
  show O.lab _ _ _ _ _ _ = _
  rw [O_lab]
  kernel_rfl
theorem f60_eq (a0 a1 a2 : AV) (lo : List Nat) (H : Heap) : O.ent 60 [a0, a1, a2] lo H = (
(lenA .slice a1 H).bind fun x1 =>
L60_8 [a0, a1, a2, I (-1), I (-1), a1, x1, I 0] lo H) := by
  rw [O_ent]
  kernel_rfl
-- slices.Clone[[]int,int]
theorem f55_eq (a0 : AV) (lo : List Nat) (H : Heap) : O.ent 55 [a0] lo H = (
(bin .eql .slice a0 (.p nilS)).bind fun x1 =>
cond x1 (
leave 1 lo [.p nilS] H) (
(litA false 1 [] H).bind fun r2 =>
(appA 1 8 r2.1 a0 r2.2).bind fun r3 =>
leave 1 lo [r3.1] r3.2)) := by
  rw [O_ent]
  kernel_rfl
-- (*backstitch/hunt.hunter).suspects
theorem f61_eq (a0 a1 a2 : AV) (lo : List Nat) (H : Heap) : O.ent 61 [a0, a1, a2] lo H = (
(boxO [] (AV.cells a0) H).bind fun r1 =>
(boxO [] (AV.cells a2) r1.2).bind fun r2 =>
(ld false 1 r1.1 r2.2).bind fun x3 =>
(nilCheckA x3).bind fun x4 =>
(fldA 0 x4).bind fun x5 =>
(ld false 1 x5 r2.2).bind fun x6 =>
(idxA 1 x6 a1).bind fun x7 =>
(ld false 1 x7 r2.2).bind fun x8 =>
(callA cfg O 55 [x8] lo r2.2).bind fun r9 =>
(callA cfg O 75 [r9.1, .fn 76 [] [r2.1, r1.1]] lo r9.2).bind fun r10 =>
leave 1 lo [r10.1] r10.2) := by
  rw [O_ent]
  kernel_rfl
-- backstitch/backstitchref4.SliceErr
noncomputable def T62_10 : List It := labAt Try.prog cfg 62 10 (fun _ => none)
noncomputable def L62_10 (vals : List AV) (lo : List Nat) (H : Heap) : Res := O.lab 62 [0, 1, 5] (T62_10) vals lo H
noncomputable def T62_16 : List It := labAt Try.prog cfg 62 16 (fun _ => none)
noncomputable def L62_16 (vals : List AV) (lo : List Nat) (H : Heap) : Res := O.lab 62 [0, 1, 5, 6] (T62_16) vals lo H
noncomputable def T62_26 : List It := labAt Try.prog cfg 62 26 (fun _ => none)
noncomputable def L62_26 (vals : List AV) (lo : List Nat) (H : Heap) : Res := O.lab 62 [0, 1, 7] (T62_26) vals lo H
theorem L62_10_eq (lo : List Nat) (v0 v1 v5 : AV) (H : Heap) : L62_10 [v0, v1, v5] lo H = (
(lenA .slice v0 H).bind fun x1 =>
(bin .lss .int v5 x1).bind fun x2 =>
cond x2 (
L62_16 [v0, v1, v5, I 0] lo H) (
L62_26 [v0, v1, I 0] lo H)) := by
  show O.lab _ _ _ _ _ _ = _
  rw [O_lab]
  kernel_rfl
theorem L62_16_eq (lo : List Nat) (v0 v1 v5 v6 : AV) (H : Heap) : L62_16 [v0, v1, v5, v6] lo H = (
(idxA 1 v0 v5).bind fun x1 =>
(fldA 0 x1).bind fun x2 =>
(ld false 1 x2 H).bind fun x3 =>
(lenA .slice x3 H).bind fun x4 =>
(bin .lss .int v6 x4).bind fun x5 =>
cond x5 (
(idxA 1 v0 v5).bind fun x6 =>
(fldA 0 x6).bind fun x7 =>
(ld false 1 x7 H).bind fun x8 =>
(idxA 1 x8 v6).bind fun x9 =>
(ld false 1 x9 H).bind fun x10 =>
(bin .sub .int v5 (I 1)).bind fun x11 =>
(callA cfg O 45 [x10, I 0, x11] lo H).bind fun r12 =>
(un .not r12.1).bind fun x13 =>
cond x13 (
leave 0 lo [I 3] r12.2) (
(bin .add .int v6 (I 1)).bind fun x14 =>
L62_16 [v0, v1, v5, x14] lo r12.2)) (
(bin .add .int v5 (I 1)).bind fun x15 =>
L62_10 [v0, v1, x15] lo H)) := by
  show O.lab _ _ _ _ _ _ = _
  rw [O_lab]
  kernel_rfl
theorem L62_26_eq (lo : List Nat) (v0 v1 v7 : AV) (H : Heap) : L62_26 [v0, v1, v7] lo H = (
(lenA .slice v1 H).bind fun x1 =>
(bin .lss .int v7 x1).bind fun x2 =>
cond x2 (
(idxA 1 v1 v7).bind fun x3 =>
(ld false 1 x3 H).bind fun x4 =>
(lenA .slice v0 H).bind fun x5 =>
(bin .sub .int x5 (I 1)).bind fun x6 =>
(callA cfg O 45 [x4, I 0, x6] lo H).bind fun r7 =>
(un .not r7.1).bind fun x8 =>
cond x8 (
leave 0 lo [I 1] r7.2) (
(bin .add .int v7 (I 1)).bind fun x9 =>
L62_26 [v0, v1, x9] lo r7.2)) (
leave 0 lo [I 0] H)) := by
  show O.lab _ _ _ _ _ _ = _
  rw [O_lab]
  kernel_rfl
theorem f62_eq (a0 a1 : AV) : O.ent 62 [a0, a1] [] [] = (
(lenA .slice a0 []).bind fun x1 =>
(bin .gtr .int x1 (I 200)).bind fun x2 =>
cond x2 (
leave 0 [] [I 2] []) (
L62_10 [a0, a1, I 0] [] [])) := by
  rw [O_ent]
  kernel_rfl
-- backstitch/backstitchref4.HangsOn
noncomputable def T63_8 : List It := labAt Try.prog cfg 63 8 (fun _ => none)
noncomputable def L63_8 (vals : List AV) (lo : List Nat) (H : Heap) : Res := O.lab 63 [0, 1, 2, 7, 8] (T63_8) vals lo H
noncomputable def T63_16 : List It := labAt Try.prog cfg 63 16 (fun _ => none)
noncomputable def L63_16 (vals : List AV) (lo : List Nat) (H : Heap) : Res := O.lab 63 [0, 1, 2, 7, 8, 9] (T63_16) vals lo H
noncomputable def T63_19 : List It := labAt Try.prog cfg 63 19 (fun _ => none)
noncomputable def L63_19 (vals : List AV) (lo : List Nat) (H : Heap) : Res := O.lab 63 [0, 1, 2, 7, 8, 9] (T63_19) vals lo H
theorem L63_8_eq (lo : List Nat) (v0 v1 v2 v7 v8 : AV) (H : Heap) : L63_8 [v0, v1, v2, v7, v8] lo H = (
(bin .leq .int v8 v1).bind fun x1 =>
cond x1 (
(bin .eql .int v8 v2).bind fun x2 =>
(idxA 1 v7 v8).bind fun x3 =>
((stA 1 x3 x2 lo H).map fun H' => (undefA, H')).bind fun r4 =>
L63_16 [v0, v1, v2, v7, v8, I 0] lo r4.2) (
(bin .leq .int v2 v1).bind fun x5 =>
(gd x5 true (some v7)).bind fun x6 =>
(gd x5 true (some v1)).bind fun x7 =>
(gd x5 true (idxA 1 x6 x7)).bind fun x8 =>
(gd x5 true (ld false 1 x8 H)).bind fun x9 =>
(pickA x5 x9 (B false)).bind fun x10 =>
leave 0 lo [x10] H)) := by
  show O.lab _ _ _ _ _ _ = _
  rw [O_lab]
  kernel_rfl
theorem L63_16_eq (lo : List Nat) (v0 v1 v2 v7 v8 v9 : AV) (H : Heap) : L63_16 [v0, v1, v2, v7, v8, v9] lo H = (
(idxA 1 v0 v8).bind fun x1 =>
(fldA 0 x1).bind fun x2 =>
(ld false 1 x2 H).bind fun x3 =>
(lenA .slice x3 H).bind fun x4 =>
(bin .lss .int v9 x4).bind fun x5 =>
cond x5 (
(idxA 1 v0 v8).bind fun x6 =>
(fldA 0 x6).bind fun x7 =>
(ld false 1 x7 H).bind fun x8 =>
(idxA 1 x8 v9).bind fun x9 =>
(ld false 1 x9 H).bind fun x10 =>
(bin .geq .int x10 v2).bind fun x11 =>
(gd x11 true (some v7)).bind fun x12 =>
(gd x11 true (some v0)).bind fun x13 =>
(gd x11 true (some v8)).bind fun x14 =>
(gd x11 true (idxA 1 x13 x14)).bind fun x15 =>
(gd x11 true (fldA 0 x15)).bind fun x16 =>
(gd x11 true (ld false 1 x16 H)).bind fun x17 =>
(gd x11 true (some v9)).bind fun x18 =>
(gd x11 true (idxA 1 x17 x18)).bind fun x19 =>
(gd x11 true (ld false 1 x19 H)).bind fun x20 =>
(gd x11 true (idxA 1 x12 x20)).bind fun x21 =>
(gd x11 true (ld false 1 x21 H)).bind fun x22 =>
(pickA x11 x22 (B false)).bind fun x23 =>
cond x23 (
(idxA 1 v7 v8).bind fun x24 =>
((stA 1 x24 (B true) lo H).map fun H' => (undefA, H')).bind fun r25 =>
L63_19 [v0, v1, v2, v7, v8, v9] lo r25.2) (
L63_19 [v0, v1, v2, v7, v8, v9] lo H)) (
(bin .add .int v8 (I 1)).bind fun x26 =>
L63_8 [v0, v1, v2, v7, x26] lo H)) := by
  show O.lab _ _ _ _ _ _ = _
  rw [O_lab]
  kernel_rfl
theorem L63_19_eq (lo : List Nat) (v0 v1 v2 v7 v8 v9 : AV) (H : Heap) : L63_19 [v0, v1, v2, v7, v8, v9] lo H = (
(bin .add .int v9 (I 1)).bind fun x1 =>
L63_16 [v0, v1, v2, v7, v8, x1] lo H) := by
  show O.lab _ _ _ _ _ _ = _
  rw [O_lab]
  kernel_rfl
theorem f63_eq (a0 a1 a2 : AV) : O.ent 63 [a0, a1, a2] [] [] = (
(lenA .slice a0 []).bind fun x1 =>
(mkRow 1 1 [(.v (.bool false))] x1 x1 []).bind fun r2 =>
L63_8 [a0, a1, a2, r2.1, a2] [] r2.2) := by
  rw [O_ent]
  kernel_rfl
-- backstitch/hunt.begin
noncomputable def T73_14 : List It := labAt Try.prog cfg 73 14 (fun _ => none)
noncomputable def L73_14 (vals : List AV) (lo : List Nat) (H : Heap) : Res := O.lab 73 [0, 2, 10, 28, 29] (T73_14) vals lo H
noncomputable def T73_26 : List It := labAt Try.prog cfg 73 26 (fun _ => none)
noncomputable def L73_26 (vals : List AV) (lo : List Nat) (H : Heap) : Res := O.lab 73 [0, 10, 49, 50, 51] (T73_26) vals lo H
theorem L73_14_eq (lo : List Nat) (v0 v2 v10 v28 v29 : AV) (H : Heap) : L73_14 [v0, v2, v10, v28, v29] lo H = (
(bin .lss .int v29 v28).bind fun x1 =>
cond x1 (
(callA cfg O 86 [v0, v29] lo H).bind fun r2 =>
(extractA r2.1 0).bind fun x3 =>
(extractA r2.1 1).bind fun x4 =>
(nilCheckA v10).bind fun x5 =>
(fldA 0 x5).bind fun x6 =>
(ld false 1 x6 r2.2).bind fun x7 =>
(litA false 1 [x3] r2.2).bind fun r8 =>
(appA 1 24 x7 r8.1 r8.2).bind fun r9 =>
(nilCheckA v10).bind fun x10 =>
(fldA 0 x10).bind fun x11 =>
((stA 1 x11 r9.1 lo r9.2).map fun H' => (undefA, H')).bind fun r12 =>
(bin .add .int v29 (I 1)).bind fun x13 =>
L73_14 [v0, v2, v10, v28, x13] lo r12.2) (
(lenA .slice v2 H).bind fun x14 =>
L73_26 [v0, v10, v2, x14, I 0] lo H)) := by
  show O.lab _ _ _ _ _ _ = _
  rw [O_lab]
  kernel_rfl
theorem L73_26_eq (lo : List Nat) (v0 v10 v49 v50 v51 : AV) (H : Heap) : L73_26 [v0, v10, v49, v50, v51] lo H = (
(bin .lss .int v51 v50).bind fun x1 =>
cond x1 (
(idxA 1 v49 v51).bind fun x2 =>
(ld false 1 x2 H).bind fun x3 =>
(bin .lss .int x3 (I 0)).bind fun x4 =>
(gd x4 false (some x3)).bind fun x5 =>
(gd x4 false (some v0)).bind fun x6 =>
(gd x4 false (lenA .slice x6 H)).bind fun x7 =>
(gd x4 false (bin .geq .int x5 x7)).bind fun x8 =>
(pickA x4 (B true) x8).bind fun x9 =>
cond x9 (
leave 1 lo [.p (.v (.pointer none)), I 1] H) (
(bin .add .int v51 (I 1)).bind fun x10 =>
L73_26 [v0, v10, v49, v50, x10] lo H)) (
leave 1 lo [v10, I 0] H)) := by
  show O.lab _ _ _ _ _ _ = _
  rw [O_lab]
  kernel_rfl
theorem f73_eq (a0 a1 a2 : AV) (lo : List Nat) (H : Heap) : O.ent 73 [a0, a1, a2] lo H = (
(callA cfg O 86 [a0, a1] lo H).bind fun r1 =>
(extractA r1.1 0).bind fun x2 =>
(extractA r1.1 1).bind fun x3 =>
(bin .neq .int x3 (I 0)).bind fun x4 =>
cond x4 (
leave 1 lo [.p (.v (.pointer none)), x3] r1.2) (
(buildA [(.p nilS)] []).bind fun x5 =>
(boxO [] (AV.cells x5) r1.2).bind fun r6 =>
(lenA .slice a0 r6.2).bind fun x7 =>
L73_14 [a0, a2, r6.1, x7, I 0] lo r6.2)) := by
  rw [O_ent]
  kernel_rfl
-- slices.Contains[[]int,int]
theorem f74_eq (a0 a1 : AV) : O.ent 74 [a0, a1] [] [] = (
(callA cfg O 87 [a0, a1] [] []).bind fun r1 =>
(bin .geq .int r1.1 (I 0)).bind fun x2 =>
leave 0 [] [x2] r1.2) := by
  rw [O_ent]
  kernel_rfl
-- slices.DeleteFunc[[]int,int]
noncomputable def T75_12 : List It := labAt Try.prog cfg 75 12 (fun _ => none)
noncomputable def L75_12 (vals : List AV) (lo : List Nat) (H : Heap) : Res := O.lab 75 [0, 1, 5, 6] (T75_12) vals lo H
noncomputable def T75_15 : List It := labAt Try.prog cfg 75 15 (fun _ => none)
noncomputable def L75_15 (vals : List AV) (lo : List Nat) (H : Heap) : Res := O.lab 75 [0, 1, 5, 6] (T75_15) vals lo H
theorem L75_12_eq (lo : List Nat) (v0 v1 v5 v6 : AV) (H : Heap) : L75_12 [v0, v1, v5, v6] lo H = (
(lenA .slice v0 H).bind fun x1 =>
(bin .lss .int v6 x1).bind fun x2 =>
cond x2 (
(idxA 1 v0 v6).bind fun x3 =>
(ld false 1 x3 H).bind fun x4 =>
(callV cfg O v1 [x4] lo H).bind fun r5 =>
(un .not r5.1).bind fun x6 =>
cond x6 (
(idxA 1 v0 v5).bind fun x7 =>
((stA 1 x7 x4 lo r5.2).map fun H' => (undefA, H')).bind fun r8 =>
(bin .add .int v5 (I 1)).bind fun x9 =>
L75_15 [v0, v1, x9, v6] lo r8.2) (
L75_15 [v0, v1, v5, v6] lo r5.2)) (
(cutA 1 v0 (some v5) none none H).bind fun x10 =>
((clearA 1 [(.v (.int .i64 0))] x10 H).map fun H' => (undefA, H')).bind fun r11 =>
(cutA 1 v0 none (some v5) none r11.2).bind fun x12 =>
leave 1 lo [x12] r11.2)) := by
  show O.lab _ _ _ _ _ _ = _
  rw [O_lab]
  kernel_rfl
theorem L75_15_eq (lo : List Nat) (v0 v1 v5 v6 : AV) (H : Heap) : L75_15 [v0, v1, v5, v6] lo H = (
(bin .add .int v6 (I 1)).bind fun x1 =>
L75_12 [v0, v1, v5, x1] lo H) := by
  show O.lab _ _ _ _ _ _ = _
  rw [O_lab]
  kernel_rfl
theorem f75_eq (a0 a1 : AV) (lo : List Nat) (H : Heap) : O.ent 75 [a0, a1] lo H = (
(callA cfg O 88 [a0, a1] lo H).bind fun r1 =>
(bin .eql .int r1.1 (I (-1))).bind fun x2 =>
cond x2 (
leave 1 lo [a0] r1.2) (
(bin .add .int r1.1 (I 1)).bind fun x3 =>
L75_12 [a0, a1, r1.1, x3] lo r1.2)) := by
  rw [O_ent]
  kernel_rfl
-- (*backstitch/hunt.hunter).suspects$1
theorem f76_eq (a0 a1 a2 : AV) (lo : List Nat) (H : Heap) : O.ent 76 [a0, a1, a2] lo H = (
(boxO [] (AV.cells a0) H).bind fun r1 =>
(ld false 1 a1 r1.2).bind fun x2 =>
(callA cfg O 77 [x2, .fn 78 [] [a2, r1.1]] lo r1.2).bind fun r3 =>
leave 1 lo [r3.1] r3.2) := by
  rw [O_ent]
  kernel_rfl
-- backstitch/backstitchref4.between
theorem f45_eq (a0 a1 a2 : AV) : O.ent 45 [a0, a1, a2] [] [] = (
(bin .geq .int a0 a1).bind fun x1 =>
(gd x1 true (some a0)).bind fun x2 =>
(gd x1 true (some a2)).bind fun x3 =>
(gd x1 true (bin .leq .int x2 x3)).bind fun x4 =>
(pickA x1 x4 (B false)).bind fun x5 =>
leave 0 [] [x5] []) := by
  rw [O_ent]
  kernel_rfl
-- backstitch/slice.Back
theorem f86_eq (a0 a1 : AV) : O.ent 86 [a0, a1] [] [] = (
(litA false 1 [a1] []).bind fun r1 =>
(callA cfg O 91 [a0, r1.1] [] r1.2).bind fun r2 =>
(bin .neq .int r2.1 (I 0)).bind fun x3 =>
cond x3 (
leave 0 [] [.p nilS, r2.1] r2.2) (
(lenA .slice a0 r2.2).bind fun x4 =>
(callA cfg O 93 [a0, a1] [] r2.2).bind fun r5 =>
(litA false 1 [r5.1] r5.2).bind fun r6 =>
(callA cfg O 92 [x4, r6.1] [] r6.2).bind fun r7 =>
leave 0 [] [r7.1, I 0] r7.2)) := by
  rw [O_ent]
  kernel_rfl
-- slices.Index[[]int,int]
noncomputable def T87_6 : List It := labAt Try.prog cfg 87 6 (fun _ => none)
noncomputable def L87_6 (vals : List AV) (lo : List Nat) (H : Heap) : Res := O.lab 87 [0, 1, 7, 8] (T87_6) vals lo H
theorem L87_6_eq (lo : List Nat) (v0 v1 v7 v8 : AV) (H : Heap) : L87_6 [v0, v1, v7, v8] lo H = (
(bin .lss .int v8 v7).bind fun x1 =>
cond x1 (
(idxA 1 v0 v8).bind fun x2 =>
(ld false 1 x2 H).bind fun x3 =>
(bin .eql .int v1 x3).bind fun x4 =>
cond x4 (
leave 0 lo [v8] H) (
(bin .add .int v8 (I 1)).bind fun x5 =>
L87_6 [v0, v1, v7, x5] lo H)) (
leave 0 lo [I (-1)] H)) := by
  show O.lab _ _ _ _ _ _ = _
  rw [O_lab]
  kernel_rfl
theorem f87_eq (a0 a1 : AV) : O.ent 87 [a0, a1] [] [] = (
(lenA .slice a0 []).bind fun x1 =>
L87_6 [a0, a1, x1, I 0] [] []) := by
  rw [O_ent]
  kernel_rfl
-- slices.IndexFunc[[]int,int]
noncomputable def T88_6 : List It := labAt Try.prog cfg 88 6 (fun _ => none)
noncomputable def L88_6 (vals : List AV) (lo : List Nat) (H : Heap) : Res := O.lab 88 [0, 1, 7, 8] (T88_6) vals lo H
theorem L88_6_eq (lo : List Nat) (v0 v1 v7 v8 : AV) (H : Heap) : L88_6 [v0, v1, v7, v8] lo H = (
(bin .lss .int v8 v7).bind fun x1 =>
cond x1 (
(idxA 1 v0 v8).bind fun x2 =>
(ld false 1 x2 H).bind fun x3 =>
(callV cfg O v1 [x3] lo H).bind fun r4 =>
cond r4.1 (
leave 1 lo [v8] r4.2) (
(bin .add .int v8 (I 1)).bind fun x5 =>
L88_6 [v0, v1, v7, x5] lo r4.2)) (
leave 1 lo [I (-1)] H)) := by
  show O.lab _ _ _ _ _ _ = _
  rw [O_lab]
  kernel_rfl
theorem f88_eq (a0 a1 : AV) (lo : List Nat) (H : Heap) : O.ent 88 [a0, a1] lo H = (
(lenA .slice a0 H).bind fun x1 =>
L88_6 [a0, a1, x1, I 0] lo H) := by
  rw [O_ent]
  kernel_rfl
-- slices.ContainsFunc[[]int,int]
theorem f77_eq (a0 a1 : AV) (lo : List Nat) (H : Heap) : O.ent 77 [a0, a1] lo H = (
(callA cfg O 88 [a0, a1] lo H).bind fun r1 =>
(bin .geq .int r1.1 (I 0)).bind fun x2 =>
leave 1 lo [x2] r1.2) := by
  rw [O_ent]
  kernel_rfl
-- (*backstitch/hunt.hunter).suspects$1$1
theorem f78_eq (a0 a1 a2 : AV) (lo : List Nat) (H : Heap) : O.ent 78 [a0, a1, a2] lo H = (
(ld false 1 a1 H).bind fun x1 =>
(nilCheckA x1).bind fun x2 =>
(fldA 0 x2).bind fun x3 =>
(ld false 1 x3 H).bind fun x4 =>
(idxA 1 x4 a0).bind fun x5 =>
(ld false 1 x5 H).bind fun x6 =>
(ld false 1 a2 H).bind fun x7 =>
(callA cfg O 74 [x6, x7] lo H).bind fun r8 =>
leave 1 lo [r8.1] r8.2) := by
  rw [O_ent]
  kernel_rfl
-- backstitch/slice.check
noncomputable def T91_10 : List It := labAt Try.prog cfg 91 10 (fun _ => none)
noncomputable def L91_10 (vals : List AV) (lo : List Nat) (H : Heap) : Res := O.lab 91 [0, 1, 12, 13, 14] (T91_10) vals lo H
noncomputable def T91_22 : List It := labAt Try.prog cfg 91 22 (fun _ => none)
noncomputable def L91_22 (vals : List AV) (lo : List Nat) (H : Heap) : Res := O.lab 91 [0, 24, 25, 26] (T91_22) vals lo H
theorem L91_10_eq (lo : List Nat) (v0 v1 v12 v13 v14 : AV) (H : Heap) : L91_10 [v0, v1, v12, v13, v14] lo H = (
(bin .lss .int v14 v13).bind fun x1 =>
cond x1 (
(idxA 1 v12 v14).bind fun x2 =>
(ld true 1 x2 H).bind fun x3 =>
(boxO [] [(I 0)] H).bind fun r4 =>
(boxO [] [(.p nilS)] r4.2).bind fun r5 =>
((stA 1 r4.1 v14 lo r5.2).map fun H' => (undefA, H')).bind fun r6 =>
((stA 1 r5.1 x3 lo r6.2).map fun H' => (undefA, H')).bind fun r7 =>
(fldA 0 r5.1).bind fun x8 =>
(ld false 1 x8 r7.2).bind fun x9 =>
(callA cfg O 77 [x9, .fn 95 [] [r4.1]] lo r7.2).bind fun r10 =>
cond r10.1 (
leave 0 lo [I 3] r10.2) (
(bin .add .int v14 (I 1)).bind fun x11 =>
L91_10 [v0, v1, v12, v13, x11] lo r10.2)) (
(lenA .slice v1 H).bind fun x12 =>
L91_22 [v0, v1, x12, I 0] lo H)) := by
  show O.lab _ _ _ _ _ _ = _
  rw [O_lab]
  kernel_rfl
theorem L91_22_eq (lo : List Nat) (v0 v24 v25 v26 : AV) (H : Heap) : L91_22 [v0, v24, v25, v26] lo H = (
(bin .lss .int v26 v25).bind fun x1 =>
cond x1 (
(idxA 1 v24 v26).bind fun x2 =>
(ld false 1 x2 H).bind fun x3 =>
(bin .lss .int x3 (I 0)).bind fun x4 =>
(gd x4 false (some x3)).bind fun x5 =>
(gd x4 false (some v0)).bind fun x6 =>
(gd x4 false (lenA .slice x6 H)).bind fun x7 =>
(gd x4 false (bin .geq .int x5 x7)).bind fun x8 =>
(pickA x4 (B true) x8).bind fun x9 =>
cond x9 (
leave 0 lo [I 1] H) (
(bin .add .int v26 (I 1)).bind fun x10 =>
L91_22 [v0, v24, v25, x10] lo H)) (
leave 0 lo [I 0] H)) := by
  show O.lab _ _ _ _ _ _ = _
  rw [O_lab]
  kernel_rfl
theorem f91_eq (a0 a1 : AV) : O.ent 91 [a0, a1] [] [] = (
(lenA .slice a0 []).bind fun x1 =>
(bin .gtr .int x1 (I 200)).bind fun x2 =>
cond x2 (
leave 0 [] [I 2] []) (
(lenA .slice a0 []).bind fun x3 =>
L91_10 [a0, a1, a0, x3, I 0] [] [])) := by
  rw [O_ent]
  kernel_rfl
-- backstitch/slice.listed
noncomputable def T92_6 : List It := labAt Try.prog cfg 92 6 (fun _ => none)
noncomputable def L92_6 (vals : List AV) (lo : List Nat) (H : Heap) : Res := O.lab 92 [1, 4, 6, 7] (T92_6) vals lo H
noncomputable def T92_15 : List It := labAt Try.prog cfg 92 15 (fun _ => none)
noncomputable def L92_15 (vals : List AV) (lo : List Nat) (H : Heap) : Res := O.lab 92 [1, 4, 6, 7] (T92_15) vals lo H
theorem L92_6_eq (lo : List Nat) (v1 v4 v6 v7 : AV) (H : Heap) : L92_6 [v1, v4, v6, v7] lo H = (
(bin .lss .int v7 v6).bind fun x1 =>
cond x1 (
(boxO [] [(I 0)] H).bind fun r2 =>
((stA 1 r2.1 v7 lo r2.2).map fun H' => (undefA, H')).bind fun r3 =>
(callA cfg O 96 [v1, .fn 97 [] [r2.1]] lo r3.2).bind fun r4 =>
(un .not r4.1).bind fun x5 =>
cond x5 (
(ld false 1 r2.1 r4.2).bind fun x6 =>
(litA false 1 [x6] r4.2).bind fun r7 =>
(appA 1 8 v4 r7.1 r7.2).bind fun r8 =>
L92_15 [v1, r8.1, v6, v7] lo r8.2) (
L92_15 [v1, v4, v6, v7] lo r4.2)) (
leave 0 lo [v4] H)) := by
  show O.lab _ _ _ _ _ _ = _
  rw [O_lab]
  kernel_rfl
theorem L92_15_eq (lo : List Nat) (v1 v4 v6 v7 : AV) (H : Heap) : L92_15 [v1, v4, v6, v7] lo H = (
(bin .add .int v7 (I 1)).bind fun x1 =>
L92_6 [v1, v4, v6, x1] lo H) := by
  show O.lab _ _ _ _ _ _ = _
  rw [O_lab]
  kernel_rfl
theorem f92_eq (a0 a1 : AV) : O.ent 92 [a0, a1] [] [] = (
L92_6 [a1, .p nilS, a0, I 0] [] []) := by
  rw [O_ent]
  kernel_rfl
-- backstitch/slice.back
noncomputable def T93_10 : List It := labAt Try.prog cfg 93 10 (fun _ => none)
noncomputable def L93_10 (vals : List AV) (lo : List Nat) (H : Heap) : Res := O.lab 93 [0, 5, 6] (T93_10) vals lo H
noncomputable def T93_13 : List It := labAt Try.prog cfg 93 13 (fun _ => none)
noncomputable def L93_13 (vals : List AV) (lo : List Nat) (H : Heap) : Res := O.lab 93 [0, 5, 6] (T93_13) vals lo H
noncomputable def T93_18 : List It := labAt Try.prog cfg 93 18 (fun _ => none)
noncomputable def L93_18 (vals : List AV) (lo : List Nat) (H : Heap) : Res := O.lab 93 [0, 5, 6, 29, 30, 31] (T93_18) vals lo H
theorem L93_10_eq (lo : List Nat) (v0 v5 v6 : AV) (H : Heap) : L93_10 [v0, v5, v6] lo H = (
(bin .geq .int v6 (I 0)).bind fun x1 =>
cond x1 (
(idxA 1 v5 v6).bind fun x2 =>
(ld false 1 x2 H).bind fun x3 =>
(un .not x3).bind fun x4 =>
cond x4 (
L93_13 [v0, v5, v6] lo H) (
(idxA 1 v0 v6).bind fun x5 =>
(fldA 0 x5).bind fun x6 =>
(ld false 1 x6 H).bind fun x7 =>
(lenA .slice x7 H).bind fun x8 =>
L93_18 [v0, v5, v6, x7, x8, I 0] lo H)) (
leave 0 lo [v5] H)) := by
  show O.lab _ _ _ _ _ _ = _
  rw [O_lab]
  kernel_rfl
theorem L93_13_eq (lo : List Nat) (v0 v5 v6 : AV) (H : Heap) : L93_13 [v0, v5, v6] lo H = (
(bin .sub .int v6 (I 1)).bind fun x1 =>
L93_10 [v0, v5, x1] lo H) := by
  show O.lab _ _ _ _ _ _ = _
  rw [O_lab]
  kernel_rfl
theorem L93_18_eq (lo : List Nat) (v0 v5 v6 v29 v30 v31 : AV) (H : Heap) : L93_18 [v0, v5, v6, v29, v30, v31] lo H = (
(bin .lss .int v31 v30).bind fun x1 =>
cond x1 (
(idxA 1 v29 v31).bind fun x2 =>
(ld false 1 x2 H).bind fun x3 =>
(idxA 1 v5 x3).bind fun x4 =>
((stA 1 x4 (B true) lo H).map fun H' => (undefA, H')).bind fun r5 =>
(bin .add .int v31 (I 1)).bind fun x6 =>
L93_18 [v0, v5, v6, v29, v30, x6] lo r5.2) (
L93_13 [v0, v5, v6] lo H)) := by
  show O.lab _ _ _ _ _ _ = _
  rw [O_lab]
  kernel_rfl
theorem f93_eq (a0 a1 : AV) : O.ent 93 [a0, a1] [] [] = (
(lenA .slice a0 []).bind fun x1 =>
(mkRow 1 1 [(.v (.bool false))] x1 x1 []).bind fun r2 =>
(idxA 1 r2.1 a1).bind fun x3 =>
((stA 1 x3 (B true) [] r2.2).map fun H' => (undefA, H')).bind fun r4 =>
L93_10 [a0, r2.1, a1] [] r4.2) := by
  rw [O_ent]
  kernel_rfl
-- backstitch/slice.check$1
theorem f95_eq (a0 a1 : AV) (lo : List Nat) (H : Heap) : O.ent 95 [a0, a1] lo H = (
(bin .lss .int a0 (I 0)).bind fun x1 =>
(gd x1 false (some a0)).bind fun x2 =>
(gd x1 false (ld false 1 a1 H)).bind fun x3 =>
(gd x1 false (bin .geq .int x2 x3)).bind fun x4 =>
(pickA x1 (B true) x4).bind fun x5 =>
leave 1 lo [x5] H) := by
  rw [O_ent]
  kernel_rfl
-- slices.ContainsFunc[[][]bool,[]bool]
theorem f96_eq (a0 a1 : AV) (lo : List Nat) (H : Heap) : O.ent 96 [a0, a1] lo H = (
(callA cfg O 98 [a0, a1] lo H).bind fun r1 =>
(bin .geq .int r1.1 (I 0)).bind fun x2 =>
leave 1 lo [x2] r1.2) := by
  rw [O_ent]
  kernel_rfl
-- backstitch/slice.listed$1
theorem f97_eq (a0 a1 : AV) (lo : List Nat) (H : Heap) : O.ent 97 [a0, a1] lo H = (
(ld false 1 a1 H).bind fun x1 =>
(idxA 1 a0 x1).bind fun x2 =>
(ld false 1 x2 H).bind fun x3 =>
(un .not x3).bind fun x4 =>
leave 1 lo [x4] H) := by
  rw [O_ent]
  kernel_rfl
-- slices.IndexFunc[[][]bool,[]bool]
noncomputable def T98_6 : List It := labAt Try.prog cfg 98 6 (fun _ => none)
noncomputable def L98_6 (vals : List AV) (lo : List Nat) (H : Heap) : Res := O.lab 98 [0, 1, 7, 8] (T98_6) vals lo H
theorem L98_6_eq (lo : List Nat) (v0 v1 v7 v8 : AV) (H : Heap) : L98_6 [v0, v1, v7, v8] lo H = (
(bin .lss .int v8 v7).bind fun x1 =>
cond x1 (
(idxA 1 v0 v8).bind fun x2 =>
(ld false 1 x2 H).bind fun x3 =>
(callV cfg O v1 [x3] lo H).bind fun r4 =>
cond r4.1 (
leave 1 lo [v8] r4.2) (
(bin .add .int v8 (I 1)).bind fun x5 =>
L98_6 [v0, v1, v7, x5] lo r4.2)) (
leave 1 lo [I (-1)] H)) := by
  show O.lab _ _ _ _ _ _ = _
  rw [O_lab]
  kernel_rfl
theorem f98_eq (a0 a1 : AV) (lo : List Nat) (H : Heap) : O.ent 98 [a0, a1] lo H = (
(lenA .slice a0 H).bind fun x1 =>
L98_6 [a0, a1, x1, I 0] lo H) := by
  rw [O_ent]
  kernel_rfl
end Go.Proofs.Ytfdkacaocngfkaa
