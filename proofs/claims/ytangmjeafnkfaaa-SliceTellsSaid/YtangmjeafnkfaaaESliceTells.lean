import Derived.Test.YtangmjeafnkfaaaCf
set_option linter.unusedVariables false
set_option maxRecDepth 100000
namespace Go.Proofs.Ytangmjeafnkfaaa
open Go Go.AM
-- backstitch/backstitchlaw4.SliceTells
noncomputable def T10_9 : List It := labAt Try.prog cfg 10 9 (fun _ => none)
noncomputable def L10_9 (vals : List AV) (lo : List Nat) (H : Heap) : Res := O.lab 10 [0, 1, 2] (T10_9) vals lo H
noncomputable def T10_20 : List It := labAt Try.prog cfg 10 20 (fun _ => none)
noncomputable def L10_20 (vals : List AV) (lo : List Nat) (H : Heap) : Res := O.lab 10 [0, 1, 2, 7, 8, 9, 10, 11, 12, 13, 14, 15, 16, 17, 18] (T10_20) vals lo H
noncomputable def T10_23 : List It := labAt Try.prog cfg 10 23 (fun _ => none)
noncomputable def L10_23 (vals : List AV) (lo : List Nat) (H : Heap) : Res := O.lab 10 [0, 1, 2, 7, 8, 9, 10, 11, 12, 13, 14, 15, 16, 17, 18] (T10_23) vals lo H
noncomputable def T10_29 : List It := labAt Try.prog cfg 10 29 (fun _ => none)
noncomputable def L10_29 (vals : List AV) (lo : List Nat) (H : Heap) : Res := O.lab 10 [0, 1, 2, 7, 8, 9, 10, 11, 12, 13, 14, 15, 16, 17, 18] (T10_29) vals lo H
noncomputable def T10_33 : List It := labAt Try.prog cfg 10 33 (fun _ => none)
noncomputable def L10_33 (vals : List AV) (lo : List Nat) (H : Heap) : Res := O.lab 10 [0, 1, 2, 7, 8, 9, 10, 11, 12, 13, 14, 15, 16, 17, 18] (T10_33) vals lo H
theorem L10_9_eq (lo : List Nat) (v0 v1 v2 : AV) (H : Heap) : L10_9 [v0, v1, v2] lo H = (
(callA cfg O 43 [v0, v1] lo H).bind fun r1 =>
(extractA r1.1 0).bind fun x2 =>
(extractA r1.1 1).bind fun x3 =>
(callA cfg O 44 [v0, v1] lo r1.2).bind fun r4 =>
(extractA r4.1 0).bind fun x5 =>
(extractA r4.1 1).bind fun x6 =>
(callA cfg O 45 [v0, v1, v2] lo r4.2).bind fun r7 =>
(extractA r7.1 0).bind fun x8 =>
(extractA r7.1 1).bind fun x9 =>
(litA false 1 [v1] r7.2).bind fun r10 =>
(callA cfg O 46 [v0, r10.1] lo r10.2).bind fun r11 =>
(litA false 1 [v1, v2] r11.2).bind fun r12 =>
(callA cfg O 46 [v0, r12.1] lo r12.2).bind fun r13 =>
L10_20 [v0, v1, v2, x2, x3, x5, x6, x8, x9, r11.1, r13.1, .p nilS, .p nilS, .p nilS, I 0] lo r13.2) := by
  show O.lab _ _ _ _ _ _ = _
  rw [O_lab]
  kernel_rfl
theorem L10_20_eq (lo : List Nat) (v0 v1 v2 v7 v8 v9 v10 v11 v12 v13 v14 v15 v16 v17 v18 : AV) (H : Heap) : L10_20 [v0, v1, v2, v7, v8, v9, v10, v11, v12, v13, v14, v15, v16, v17, v18] lo H = (
(lenA .slice v0 H).bind fun x1 =>
(bin .lss .int v18 x1).bind fun x2 =>
(gd x2 true (some v13)).bind fun x3 =>
(gd x2 true (bin .eql .int x3 (I 0))).bind fun x4 =>
(pickA x2 x4 (B false)).bind fun x5 =>
cond x5 (
(callA cfg O 47 [v0, v1, v18] lo H).bind fun r6 =>
cond r6.1 (
(litA false 1 [v18] r6.2).bind fun r7 =>
(appA 1 8 v15 r7.1 r7.2).bind fun r8 =>
L10_29 [v0, v1, v2, v7, v8, v9, v10, v11, v12, v13, v14, r8.1, v16, v17, v18] lo r8.2) (
L10_29 [v0, v1, v2, v7, v8, v9, v10, v11, v12, v13, v14, v15, v16, v17, v18] lo r6.2)) (
(callA cfg O 17 [v7, v15] lo H).bind fun r9 =>
(gd r9.1 true (some v8)).bind fun x10 =>
(gd r9.1 true (some v13)).bind fun x11 =>
(gd r9.1 true (bin .eql .int x10 x11)).bind fun x12 =>
(pickA r9.1 x12 (B false)).bind fun x13 =>
(gd x13 true (some v9)).bind fun x14 =>
(gd x13 true (some v16)).bind fun x15 =>
(gdH x13 true (callA cfg O 17 [x14, x15] lo r9.2) r9.2).bind fun r16 =>
(pickA x13 r16.1 (B false)).bind fun x17 =>
(gd x17 true (some v10)).bind fun x18 =>
(gd x17 true (some v13)).bind fun x19 =>
(gd x17 true (bin .eql .int x18 x19)).bind fun x20 =>
(pickA x17 x20 (B false)).bind fun x21 =>
(gd x21 true (some v11)).bind fun x22 =>
(gd x21 true (some v17)).bind fun x23 =>
(gdH x21 true (callA cfg O 17 [x22, x23] lo r16.2) r16.2).bind fun r24 =>
(pickA x21 r24.1 (B false)).bind fun x25 =>
(gd x25 true (some v12)).bind fun x26 =>
(gd x25 true (some v14)).bind fun x27 =>
(gd x25 true (bin .eql .int x26 x27)).bind fun x28 =>
(pickA x25 x28 (B false)).bind fun x29 =>
leave 0 lo [x29] r24.2)) := by
  show O.lab _ _ _ _ _ _ = _
  rw [O_lab]
  kernel_rfl
theorem L10_23_eq (lo : List Nat) (v0 v1 v2 v7 v8 v9 v10 v11 v12 v13 v14 v15 v16 v17 v18 : AV) (H : Heap) : L10_23 [v0, v1, v2, v7, v8, v9, v10, v11, v12, v13, v14, v15, v16, v17, v18] lo H = (
(bin .add .int v18 (I 1)).bind fun x1 =>
L10_20 [v0, v1, v2, v7, v8, v9, v10, v11, v12, v13, v14, v15, v16, v17, x1] lo H) := by
  show O.lab _ _ _ _ _ _ = _
  rw [O_lab]
  kernel_rfl
theorem L10_29_eq (lo : List Nat) (v0 v1 v2 v7 v8 v9 v10 v11 v12 v13 v14 v15 v16 v17 v18 : AV) (H : Heap) : L10_29 [v0, v1, v2, v7, v8, v9, v10, v11, v12, v13, v14, v15, v16, v17, v18] lo H = (
(callA cfg O 47 [v0, v18, v1] lo H).bind fun r1 =>
cond r1.1 (
(litA false 1 [v18] r1.2).bind fun r2 =>
(appA 1 8 v16 r2.1 r2.2).bind fun r3 =>
L10_33 [v0, v1, v2, v7, v8, v9, v10, v11, v12, v13, v14, v15, r3.1, v17, v18] lo r3.2) (
L10_33 [v0, v1, v2, v7, v8, v9, v10, v11, v12, v13, v14, v15, v16, v17, v18] lo r1.2)) := by
  show O.lab _ _ _ _ _ _ = _
  rw [O_lab]
  kernel_rfl
theorem L10_33_eq (lo : List Nat) (v0 v1 v2 v7 v8 v9 v10 v11 v12 v13 v14 v15 v16 v17 v18 : AV) (H : Heap) : L10_33 [v0, v1, v2, v7, v8, v9, v10, v11, v12, v13, v14, v15, v16, v17, v18] lo H = (
(bin .eql .int v14 (I 0)).bind fun x1 =>
(gd x1 true (some v0)).bind fun x2 =>
(gd x1 true (some v18)).bind fun x3 =>
(gd x1 true (some v1)).bind fun x4 =>
(gdH x1 true (callA cfg O 47 [x2, x3, x4] lo H) H).bind fun r5 =>
(pickA x1 r5.1 (B false)).bind fun x6 =>
(gd x6 true (some v0)).bind fun x7 =>
(gd x6 true (some v2)).bind fun x8 =>
(gd x6 true (some v18)).bind fun x9 =>
(gdH x6 true (callA cfg O 47 [x7, x8, x9] lo r5.2) r5.2).bind fun r10 =>
(pickA x6 r10.1 (B false)).bind fun x11 =>
cond x11 (
(litA false 1 [v18] r10.2).bind fun r12 =>
(appA 1 8 v17 r12.1 r12.2).bind fun r13 =>
L10_23 [v0, v1, v2, v7, v8, v9, v10, v11, v12, v13, v14, v15, v16, r13.1, v18] lo r13.2) (
L10_23 [v0, v1, v2, v7, v8, v9, v10, v11, v12, v13, v14, v15, v16, v17, v18] lo r10.2)) := by
  show O.lab _ _ _ _ _ _ = _
  rw [O_lab]
  kernel_rfl
theorem f10_eq (a0 a1 a2 : AV) : O.ent 10 [a0, a1, a2] [] [] = (
(lenA .slice a0 []).bind fun x1 =>
(bin .leq .int x1 (I 200)).bind fun x2 =>
cond x2 (
(lenA .slice a0 []).bind fun x3 =>
(bests false x3 [I 40]).bind fun x4 =>
(cutA 1 a0 none (some x4) none []).bind fun x5 =>
L10_9 [x5, a1, a2] [] []) (
L10_9 [a0, a1, a2] [] [])) := by
  rw [O_ent]
  kernel_rfl
-- backstitch/slice.Back
theorem f43_eq (a0 a1 : AV) : O.ent 43 [a0, a1] [] [] = (
(litA false 1 [a1] []).bind fun r1 =>
(callA cfg O 97 [a0, r1.1] [] r1.2).bind fun r2 =>
(bin .neq .int r2.1 (I 0)).bind fun x3 =>
cond x3 (
leave 0 [] [.p nilS, r2.1] r2.2) (
(lenA .slice a0 r2.2).bind fun x4 =>
(callA cfg O 99 [a0, a1] [] r2.2).bind fun r5 =>
(litA false 1 [r5.1] r5.2).bind fun r6 =>
(callA cfg O 98 [x4, r6.1] [] r6.2).bind fun r7 =>
leave 0 [] [r7.1, I 0] r7.2)) := by
  rw [O_ent]
  kernel_rfl
-- backstitch/slice.On
theorem f44_eq (a0 a1 : AV) : O.ent 44 [a0, a1] [] [] = (
(litA false 1 [a1] []).bind fun r1 =>
(callA cfg O 97 [a0, r1.1] [] r1.2).bind fun r2 =>
(bin .neq .int r2.1 (I 0)).bind fun x3 =>
cond x3 (
leave 0 [] [.p nilS, r2.1] r2.2) (
(lenA .slice a0 r2.2).bind fun x4 =>
(callA cfg O 100 [a0, a1] [] r2.2).bind fun r5 =>
(litA false 1 [r5.1] r5.2).bind fun r6 =>
(callA cfg O 98 [x4, r6.1] [] r6.2).bind fun r7 =>
leave 0 [] [r7.1, I 0] r7.2)) := by
  rw [O_ent]
  kernel_rfl
-- backstitch/slice.Chop
theorem f45_eq (a0 a1 a2 : AV) : O.ent 45 [a0, a1, a2] [] [] = (
(litA false 1 [a1, a2] []).bind fun r1 =>
(callA cfg O 97 [a0, r1.1] [] r1.2).bind fun r2 =>
(bin .neq .int r2.1 (I 0)).bind fun x3 =>
cond x3 (
leave 0 [] [.p nilS, r2.1] r2.2) (
(lenA .slice a0 r2.2).bind fun x4 =>
(callA cfg O 100 [a0, a1] [] r2.2).bind fun r5 =>
(callA cfg O 99 [a0, a2] [] r5.2).bind fun r6 =>
(litA false 1 [r5.1, r6.1] r6.2).bind fun r7 =>
(callA cfg O 98 [x4, r7.1] [] r7.2).bind fun r8 =>
leave 0 [] [r8.1, I 0] r8.2)) := by
  rw [O_ent]
  kernel_rfl
-- backstitch/backstitchref4.SliceErr
noncomputable def T46_10 : List It := labAt Try.prog cfg 46 10 (fun _ => none)
noncomputable def L46_10 (vals : List AV) (lo : List Nat) (H : Heap) : Res := O.lab 46 [0, 1, 5] (T46_10) vals lo H
noncomputable def T46_16 : List It := labAt Try.prog cfg 46 16 (fun _ => none)
noncomputable def L46_16 (vals : List AV) (lo : List Nat) (H : Heap) : Res := O.lab 46 [0, 1, 5, 6] (T46_16) vals lo H
noncomputable def T46_26 : List It := labAt Try.prog cfg 46 26 (fun _ => none)
noncomputable def L46_26 (vals : List AV) (lo : List Nat) (H : Heap) : Res := O.lab 46 [0, 1, 7] (T46_26) vals lo H
theorem L46_10_eq (lo : List Nat) (v0 v1 v5 : AV) (H : Heap) : L46_10 [v0, v1, v5] lo H = (
(lenA .slice v0 H).bind fun x1 =>
(bin .lss .int v5 x1).bind fun x2 =>
cond x2 (
L46_16 [v0, v1, v5, I 0] lo H) (
L46_26 [v0, v1, I 0] lo H)) := by
  show O.lab _ _ _ _ _ _ = _
  rw [O_lab]
  kernel_rfl
theorem L46_16_eq (lo : List Nat) (v0 v1 v5 v6 : AV) (H : Heap) : L46_16 [v0, v1, v5, v6] lo H = (
(idxA 1 v0 v5).bind fun x1 =>
(fldA 0 x1).bind fun x2 =>
(ld false 1 x2 H).bind fun x3 =>
(lenA .slice x3 H).bind fun x4 =>
(bin .lss .int v6 x4).bind fun x5 =>
cond x5 (
(idxA 1 v0 v5).bind fun x6 =>
(fldA 0 x6).bind fun x7 =>
(ld false 1 x7 H).bind fun x8 =>
(idxA 1 x8 v6).bind fun x9 =>
(ld false 1 x9 H).bind fun x10 =>
(bin .sub .int v5 (I 1)).bind fun x11 =>
(callA cfg O 61 [x10, I 0, x11] lo H).bind fun r12 =>
(un .not r12.1).bind fun x13 =>
cond x13 (
leave 0 lo [I 3] r12.2) (
(bin .add .int v6 (I 1)).bind fun x14 =>
L46_16 [v0, v1, v5, x14] lo r12.2)) (
(bin .add .int v5 (I 1)).bind fun x15 =>
L46_10 [v0, v1, x15] lo H)) := by
  show O.lab _ _ _ _ _ _ = _
  rw [O_lab]
  kernel_rfl
theorem L46_26_eq (lo : List Nat) (v0 v1 v7 : AV) (H : Heap) : L46_26 [v0, v1, v7] lo H = (
(lenA .slice v1 H).bind fun x1 =>
(bin .lss .int v7 x1).bind fun x2 =>
cond x2 (
(idxA 1 v1 v7).bind fun x3 =>
(ld false 1 x3 H).bind fun x4 =>
(lenA .slice v0 H).bind fun x5 =>
(bin .sub .int x5 (I 1)).bind fun x6 =>
(callA cfg O 61 [x4, I 0, x6] lo H).bind fun r7 =>
(un .not r7.1).bind fun x8 =>
cond x8 (
leave 0 lo [I 1] r7.2) (
(bin .add .int v7 (I 1)).bind fun x9 =>
L46_26 [v0, v1, x9] lo r7.2)) (
leave 0 lo [I 0] H)) := by
  show O.lab _ _ _ _ _ _ = _
  rw [O_lab]
  kernel_rfl
theorem f46_eq (a0 a1 : AV) : O.ent 46 [a0, a1] [] [] = (
(lenA .slice a0 []).bind fun x1 =>
(bin .gtr .int x1 (I 200)).bind fun x2 =>
cond x2 (
leave 0 [] [I 2] []) (
L46_10 [a0, a1, I 0] [] [])) := by
  rw [O_ent]
  kernel_rfl
-- backstitch/backstitchref4.HangsOn
noncomputable def T47_8 : List It := labAt Try.prog cfg 47 8 (fun _ => none)
noncomputable def L47_8 (vals : List AV) (lo : List Nat) (H : Heap) : Res := O.lab 47 [0, 1, 2, 7, 8] (T47_8) vals lo H
noncomputable def T47_16 : List It := labAt Try.prog cfg 47 16 (fun _ => none)
noncomputable def L47_16 (vals : List AV) (lo : List Nat) (H : Heap) : Res := O.lab 47 [0, 1, 2, 7, 8, 9] (T47_16) vals lo H
noncomputable def T47_19 : List It := labAt Try.prog cfg 47 19 (fun _ => none)
noncomputable def L47_19 (vals : List AV) (lo : List Nat) (H : Heap) : Res := O.lab 47 [0, 1, 2, 7, 8, 9] (T47_19) vals lo H
theorem L47_8_eq (lo : List Nat) (v0 v1 v2 v7 v8 : AV) (H : Heap) : L47_8 [v0, v1, v2, v7, v8] lo H = (
(bin .leq .int v8 v1).bind fun x1 =>
cond x1 (
(bin .eql .int v8 v2).bind fun x2 =>
(idxA 1 v7 v8).bind fun x3 =>
((stA 1 x3 x2 lo H).map fun H' => (undefA, H')).bind fun r4 =>
L47_16 [v0, v1, v2, v7, v8, I 0] lo r4.2) (
(bin .leq .int v2 v1).bind fun x5 =>
(gd x5 true (some v7)).bind fun x6 =>
(gd x5 true (some v1)).bind fun x7 =>
(gd x5 true (idxA 1 x6 x7)).bind fun x8 =>
(gd x5 true (ld false 1 x8 H)).bind fun x9 =>
(pickA x5 x9 (B false)).bind fun x10 =>
leave 0 lo [x10] H)) := by
  show O.lab _ _ _ _ _ _ = _
  rw [O_lab]
  kernel_rfl
theorem L47_16_eq (lo : List Nat) (v0 v1 v2 v7 v8 v9 : AV) (H : Heap) : L47_16 [v0, v1, v2, v7, v8, v9] lo H = (
(idxA 1 v0 v8).bind fun x1 =>
(fldA 0 x1).bind fun x2 =>
(ld false 1 x2 H).bind fun x3 =>
(lenA .slice x3 H).bind fun x4 =>
(bin .lss .int v9 x4).bind fun x5 =>
cond x5 (
(idxA 1 v0 v8).bind fun x6 =>
(fldA 0 x6).bind fun x7 =>
(ld false 1 x7 H).bind fun x8 =>
(idxA 1 x8 v9).bind fun x9 =>
(ld false 1 x9 H).bind fun x10 =>
(bin .geq .int x10 v2).bind fun x11 =>
(gd x11 true (some v7)).bind fun x12 =>
(gd x11 true (some v0)).bind fun x13 =>
(gd x11 true (some v8)).bind fun x14 =>
(gd x11 true (idxA 1 x13 x14)).bind fun x15 =>
(gd x11 true (fldA 0 x15)).bind fun x16 =>
(gd x11 true (ld false 1 x16 H)).bind fun x17 =>
(gd x11 true (some v9)).bind fun x18 =>
(gd x11 true (idxA 1 x17 x18)).bind fun x19 =>
(gd x11 true (ld false 1 x19 H)).bind fun x20 =>
(gd x11 true (idxA 1 x12 x20)).bind fun x21 =>
(gd x11 true (ld false 1 x21 H)).bind fun x22 =>
(pickA x11 x22 (B false)).bind fun x23 =>
cond x23 (
(idxA 1 v7 v8).bind fun x24 =>
((stA 1 x24 (B true) lo H).map fun H' => (undefA, H')).bind fun r25 =>
L47_19 [v0, v1, v2, v7, v8, v9] lo r25.2) (
L47_19 [v0, v1, v2, v7, v8, v9] lo H)) (
(bin .add .int v8 (I 1)).bind fun x26 =>
L47_8 [v0, v1, v2, v7, x26] lo H)) := by
  show O.lab _ _ _ _ _ _ = _
  rw [O_lab]
  kernel_rfl
theorem L47_19_eq (lo : List Nat) (v0 v1 v2 v7 v8 v9 : AV) (H : Heap) : L47_19 [v0, v1, v2, v7, v8, v9] lo H = (
(bin .add .int v9 (I 1)).bind fun x1 =>
L47_16 [v0, v1, v2, v7, v8, x1] lo H) := by
  show O.lab _ _ _ _ _ _ = _
  rw [O_lab]
  kernel_rfl
theorem f47_eq (a0 a1 a2 : AV) : O.ent 47 [a0, a1, a2] [] [] = (
(lenA .slice a0 []).bind fun x1 =>
(mkRow 1 1 [(.v (.bool false))] x1 x1 []).bind fun r2 =>
L47_8 [a0, a1, a2, r2.1, a2] [] r2.2) := by
  rw [O_ent]
  kernel_rfl
-- backstitch/slice.check
noncomputable def T97_10 : List It := labAt Try.prog cfg 97 10 (fun _ => none)
noncomputable def L97_10 (vals : List AV) (lo : List Nat) (H : Heap) : Res := O.lab 97 [0, 1, 12, 13, 14] (T97_10) vals lo H
noncomputable def T97_22 : List It := labAt Try.prog cfg 97 22 (fun _ => none)
noncomputable def L97_22 (vals : List AV) (lo : List Nat) (H : Heap) : Res := O.lab 97 [0, 24, 25, 26] (T97_22) vals lo H
theorem L97_10_eq (lo : List Nat) (v0 v1 v12 v13 v14 : AV) (H : Heap) : L97_10 [v0, v1, v12, v13, v14] lo H = (
(bin .lss .int v14 v13).bind fun x1 =>
cond x1 (
(idxA 1 v12 v14).bind fun x2 =>
(ld true 1 x2 H).bind fun x3 =>
(boxO [] [(I 0)] H).bind fun r4 =>
(boxO [] [(.p nilS)] r4.2).bind fun r5 =>
((stA 1 r4.1 v14 lo r5.2).map fun H' => (undefA, H')).bind fun r6 =>
((stA 1 r5.1 x3 lo r6.2).map fun H' => (undefA, H')).bind fun r7 =>
(fldA 0 r5.1).bind fun x8 =>
(ld false 1 x8 r7.2).bind fun x9 =>
(callA cfg O 122 [x9, .fn 136 [] [r4.1]] lo r7.2).bind fun r10 =>
cond r10.1 (
leave 0 lo [I 3] r10.2) (
(bin .add .int v14 (I 1)).bind fun x11 =>
L97_10 [v0, v1, v12, v13, x11] lo r10.2)) (
(lenA .slice v1 H).bind fun x12 =>
L97_22 [v0, v1, x12, I 0] lo H)) := by
  show O.lab _ _ _ _ _ _ = _
  rw [O_lab]
  kernel_rfl
theorem L97_22_eq (lo : List Nat) (v0 v24 v25 v26 : AV) (H : Heap) : L97_22 [v0, v24, v25, v26] lo H = (
(bin .lss .int v26 v25).bind fun x1 =>
cond x1 (
(idxA 1 v24 v26).bind fun x2 =>
(ld false 1 x2 H).bind fun x3 =>
(bin .lss .int x3 (I 0)).bind fun x4 =>
(gd x4 false (some x3)).bind fun x5 =>
(gd x4 false (some v0)).bind fun x6 =>
(gd x4 false (lenA .slice x6 H)).bind fun x7 =>
(gd x4 false (bin .geq .int x5 x7)).bind fun x8 =>
(pickA x4 (B true) x8).bind fun x9 =>
cond x9 (
leave 0 lo [I 1] H) (
(bin .add .int v26 (I 1)).bind fun x10 =>
L97_22 [v0, v24, v25, x10] lo H)) (
leave 0 lo [I 0] H)) := by
  show O.lab _ _ _ _ _ _ = _
  rw [O_lab]
  kernel_rfl
theorem f97_eq (a0 a1 : AV) : O.ent 97 [a0, a1] [] [] = (
(lenA .slice a0 []).bind fun x1 =>
(bin .gtr .int x1 (I 200)).bind fun x2 =>
cond x2 (
leave 0 [] [I 2] []) (
(lenA .slice a0 []).bind fun x3 =>
L97_10 [a0, a1, a0, x3, I 0] [] [])) := by
  rw [O_ent]
  kernel_rfl
-- backstitch/slice.listed
noncomputable def T98_6 : List It := labAt Try.prog cfg 98 6 (fun _ => none)
noncomputable def L98_6 (vals : List AV) (lo : List Nat) (H : Heap) : Res := O.lab 98 [1, 4, 6, 7] (T98_6) vals lo H
noncomputable def T98_15 : List It := labAt Try.prog cfg 98 15 (fun _ => none)
noncomputable def L98_15 (vals : List AV) (lo : List Nat) (H : Heap) : Res := O.lab 98 [1, 4, 6, 7] (T98_15) vals lo H
theorem L98_6_eq (lo : List Nat) (v1 v4 v6 v7 : AV) (H : Heap) : L98_6 [v1, v4, v6, v7] lo H = (
(bin .lss .int v7 v6).bind fun x1 =>
cond x1 (
(boxO [] [(I 0)] H).bind fun r2 =>
((stA 1 r2.1 v7 lo r2.2).map fun H' => (undefA, H')).bind fun r3 =>
(callA cfg O 137 [v1, .fn 138 [] [r2.1]] lo r3.2).bind fun r4 =>
(un .not r4.1).bind fun x5 =>
cond x5 (
(ld false 1 r2.1 r4.2).bind fun x6 =>
(litA false 1 [x6] r4.2).bind fun r7 =>
(appA 1 8 v4 r7.1 r7.2).bind fun r8 =>
L98_15 [v1, r8.1, v6, v7] lo r8.2) (
L98_15 [v1, v4, v6, v7] lo r4.2)) (
leave 0 lo [v4] H)) := by
  show O.lab _ _ _ _ _ _ = _
  rw [O_lab]
  kernel_rfl
theorem L98_15_eq (lo : List Nat) (v1 v4 v6 v7 : AV) (H : Heap) : L98_15 [v1, v4, v6, v7] lo H = (
(bin .add .int v7 (I 1)).bind fun x1 =>
L98_6 [v1, v4, v6, x1] lo H) := by
  show O.lab _ _ _ _ _ _ = _
  rw [O_lab]
  kernel_rfl
theorem f98_eq (a0 a1 : AV) : O.ent 98 [a0, a1] [] [] = (
L98_6 [a1, .p nilS, a0, I 0] [] []) := by
  rw [O_ent]
  kernel_rfl
-- backstitch/slice.back
noncomputable def T99_10 : List It := labAt Try.prog cfg 99 10 (fun _ => none)
noncomputable def L99_10 (vals : List AV) (lo : List Nat) (H : Heap) : Res := O.lab 99 [0, 5, 6] (T99_10) vals lo H
noncomputable def T99_13 : List It := labAt Try.prog cfg 99 13 (fun _ => none)
noncomputable def L99_13 (vals : List AV) (lo : List Nat) (H : Heap) : Res := O.lab 99 [0, 5, 6] (T99_13) vals lo H
noncomputable def T99_18 : List It := labAt Try.prog cfg 99 18 (fun _ => none)
noncomputable def L99_18 (vals : List AV) (lo : List Nat) (H : Heap) : Res := O.lab 99 [0, 5, 6, 29, 30, 31] (T99_18) vals lo H
theorem L99_10_eq (lo : List Nat) (v0 v5 v6 : AV) (H : Heap) : L99_10 [v0, v5, v6] lo H = (
(bin .geq .int v6 (I 0)).bind fun x1 =>
cond x1 (
(idxA 1 v5 v6).bind fun x2 =>
(ld false 1 x2 H).bind fun x3 =>
(un .not x3).bind fun x4 =>
cond x4 (
L99_13 [v0, v5, v6] lo H) (
(idxA 1 v0 v6).bind fun x5 =>
(fldA 0 x5).bind fun x6 =>
(ld false 1 x6 H).bind fun x7 =>
(lenA .slice x7 H).bind fun x8 =>
L99_18 [v0, v5, v6, x7, x8, I 0] lo H)) (
leave 0 lo [v5] H)) := by
  show O.lab _ _ _ _ _ _ = _
  rw [O_lab]
  kernel_rfl
theorem L99_13_eq (lo : List Nat) (v0 v5 v6 : AV) (H : Heap) : L99_13 [v0, v5, v6] lo H = (
(bin .sub .int v6 (I 1)).bind fun x1 =>
L99_10 [v0, v5, x1] lo H) := by
  show O.lab _ _ _ _ _ _ = _
  rw [O_lab]
  kernel_rfl
theorem L99_18_eq (lo : List Nat) (v0 v5 v6 v29 v30 v31 : AV) (H : Heap) : L99_18 [v0, v5, v6, v29, v30, v31] lo H = (
(bin .lss .int v31 v30).bind fun x1 =>
cond x1 (
(idxA 1 v29 v31).bind fun x2 =>
(ld false 1 x2 H).bind fun x3 =>
(idxA 1 v5 x3).bind fun x4 =>
((stA 1 x4 (B true) lo H).map fun H' => (undefA, H')).bind fun r5 =>
(bin .add .int v31 (I 1)).bind fun x6 =>
L99_18 [v0, v5, v6, v29, v30, x6] lo r5.2) (
L99_13 [v0, v5, v6] lo H)) := by
  show O.lab _ _ _ _ _ _ = _
  rw [O_lab]
  kernel_rfl
theorem f99_eq (a0 a1 : AV) : O.ent 99 [a0, a1] [] [] = (
(lenA .slice a0 []).bind fun x1 =>
(mkRow 1 1 [(.v (.bool false))] x1 x1 []).bind fun r2 =>
(idxA 1 r2.1 a1).bind fun x3 =>
((stA 1 x3 (B true) [] r2.2).map fun H' => (undefA, H')).bind fun r4 =>
L99_10 [a0, r2.1, a1] [] r4.2) := by
  rw [O_ent]
  kernel_rfl
-- backstitch/slice.on
noncomputable def T100_10 : List It := labAt Try.prog cfg 100 10 (fun _ => none)
noncomputable def L100_10 (vals : List AV) (lo : List Nat) (H : Heap) : Res := O.lab 100 [0, 5, 6] (T100_10) vals lo H
theorem L100_10_eq (lo : List Nat) (v0 v5 v6 : AV) (H : Heap) : L100_10 [v0, v5, v6] lo H = (
(lenA .slice v0 H).bind fun x1 =>
(bin .lss .int v6 x1).bind fun x2 =>
cond x2 (
(ld false 1 v5 H).bind fun x3 =>
(idxA 1 v0 v6).bind fun x4 =>
(fldA 0 x4).bind fun x5 =>
(ld false 1 x5 H).bind fun x6 =>
(callA cfg O 122 [x6, .fn 139 [] [v5]] lo H).bind fun r7 =>
(idxA 1 x3 v6).bind fun x8 =>
((stA 1 x8 r7.1 lo r7.2).map fun H' => (undefA, H')).bind fun r9 =>
(bin .add .int v6 (I 1)).bind fun x10 =>
L100_10 [v0, v5, x10] lo r9.2) (
(ld false 1 v5 H).bind fun x11 =>
leave 0 lo [x11] H)) := by
  show O.lab _ _ _ _ _ _ = _
  rw [O_lab]
  kernel_rfl
theorem f100_eq (a0 a1 : AV) : O.ent 100 [a0, a1] [] [] = (
(lenA .slice a0 []).bind fun x1 =>
(mkRow 1 1 [(.v (.bool false))] x1 x1 []).bind fun r2 =>
(boxO [] [(.p nilS)] r2.2).bind fun r3 =>
((stA 1 r3.1 r2.1 [] r3.2).map fun H' => (undefA, H')).bind fun r4 =>
(ld false 1 r3.1 r4.2).bind fun x5 =>
(idxA 1 x5 a1).bind fun x6 =>
((stA 1 x6 (B true) [] r4.2).map fun H' => (undefA, H')).bind fun r7 =>
(bin .add .int a1 (I 1)).bind fun x8 =>
L100_10 [a0, r3.1, x8] [] r7.2) := by
  rw [O_ent]
  kernel_rfl
-- backstitch/slice.check$1
theorem f136_eq (a0 a1 : AV) (lo : List Nat) (H : Heap) : O.ent 136 [a0, a1] lo H = (
(bin .lss .int a0 (I 0)).bind fun x1 =>
(gd x1 false (some a0)).bind fun x2 =>
(gd x1 false (ld false 1 a1 H)).bind fun x3 =>
(gd x1 false (bin .geq .int x2 x3)).bind fun x4 =>
(pickA x1 (B true) x4).bind fun x5 =>
leave 1 lo [x5] H) := by
  rw [O_ent]
  kernel_rfl
-- slices.ContainsFunc[[][]bool,[]bool]
theorem f137_eq (a0 a1 : AV) (lo : List Nat) (H : Heap) : O.ent 137 [a0, a1] lo H = (
(callA cfg O 151 [a0, a1] lo H).bind fun r1 =>
(bin .geq .int r1.1 (I 0)).bind fun x2 =>
leave 1 lo [x2] r1.2) := by
  rw [O_ent]
  kernel_rfl
-- backstitch/slice.listed$1
theorem f138_eq (a0 a1 : AV) (lo : List Nat) (H : Heap) : O.ent 138 [a0, a1] lo H = (
(ld false 1 a1 H).bind fun x1 =>
(idxA 1 a0 x1).bind fun x2 =>
(ld false 1 x2 H).bind fun x3 =>
(un .not x3).bind fun x4 =>
leave 1 lo [x4] H) := by
  rw [O_ent]
  kernel_rfl
-- backstitch/slice.on$1
theorem f139_eq (a0 a1 : AV) (lo : List Nat) (H : Heap) : O.ent 139 [a0, a1] lo H = (
(ld false 1 a1 H).bind fun x1 =>
(idxA 1 x1 a0).bind fun x2 =>
(ld false 1 x2 H).bind fun x3 =>
leave 1 lo [x3] H) := by
  rw [O_ent]
  kernel_rfl
-- slices.IndexFunc[[][]bool,[]bool]
noncomputable def T151_6 : List It := labAt Try.prog cfg 151 6 (fun _ => none)
noncomputable def L151_6 (vals : List AV) (lo : List Nat) (H : Heap) : Res := O.lab 151 [0, 1, 7, 8] (T151_6) vals lo H
theorem L151_6_eq (lo : List Nat) (v0 v1 v7 v8 : AV) (H : Heap) : L151_6 [v0, v1, v7, v8] lo H = (
(bin .lss .int v8 v7).bind fun x1 =>
cond x1 (
(idxA 1 v0 v8).bind fun x2 =>
(ld false 1 x2 H).bind fun x3 =>
(callV cfg O v1 [x3] lo H).bind fun r4 =>
cond r4.1 (
leave 1 lo [v8] r4.2) (
(bin .add .int v8 (I 1)).bind fun x5 =>
L151_6 [v0, v1, v7, x5] lo r4.2)) (
leave 1 lo [I (-1)] H)) := by
  show O.lab _ _ _ _ _ _ = _
  rw [O_lab]
  kernel_rfl
theorem f151_eq (a0 a1 : AV) (lo : List Nat) (H : Heap) : O.ent 151 [a0, a1] lo H = (
(lenA .slice a0 H).bind fun x1 =>
L151_6 [a0, a1, x1, I 0] lo H) := by
  rw [O_ent]
  kernel_rfl
end Go.Proofs.Ytangmjeafnkfaaa
