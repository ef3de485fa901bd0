import Derived.Test.YtkhbbjfdbbnojaaCf
set_option linter.unusedVariables false
set_option maxRecDepth 100000
namespace Go.Proofs.Ytkhbbjfdbbnojaa
open Go Go.AM
-- backstitch/backstitchlaw4.LockupOrders
noncomputable def T10_9 : List It := labAt Try.prog cfg 10 9 (fun _ => none)
noncomputable def L10_9 (vals : List AV) (lo : List Nat) (H : Heap) : Res := O.lab 10 [0] (T10_9) vals lo H
noncomputable def T10_16 : List It := labAt Try.prog cfg 10 16 (fun _ => none)
noncomputable def L10_16 (vals : List AV) (lo : List Nat) (H : Heap) : Res := O.lab 10 [0, 3, 4, 5] (T10_16) vals lo H
noncomputable def T10_26 : List It := labAt Try.prog cfg 10 26 (fun _ => none)
noncomputable def L10_26 (vals : List AV) (lo : List Nat) (H : Heap) : Res := O.lab 10 [0, 3, 4, 6] (T10_26) vals lo H
noncomputable def T10_32 : List It := labAt Try.prog cfg 10 32 (fun _ => none)
noncomputable def L10_32 (vals : List AV) (lo : List Nat) (H : Heap) : Res := O.lab 10 [0, 3, 4, 6, 7] (T10_32) vals lo H
noncomputable def T10_35 : List It := labAt Try.prog cfg 10 35 (fun _ => none)
noncomputable def L10_35 (vals : List AV) (lo : List Nat) (H : Heap) : Res := O.lab 10 [0, 3, 4, 6, 7] (T10_35) vals lo H
noncomputable def T10_42 : List It := labAt Try.prog cfg 10 42 (fun _ => none)
noncomputable def L10_42 (vals : List AV) (lo : List Nat) (H : Heap) : Res := O.lab 10 [0, 3, 4, 6, 7, 8, 9] (T10_42) vals lo H
theorem L10_9_eq (lo : List Nat) (v0 : AV) (H : Heap) : L10_9 [v0] lo H = (
(callA cfg O 65 [v0] lo H).bind fun r1 =>
(extractA r1.1 0).bind fun x2 =>
(extractA r1.1 1).bind fun x3 =>
(lenA .slice v0 r1.2).bind fun x4 =>
(bin .gtr .int x4 (I 200)).bind fun x5 =>
cond x5 (
(lenA .slice x2 r1.2).bind fun x6 =>
(bin .eql .int x6 (I 0)).bind fun x7 =>
(gd x7 true (some x3)).bind fun x8 =>
(gd x7 true (bin .eql .int x8 (I 2))).bind fun x9 =>
(pickA x7 x9 (B false)).bind fun x10 =>
leave 0 lo [x10] r1.2) (
L10_16 [v0, x2, x3, I 0] lo r1.2)) := by
  show O.lab _ _ _ _ _ _ = _
  rw [O_lab]
  kernel_rfl
theorem L10_16_eq (lo : List Nat) (v0 v3 v4 v5 : AV) (H : Heap) : L10_16 [v0, v3, v4, v5] lo H = (
(lenA .slice v3 H).bind fun x1 =>
(bin .lss .int v5 x1).bind fun x2 =>
cond x2 (
(bin .gtr .int v5 (I 0)).bind fun x3 =>
(gd x3 true (some v3)).bind fun x4 =>
(gd x3 true (some v5)).bind fun x5 =>
(gd x3 true (idxA 2 x4 x5)).bind fun x6 =>
(gd x3 true (fldA 0 x6)).bind fun x7 =>
(gd x3 true (ld false 1 x7 H)).bind fun x8 =>
(gd x3 true (some v3)).bind fun x9 =>
(gd x3 true (some v5)).bind fun x10 =>
(gd x3 true (bin .sub .int x10 (I 1))).bind fun x11 =>
(gd x3 true (idxA 2 x9 x11)).bind fun x12 =>
(gd x3 true (fldA 0 x12)).bind fun x13 =>
(gd x3 true (ld false 1 x13 H)).bind fun x14 =>
(gd x3 true (bin .lss .int x8 x14)).bind fun x15 =>
(gd x3 true (some x15)).bind fun x16 =>
(gd x16 false (some v3)).bind fun x17 =>
(gd x16 false (some v5)).bind fun x18 =>
(gd x16 false (idxA 2 x17 x18)).bind fun x19 =>
(gd x16 false (fldA 0 x19)).bind fun x20 =>
(gd x16 false (ld false 1 x20 H)).bind fun x21 =>
(gd x16 false (some v3)).bind fun x22 =>
(gd x16 false (some v5)).bind fun x23 =>
(gd x16 false (bin .sub .int x23 (I 1))).bind fun x24 =>
(gd x16 false (idxA 2 x22 x24)).bind fun x25 =>
(gd x16 false (fldA 0 x25)).bind fun x26 =>
(gd x16 false (ld false 1 x26 H)).bind fun x27 =>
(gd x16 false (bin .eql .int x21 x27)).bind fun x28 =>
(gd x16 false (some x28)).bind fun x29 =>
(gd x29 true (some v3)).bind fun x30 =>
(gd x29 true (some v5)).bind fun x31 =>
(gd x29 true (idxA 2 x30 x31)).bind fun x32 =>
(gd x29 true (fldA 1 x32)).bind fun x33 =>
(gd x29 true (ld false 1 x33 H)).bind fun x34 =>
(gd x29 true (some v3)).bind fun x35 =>
(gd x29 true (some v5)).bind fun x36 =>
(gd x29 true (bin .sub .int x36 (I 1))).bind fun x37 =>
(gd x29 true (idxA 2 x35 x37)).bind fun x38 =>
(gd x29 true (fldA 1 x38)).bind fun x39 =>
(gd x29 true (ld false 1 x39 H)).bind fun x40 =>
(gd x29 true (bin .leq .int x34 x40)).bind fun x41 =>
(gd x16 false (pickA x29 x41 (B false))).bind fun x42 =>
(gd x3 true (pickA x16 (B true) x42)).bind fun x43 =>
(pickA x3 x43 (B false)).bind fun x44 =>
(gd x44 false (some v0)).bind fun x45 =>
(gd x44 false (some v3)).bind fun x46 =>
(gd x44 false (some v5)).bind fun x47 =>
(gd x44 false (idxA 2 x46 x47)).bind fun x48 =>
(gd x44 false (fldA 0 x48)).bind fun x49 =>
(gd x44 false (ld false 1 x49 H)).bind fun x50 =>
(gd x44 false (some v3)).bind fun x51 =>
(gd x44 false (some v5)).bind fun x52 =>
(gd x44 false (idxA 2 x51 x52)).bind fun x53 =>
(gd x44 false (fldA 1 x53)).bind fun x54 =>
(gd x44 false (ld false 1 x54 H)).bind fun x55 =>
(gdH x44 false (callA cfg O 66 [x45, x50, x55] lo H) H).bind fun r56 =>
(gd x44 false (un .not r56.1)).bind fun x57 =>
(pickA x44 (B true) x57).bind fun x58 =>
cond x58 (
leave 0 lo [B false] r56.2) (
(bin .add .int v5 (I 1)).bind fun x59 =>
L10_16 [v0, v3, v4, x59] lo r56.2)) (
L10_26 [v0, v3, v4, I 0] lo H)) := by
  show O.lab _ _ _ _ _ _ = _
  rw [O_lab]
  kernel_rfl
theorem L10_26_eq (lo : List Nat) (v0 v3 v4 v6 : AV) (H : Heap) : L10_26 [v0, v3, v4, v6] lo H = (
(lenA .slice v0 H).bind fun x1 =>
(bin .lss .int v6 x1).bind fun x2 =>
cond x2 (
L10_32 [v0, v3, v4, v6, I 0] lo H) (
(bin .eql .int v4 (I 0)).bind fun x3 =>
leave 0 lo [x3] H)) := by
  show O.lab _ _ _ _ _ _ = _
  rw [O_lab]
  kernel_rfl
theorem L10_32_eq (lo : List Nat) (v0 v3 v4 v6 v7 : AV) (H : Heap) : L10_32 [v0, v3, v4, v6, v7] lo H = (
(bin .lss .int v7 v6).bind fun x1 =>
cond x1 (
(idxA 12 v0 v6).bind fun x2 =>
(fldA 0 x2).bind fun x3 =>
(ld false 1 x3 H).bind fun x4 =>
(bin .neq .int x4 (I 13)).bind fun x5 =>
(gd x5 false (some v0)).bind fun x6 =>
(gd x5 false (some v7)).bind fun x7 =>
(gd x5 false (idxA 12 x6 x7)).bind fun x8 =>
(gd x5 false (fldA 0 x8)).bind fun x9 =>
(gd x5 false (ld false 1 x9 H)).bind fun x10 =>
(gd x5 false (bin .neq .int x10 (I 13))).bind fun x11 =>
(pickA x5 (B true) x11).bind fun x12 =>
(gd x12 false (some v0)).bind fun x13 =>
(gd x12 false (some v0)).bind fun x14 =>
(gd x12 false (some v7)).bind fun x15 =>
(gd x12 false (idxA 12 x14 x15)).bind fun x16 =>
(gd x12 false (fldA 6 x16)).bind fun x17 =>
(gd x12 false (ld false 1 x17 H)).bind fun x18 =>
(gd x12 false (some v0)).bind fun x19 =>
(gd x12 false (some v6)).bind fun x20 =>
(gd x12 false (idxA 12 x19 x20)).bind fun x21 =>
(gd x12 false (fldA 6 x21)).bind fun x22 =>
(gd x12 false (ld false 1 x22 H)).bind fun x23 =>
(gdH x12 false (callA cfg O 66 [x13, x18, x23] lo H) H).bind fun r24 =>
(gd x12 false (un .not r24.1)).bind fun x25 =>
(pickA x12 (B true) x25).bind fun x26 =>
cond x26 (
L10_35 [v0, v3, v4, v6, v7] lo r24.2) (
L10_42 [v0, v3, v4, v6, v7, B false, I 0] lo r24.2)) (
(bin .add .int v6 (I 1)).bind fun x27 =>
L10_26 [v0, v3, v4, x27] lo H)) := by
  show O.lab _ _ _ _ _ _ = _
  rw [O_lab]
  kernel_rfl
theorem L10_35_eq (lo : List Nat) (v0 v3 v4 v6 v7 : AV) (H : Heap) : L10_35 [v0, v3, v4, v6, v7] lo H = (
(bin .add .int v7 (I 1)).bind fun x1 =>
L10_32 [v0, v3, v4, v6, x1] lo H) := by
  show O.lab _ _ _ _ _ _ = _
  rw [O_lab]
  kernel_rfl
theorem L10_42_eq (lo : List Nat) (v0 v3 v4 v6 v7 v8 v9 : AV) (H : Heap) : L10_42 [v0, v3, v4, v6, v7, v8, v9] lo H = (
(lenA .slice v3 H).bind fun x1 =>
(bin .lss .int v9 x1).bind fun x2 =>
cond x2 (
(gd v8 false (some v3)).bind fun x3 =>
(gd v8 false (some v9)).bind fun x4 =>
(gd v8 false (idxA 2 x3 x4)).bind fun x5 =>
(gd v8 false (ld true 2 x5 H)).bind fun x6 =>
(gd v8 false (some v0)).bind fun x7 =>
(gd v8 false (some v7)).bind fun x8 =>
(gd v8 false (idxA 12 x7 x8)).bind fun x9 =>
(gd v8 false (fldA 6 x9)).bind fun x10 =>
(gd v8 false (ld false 1 x10 H)).bind fun x11 =>
(gd v8 false (some v0)).bind fun x12 =>
(gd v8 false (some v6)).bind fun x13 =>
(gd v8 false (idxA 12 x12 x13)).bind fun x14 =>
(gd v8 false (fldA 6 x14)).bind fun x15 =>
(gd v8 false (ld false 1 x15 H)).bind fun x16 =>
(gd v8 false (buildA [(I 0), (I 0)] [(0, 1, x11), (1, 1, x16)])).bind fun x17 =>
(gd v8 false (bin .eql (.agg 2 [(0, .int), (1, .int)]) x6 x17)).bind fun x18 =>
(pickA v8 (B true) x18).bind fun x19 =>
(bin .add .int v9 (I 1)).bind fun x20 =>
L10_42 [v0, v3, v4, v6, v7, x19, x20] lo H) (
(un .not v8).bind fun x21 =>
cond x21 (
leave 0 lo [B false] H) (
L10_35 [v0, v3, v4, v6, v7] lo H))) := by
  show O.lab _ _ _ _ _ _ = _
  rw [O_lab]
  kernel_rfl
theorem f10_eq (a0 : AV) : O.ent 10 [a0] [] [] = (
(lenA .slice a0 []).bind fun x1 =>
(bin .leq .int x1 (I 200)).bind fun x2 =>
cond x2 (
(callA cfg O 64 [a0, I 60] [] []).bind fun r3 =>
L10_9 [r3.1] [] r3.2) (
L10_9 [a0] [] [])) := by
  rw [O_ent]
  kernel_rfl
-- backstitch/backstitchlaw4.soon
theorem f64_eq (a0 a1 : AV) : O.ent 64 [a0, a1] [] [] = (
(lenA .slice a0 []).bind fun x1 =>
(bests false x1 [a1]).bind fun x2 =>
(cutA 12 a0 none (some x2) none []).bind fun x3 =>
leave 0 [] [x3] []) := by
  rw [O_ent]
  kernel_rfl
-- backstitch/lockup.Order
noncomputable def T65_14 : List It := labAt Try.prog cfg 65 14 (fun _ => none)
noncomputable def L65_14 (vals : List AV) (lo : List Nat) (H : Heap) : Res := O.lab 65 [4, 5, 16, 17, 18] (T65_14) vals lo H
noncomputable def T65_45 : List It := labAt Try.prog cfg 65 45 (fun _ => none)
noncomputable def L65_45 (vals : List AV) (lo : List Nat) (H : Heap) : Res := O.lab 65 [4, 5, 16, 17, 18] (T65_45) vals lo H
noncomputable def T65_26 : List It := labAt Try.prog cfg 65 26 (fun _ => none)
noncomputable def L65_26 (vals : List AV) (lo : List Nat) (H : Heap) : Res := O.lab 65 [4, 5, 7, 8, 9, 16, 17, 18, 34, 35, 36] (T65_26) vals lo H
noncomputable def T65_35 : List It := labAt Try.prog cfg 65 35 (fun _ => none)
noncomputable def L65_35 (vals : List AV) (lo : List Nat) (H : Heap) : Res := O.lab 65 [4, 5, 7, 8, 9, 16, 17, 18, 34, 35, 36] (T65_35) vals lo H
theorem L65_14_eq (lo : List Nat) (v4 v5 v16 v17 v18 : AV) (H : Heap) : L65_14 [v4, v5, v16, v17, v18] lo H = (
(bin .lss .int v18 v17).bind fun x1 =>
cond x1 (
(idxA 12 v16 v18).bind fun x2 =>
(ld true 12 x2 H).bind fun x3 =>
(boxO [] [(I 0), (I 0), (I 0), (I 0), (I 0), (I 0), (I 0), (I 0), (I 0), (I 0), (I 0), (I 0)] H).bind fun r4 =>
((stA 12 r4.1 x3 lo r4.2).map fun H' => (undefA, H')).bind fun r5 =>
(fldA 2 r4.1).bind fun x6 =>
(ld false 1 x6 r5.2).bind fun x7 =>
(lookA .int (.p nilS) false v4 x7 r5.2).bind fun x8 =>
(fldA 6 r4.1).bind fun x9 =>
(ld false 1 x9 r5.2).bind fun x10 =>
(callA cfg O 120 [x8, x10] lo r5.2).bind fun r11 =>
(fldA 0 r4.1).bind fun x12 =>
(ld false 1 x12 r11.2).bind fun x13 =>
(bin .eql .int x13 (I 13)).bind fun x14 =>
cond x14 (
(lenA .slice x8 r11.2).bind fun x15 =>
L65_26 [v4, v5, r4.1, x8, r11.1, v16, v17, v18, x8, x15, I 0] lo r11.2) (
(fldA 0 r4.1).bind fun x16 =>
(ld false 1 x16 r11.2).bind fun x17 =>
(bin .eql .int x17 (I 14)).bind fun x18 =>
(gd x18 true (some r11.1)).bind fun x19 =>
(gd x18 true (bin .geq .int x19 (I 0))).bind fun x20 =>
(pickA x18 x20 (B false)).bind fun x21 =>
cond x21 (
(fldA 2 r4.1).bind fun x22 =>
(ldS false 1 x22 r11.2).bind fun x23 =>
(bin .add .int r11.1 (I 1)).bind fun x24 =>
(callA cfg O 121 [x8, r11.1, x24] lo r11.2).bind fun r25 =>
((mapUpdA .int v4 x23 r25.1 lo r25.2).map fun H' => (undefA, H')).bind fun r26 =>
L65_45 [v4, v5, v16, v17, v18] lo r26.2) (
L65_45 [v4, v5, v16, v17, v18] lo r11.2))) (
(callA cfg O 122 [v5, .fn 123 [] []] lo H).bind fun r27 =>
(callA cfg O 124 [v5] lo r27.2).bind fun r28 =>
leave 0 lo [r28.1, I 0] r28.2)) := by
  show O.lab _ _ _ _ _ _ = _
  rw [O_lab]
  kernel_rfl
theorem L65_45_eq (lo : List Nat) (v4 v5 v16 v17 v18 : AV) (H : Heap) : L65_45 [v4, v5, v16, v17, v18] lo H = (
(bin .add .int v18 (I 1)).bind fun x1 =>
L65_14 [v4, v5, v16, v17, x1] lo H) := by
  show O.lab _ _ _ _ _ _ = _
  rw [O_lab]
  kernel_rfl
theorem L65_26_eq (lo : List Nat) (v4 v5 v7 v8 v9 v16 v17 v18 v34 v35 v36 : AV) (H : Heap) : L65_26 [v4, v5, v7, v8, v9, v16, v17, v18, v34, v35, v36] lo H = (
(bin .lss .int v36 v35).bind fun x1 =>
cond x1 (
(idxA 1 v34 v36).bind fun x2 =>
(ld false 1 x2 H).bind fun x3 =>
(fldA 6 v7).bind fun x4 =>
(ld false 1 x4 H).bind fun x5 =>
(bin .neq .int x3 x5).bind fun x6 =>
cond x6 (
(fldA 6 v7).bind fun x7 =>
(ld false 1 x7 H).bind fun x8 =>
(buildA [(I 0), (I 0)] [(0, 1, x3), (1, 1, x8)]).bind fun x9 =>
(litA false 2 [x9] H).bind fun r10 =>
(appA 2 16 v5 r10.1 r10.2).bind fun r11 =>
L65_35 [v4, r11.1, v7, v8, v9, v16, v17, v18, v34, v35, v36] lo r11.2) (
L65_35 [v4, v5, v7, v8, v9, v16, v17, v18, v34, v35, v36] lo H)) (
(bin .lss .int v9 (I 0)).bind fun x12 =>
cond x12 (
(fldA 2 v7).bind fun x13 =>
(ldS false 1 x13 H).bind fun x14 =>
(fldA 6 v7).bind fun x15 =>
(ld false 1 x15 H).bind fun x16 =>
(litA false 1 [x16] H).bind fun r17 =>
(appA 1 8 v8 r17.1 r17.2).bind fun r18 =>
((mapUpdA .int v4 x14 r18.1 lo r18.2).map fun H' => (undefA, H')).bind fun r19 =>
L65_45 [v4, v5, v16, v17, v18] lo r19.2) (
L65_45 [v4, v5, v16, v17, v18] lo H))) := by
  show O.lab _ _ _ _ _ _ = _
  rw [O_lab]
  kernel_rfl
theorem L65_35_eq (lo : List Nat) (v4 v5 v7 v8 v9 v16 v17 v18 v34 v35 v36 : AV) (H : Heap) : L65_35 [v4, v5, v7, v8, v9, v16, v17, v18, v34, v35, v36] lo H = (
(bin .add .int v36 (I 1)).bind fun x1 =>
L65_26 [v4, v5, v7, v8, v9, v16, v17, v18, v34, v35, x1] lo H) := by
  show O.lab _ _ _ _ _ _ = _
  rw [O_lab]
  kernel_rfl
theorem f65_eq (a0 : AV) : O.ent 65 [a0] [] [] = (
(lenA .slice a0 []).bind fun x1 =>
(bin .gtr .int x1 (I 200)).bind fun x2 =>
cond x2 (
leave 0 [] [.p nilS, I 2] []) (
(some (mkMap [])).bind fun r3 =>
(lenA .slice a0 r3.2).bind fun x4 =>
L65_14 [r3.1, .p nilS, a0, x4, I 0] [] r3.2)) := by
  rw [O_ent]
  kernel_rfl
-- backstitch/backstitchref4.LockOrders
noncomputable def T66_6 : List It := labAt Try.prog cfg 66 6 (fun _ => none)
noncomputable def L66_6 (vals : List AV) (lo : List Nat) (H : Heap) : Res := O.lab 66 [0, 1, 2, 7] (T66_6) vals lo H
theorem L66_6_eq (lo : List Nat) (v0 v1 v2 v7 : AV) (H : Heap) : L66_6 [v0, v1, v2, v7] lo H = (
(lenA .slice v0 H).bind fun x1 =>
(bin .lss .int v7 x1).bind fun x2 =>
cond x2 (
(idxA 12 v0 v7).bind fun x3 =>
(fldA 0 x3).bind fun x4 =>
(ld false 1 x4 H).bind fun x5 =>
(bin .eql .int x5 (I 13)).bind fun x6 =>
(gd x6 true (some v0)).bind fun x7 =>
(gd x6 true (some v7)).bind fun x8 =>
(gd x6 true (idxA 12 x7 x8)).bind fun x9 =>
(gd x6 true (fldA 6 x9)).bind fun x10 =>
(gd x6 true (ld false 1 x10 H)).bind fun x11 =>
(gd x6 true (some v2)).bind fun x12 =>
(gd x6 true (bin .eql .int x11 x12)).bind fun x13 =>
(pickA x6 x13 (B false)).bind fun x14 =>
(gd x14 true (some v1)).bind fun x15 =>
(gd x14 true (some v2)).bind fun x16 =>
(gd x14 true (bin .neq .int x15 x16)).bind fun x17 =>
(pickA x14 x17 (B false)).bind fun x18 =>
(gd x18 true (some v0)).bind fun x19 =>
(gd x18 true (some v0)).bind fun x20 =>
(gd x18 true (some v7)).bind fun x21 =>
(gd x18 true (idxA 12 x20 x21)).bind fun x22 =>
(gd x18 true (fldA 2 x22)).bind fun x23 =>
(gd x18 true (ld false 1 x23 H)).bind fun x24 =>
(gd x18 true (some v1)).bind fun x25 =>
(gd x18 true (some v7)).bind fun x26 =>
(gdH x18 true (callA cfg O 125 [x19, x24, x25, x26] lo H) H).bind fun r27 =>
(pickA x18 r27.1 (B false)).bind fun x28 =>
cond x28 (
leave 0 lo [B true] r27.2) (
(bin .add .int v7 (I 1)).bind fun x29 =>
L66_6 [v0, v1, v2, x29] lo r27.2)) (
leave 0 lo [B false] H)) := by
  show O.lab _ _ _ _ _ _ = _
  rw [O_lab]
  kernel_rfl
theorem f66_eq (a0 a1 a2 : AV) : O.ent 66 [a0, a1, a2] [] [] = (
L66_6 [a0, a1, a2, I 0] [] []) := by
  rw [O_ent]
  kernel_rfl
-- slices.Index[[]int,int]
noncomputable def T120_6 : List It := labAt Try.prog cfg 120 6 (fun _ => none)
noncomputable def L120_6 (vals : List AV) (lo : List Nat) (H : Heap) : Res := O.lab 120 [0, 1, 7, 8] (T120_6) vals lo H
theorem L120_6_eq (lo : List Nat) (v0 v1 v7 v8 : AV) (H : Heap) : L120_6 [v0, v1, v7, v8] lo H = (
(bin .lss .int v8 v7).bind fun x1 =>
cond x1 (
(idxA 1 v0 v8).bind fun x2 =>
(ld false 1 x2 H).bind fun x3 =>
(bin .eql .int v1 x3).bind fun x4 =>
cond x4 (
leave 0 lo [v8] H) (
(bin .add .int v8 (I 1)).bind fun x5 =>
L120_6 [v0, v1, v7, x5] lo H)) (
leave 0 lo [I (-1)] H)) := by
  show O.lab _ _ _ _ _ _ = _
  rw [O_lab]
  kernel_rfl
theorem f120_eq (a0 a1 : AV) : O.ent 120 [a0, a1] [] [] = (
(lenA .slice a0 []).bind fun x1 =>
L120_6 [a0, a1, x1, I 0] [] []) := by
  rw [O_ent]
  kernel_rfl
-- backstitch/lockup.byPair
theorem f123_eq (a0 a1 : AV) : O.ent 123 [a0, a1] [] [] = (
(boxO [] (AV.cells a0) []).bind fun r1 =>
(boxO [] (AV.cells a1) r1.2).bind fun r2 =>
(fldA 0 r1.1).bind fun x3 =>
(ld false 1 x3 r2.2).bind fun x4 =>
(fldA 0 r2.1).bind fun x5 =>
(ld false 1 x5 r2.2).bind fun x6 =>
(callA cfg O 119 [x4, x6] [] r2.2).bind fun r7 =>
(fldA 1 r1.1).bind fun x8 =>
(ld false 1 x8 r7.2).bind fun x9 =>
(fldA 1 r2.1).bind fun x10 =>
(ld false 1 x10 r7.2).bind fun x11 =>
(callA cfg O 119 [x9, x11] [] r7.2).bind fun r12 =>
(litA false 1 [r7.1, r12.1] r12.2).bind fun r13 =>
(callA cfg O 118 [r13.1] [] r13.2).bind fun r14 =>
leave 0 [] [r14.1] r14.2) := by
  rw [O_ent]
  kernel_rfl
-- slices.Compact[[]backstitch/api.DPair,backstitch/api.DPair]
noncomputable def T124_10 : List It := labAt Try.prog cfg 124 10 (fun _ => none)
noncomputable def L124_10 (vals : List AV) (lo : List Nat) (H : Heap) : Res := O.lab 124 [0, 3] (T124_10) vals lo H
noncomputable def T124_20 : List It := labAt Try.prog cfg 124 20 (fun _ => none)
noncomputable def L124_20 (vals : List AV) (lo : List Nat) (H : Heap) : Res := O.lab 124 [0, 3, 4, 5] (T124_20) vals lo H
noncomputable def T124_23 : List It := labAt Try.prog cfg 124 23 (fun _ => none)
noncomputable def L124_23 (vals : List AV) (lo : List Nat) (H : Heap) : Res := O.lab 124 [0, 3, 4, 5] (T124_23) vals lo H
theorem L124_10_eq (lo : List Nat) (v0 v3 : AV) (H : Heap) : L124_10 [v0, v3] lo H = (
(lenA .slice v0 H).bind fun x1 =>
(bin .lss .int v3 x1).bind fun x2 =>
cond x2 (
(idxA 2 v0 v3).bind fun x3 =>
(ld true 2 x3 H).bind fun x4 =>
(bin .sub .int v3 (I 1)).bind fun x5 =>
(idxA 2 v0 x5).bind fun x6 =>
(ld true 2 x6 H).bind fun x7 =>
(bin .eql (.agg 2 [(0, .int), (1, .int)]) x4 x7).bind fun x8 =>
cond x8 (
(cutA 2 v0 (some v3) none none H).bind fun x9 =>
L124_20 [v0, v3, x9, I 1] lo H) (
(bin .add .int v3 (I 1)).bind fun x10 =>
L124_10 [v0, x10] lo H)) (
leave 1 lo [v0] H)) := by
  show O.lab _ _ _ _ _ _ = _
  rw [O_lab]
  kernel_rfl
theorem L124_20_eq (lo : List Nat) (v0 v3 v4 v5 : AV) (H : Heap) : L124_20 [v0, v3, v4, v5] lo H = (
(lenA .slice v4 H).bind fun x1 =>
(bin .lss .int v5 x1).bind fun x2 =>
cond x2 (
(idxA 2 v4 v5).bind fun x3 =>
(ld true 2 x3 H).bind fun x4 =>
(bin .sub .int v5 (I 1)).bind fun x5 =>
(idxA 2 v4 x5).bind fun x6 =>
(ld true 2 x6 H).bind fun x7 =>
(bin .neq (.agg 2 [(0, .int), (1, .int)]) x4 x7).bind fun x8 =>
cond x8 (
(idxA 2 v4 v5).bind fun x9 =>
(ld true 2 x9 H).bind fun x10 =>
(idxA 2 v0 v3).bind fun x11 =>
((stA 2 x11 x10 lo H).map fun H' => (undefA, H')).bind fun r12 =>
(bin .add .int v3 (I 1)).bind fun x13 =>
L124_23 [v0, x13, v4, v5] lo r12.2) (
L124_23 [v0, v3, v4, v5] lo H)) (
(cutA 2 v0 (some v3) none none H).bind fun x14 =>
((clearA 2 [(.v (.int .i64 0)), (.v (.int .i64 0))] x14 H).map fun H' => (undefA, H')).bind fun r15 =>
(cutA 2 v0 none (some v3) none r15.2).bind fun x16 =>
leave 1 lo [x16] r15.2)) := by
  show O.lab _ _ _ _ _ _ = _
  rw [O_lab]
  kernel_rfl
theorem L124_23_eq (lo : List Nat) (v0 v3 v4 v5 : AV) (H : Heap) : L124_23 [v0, v3, v4, v5] lo H = (
(bin .add .int v5 (I 1)).bind fun x1 =>
L124_20 [v0, v3, v4, x1] lo H) := by
  show O.lab _ _ _ _ _ _ = _
  rw [O_lab]
  kernel_rfl
theorem f124_eq (a0 : AV) (lo : List Nat) (H : Heap) : O.ent 124 [a0] lo H = (
(lenA .slice a0 H).bind fun x1 =>
(bin .lss .int x1 (I 2)).bind fun x2 =>
cond x2 (
leave 1 lo [a0] H) (
L124_10 [a0, I 1] lo H)) := by
  rw [O_ent]
  kernel_rfl
-- backstitch/backstitchref4.LockHas
noncomputable def T125_8 : List It := labAt Try.prog cfg 125 8 (fun _ => none)
noncomputable def L125_8 (vals : List AV) (lo : List Nat) (H : Heap) : Res := O.lab 125 [0, 1, 2, 3, 9, 10] (T125_8) vals lo H
noncomputable def T125_11 : List It := labAt Try.prog cfg 125 11 (fun _ => none)
noncomputable def L125_11 (vals : List AV) (lo : List Nat) (H : Heap) : Res := O.lab 125 [0, 1, 2, 3, 9, 10] (T125_11) vals lo H
noncomputable def T125_17 : List It := labAt Try.prog cfg 125 17 (fun _ => none)
noncomputable def L125_17 (vals : List AV) (lo : List Nat) (H : Heap) : Res := O.lab 125 [0, 1, 2, 3, 9, 10] (T125_17) vals lo H
theorem L125_8_eq (lo : List Nat) (v0 v1 v2 v3 v9 v10 : AV) (H : Heap) : L125_8 [v0, v1, v2, v3, v9, v10] lo H = (
(bin .lss .int v10 v3).bind fun x1 =>
cond x1 (
(idxA 12 v0 v10).bind fun x2 =>
(fldA 2 x2).bind fun x3 =>
(ld false 1 x3 H).bind fun x4 =>
(bin .eql .int x4 v1).bind fun x5 =>
(gd x5 true (some v0)).bind fun x6 =>
(gd x5 true (some v10)).bind fun x7 =>
(gd x5 true (idxA 12 x6 x7)).bind fun x8 =>
(gd x5 true (fldA 6 x8)).bind fun x9 =>
(gd x5 true (ld false 1 x9 H)).bind fun x10 =>
(gd x5 true (some v2)).bind fun x11 =>
(gd x5 true (bin .eql .int x10 x11)).bind fun x12 =>
(pickA x5 x12 (B false)).bind fun x13 =>
(gd x13 true (some v0)).bind fun x14 =>
(gd x13 true (some v10)).bind fun x15 =>
(gd x13 true (idxA 12 x14 x15)).bind fun x16 =>
(gd x13 true (fldA 0 x16)).bind fun x17 =>
(gd x13 true (ld false 1 x17 H)).bind fun x18 =>
(gd x13 true (bin .eql .int x18 (I 13))).bind fun x19 =>
(pickA x13 x19 (B false)).bind fun x20 =>
cond x20 (
L125_17 [v0, v1, v2, v3, B true, v10] lo H) (
L125_17 [v0, v1, v2, v3, v9, v10] lo H)) (
leave 0 lo [v9] H)) := by
  show O.lab _ _ _ _ _ _ = _
  rw [O_lab]
  kernel_rfl
theorem L125_11_eq (lo : List Nat) (v0 v1 v2 v3 v9 v10 : AV) (H : Heap) : L125_11 [v0, v1, v2, v3, v9, v10] lo H = (
(bin .add .int v10 (I 1)).bind fun x1 =>
L125_8 [v0, v1, v2, v3, v9, x1] lo H) := by
  show O.lab _ _ _ _ _ _ = _
  rw [O_lab]
  kernel_rfl
theorem L125_17_eq (lo : List Nat) (v0 v1 v2 v3 v9 v10 : AV) (H : Heap) : L125_17 [v0, v1, v2, v3, v9, v10] lo H = (
(idxA 12 v0 v10).bind fun x1 =>
(fldA 2 x1).bind fun x2 =>
(ld false 1 x2 H).bind fun x3 =>
(bin .eql .int x3 v1).bind fun x4 =>
(gd x4 true (some v0)).bind fun x5 =>
(gd x4 true (some v10)).bind fun x6 =>
(gd x4 true (idxA 12 x5 x6)).bind fun x7 =>
(gd x4 true (fldA 6 x7)).bind fun x8 =>
(gd x4 true (ld false 1 x8 H)).bind fun x9 =>
(gd x4 true (some v2)).bind fun x10 =>
(gd x4 true (bin .eql .int x9 x10)).bind fun x11 =>
(pickA x4 x11 (B false)).bind fun x12 =>
(gd x12 true (some v0)).bind fun x13 =>
(gd x12 true (some v10)).bind fun x14 =>
(gd x12 true (idxA 12 x13 x14)).bind fun x15 =>
(gd x12 true (fldA 0 x15)).bind fun x16 =>
(gd x12 true (ld false 1 x16 H)).bind fun x17 =>
(gd x12 true (bin .eql .int x17 (I 14))).bind fun x18 =>
(pickA x12 x18 (B false)).bind fun x19 =>
cond x19 (
L125_11 [v0, v1, v2, v3, B false, v10] lo H) (
L125_11 [v0, v1, v2, v3, v9, v10] lo H)) := by
  show O.lab _ _ _ _ _ _ = _
  rw [O_lab]
  kernel_rfl
theorem f125_eq (a0 a1 a2 a3 : AV) : O.ent 125 [a0, a1, a2, a3] [] [] = (
L125_8 [a0, a1, a2, a3, B false, I 0] [] []) := by
  rw [O_ent]
  kernel_rfl
-- cmp.Or[int]
noncomputable def T118_8 : List It := labAt Try.prog cfg 118 8 (fun _ => none)
noncomputable def L118_8 (vals : List AV) (lo : List Nat) (H : Heap) : Res := O.lab 118 [3, 6, 7, 8] (T118_8) vals lo H
theorem L118_8_eq (lo : List Nat) (v3 v6 v7 v8 : AV) (H : Heap) : L118_8 [v3, v6, v7, v8] lo H = (
(bin .lss .int v8 v7).bind fun x1 =>
cond x1 (
(idxA 1 v6 v8).bind fun x2 =>
(ld false 1 x2 H).bind fun x3 =>
(bin .neq .int x3 v3).bind fun x4 =>
cond x4 (
leave 0 lo [x3] H) (
(bin .add .int v8 (I 1)).bind fun x5 =>
L118_8 [v3, v6, v7, x5] lo H)) (
leave 0 lo [v3] H)) := by
  show O.lab _ _ _ _ _ _ = _
  rw [O_lab]
  kernel_rfl
theorem f118_eq (a0 : AV) : O.ent 118 [a0] [] [] = (
(lenA .slice a0 []).bind fun x1 =>
L118_8 [I 0, a0, x1, I 0] [] []) := by
  rw [O_ent]
  kernel_rfl
-- cmp.Compare[int]
theorem f119_eq (a0 a1 : AV) : O.ent 119 [a0, a1] [] [] = (
(callA cfg O 150 [a0] [] []).bind fun r1 =>
(callA cfg O 150 [a1] [] r1.2).bind fun r2 =>
cond r1.1 (
cond r2.1 (
leave 0 [] [I 0] r2.2) (
leave 0 [] [I (-1)] r2.2)) (
cond r2.1 (
leave 0 [] [I 1] r2.2) (
(bin .lss .int a0 a1).bind fun x3 =>
cond x3 (
leave 0 [] [I (-1)] r2.2) (
(bin .gtr .int a0 a1).bind fun x4 =>
cond x4 (
leave 0 [] [I 1] r2.2) (
leave 0 [] [I 0] r2.2))))) := by
  rw [O_ent]
  kernel_rfl
-- cmp.isNaN[int]
theorem f150_eq (a0 : AV) : O.ent 150 [a0] [] [] = (
(bin .neq .int a0 a0).bind fun x1 =>
leave 0 [] [x1] []) := by
  rw [O_ent]
  kernel_rfl
end Go.Proofs.Ytkhbbjfdbbnojaa
