import Derived.Test.YtfdnamedmjhcfaaDoorCf
set_option linter.unusedVariables false
set_option maxRecDepth 100000
namespace Go.Proofs.YtfdnamedmjhcfaaDoor
open Go Go.AM
-- backstitch/backstitchlaw4.LockupWaits
noncomputable def T3_17 : List It := labAt Tryd.prog cfg 3 17 (fun _ => none)
noncomputable def L3_17 (vals : List AV) (lo : List Nat) (H : Heap) : Res := O.lab 3 [3, 5, 6, 7] (T3_17) vals lo H
noncomputable def T3_23 : List It := labAt Tryd.prog cfg 3 23 (fun _ => none)
noncomputable def L3_23 (vals : List AV) (lo : List Nat) (H : Heap) : Res := O.lab 3 [5, 6, 7, 8] (T3_23) vals lo H
noncomputable def T3_28 : List It := labAt Tryd.prog cfg 3 28 (fun _ => none)
noncomputable def L3_28 (vals : List AV) (lo : List Nat) (H : Heap) : Res := O.lab 3 [5, 8, 9] (T3_28) vals lo H
theorem L3_17_eq (lo : List Nat) (v3 v5 v6 v7 : AV) (H : Heap) : L3_17 [v3, v5, v6, v7] lo H = (
(bin .eql .int v7 (I 0)).bind fun x1 =>
cond x1 (
(ld true 8 v3 H).bind fun x2 =>
(callA cfg O 10 [x2] lo H).bind fun r3 =>
L3_23 [v5, v6, v7, r3.1] lo r3.2) (
L3_23 [v5, v6, v7, .p nilS] lo H)) := by
  show O.lab _ _ _ _ _ _ = _
  rw [O_lab]
  kernel_rfl
theorem L3_23_eq (lo : List Nat) (v5 v6 v7 v8 : AV) (H : Heap) : L3_23 [v5, v6, v7, v8] lo H = (
(lenA .slice v5 H).bind fun x1 =>
(lenA .slice v8 H).bind fun x2 =>
(bin .neq .int x1 x2).bind fun x3 =>
(gd x3 false (some v6)).bind fun x4 =>
(gd x3 false (some v7)).bind fun x5 =>
(gd x3 false (bin .neq .int x4 x5)).bind fun x6 =>
(pickA x3 (B true) x6).bind fun x7 =>
cond x7 (
leave 0 lo [B false] H) (
L3_28 [v5, v8, I 0] lo H)) := by
  show O.lab _ _ _ _ _ _ = _
  rw [O_lab]
  kernel_rfl
theorem L3_28_eq (lo : List Nat) (v5 v8 v9 : AV) (H : Heap) : L3_28 [v5, v8, v9] lo H = (
(lenA .slice v5 H).bind fun x1 =>
(bin .lss .int v9 x1).bind fun x2 =>
cond x2 (
(idxA 3 v5 v9).bind fun x3 =>
(ld true 3 x3 H).bind fun x4 =>
(idxA 3 v8 v9).bind fun x5 =>
(ld true 3 x5 H).bind fun x6 =>
(bin .neq (.agg 3 [(0, .int), (1, .int), (2, .int)]) x4 x6).bind fun x7 =>
cond x7 (
leave 0 lo [B false] H) (
(bin .add .int v9 (I 1)).bind fun x8 =>
L3_28 [v5, v8, x8] lo H)) (
leave 0 lo [B true] H)) := by
  show O.lab _ _ _ _ _ _ = _
  rw [O_lab]
  kernel_rfl
theorem f3_eq (a0 a1 : AV) : O.ent 3 [a0, a1] [] [] = (
(boxO [] (AV.cells a0) []).bind fun r1 =>
(boxO [] (AV.cells a1) r1.2).bind fun r2 =>
(buildA [(.p nilS), (.p nilS), (.p nilS)] []).bind fun x3 =>
(callA cfg O 7 [x3] [] r2.2).bind fun r4 =>
(bin .eql .int r4.1 (I 0)).bind fun x5 =>
cond x5 (
leave 0 [] [B false] r4.2) (
(ld true 3 r1.1 r4.2).bind fun x6 =>
(ld true 8 r2.1 r4.2).bind fun x7 =>
(callA cfg O 8 [x6, x7] [] r4.2).bind fun r8 =>
(extractA r8.1 0).bind fun x9 =>
(extractA r8.1 1).bind fun x10 =>
(ld true 3 r1.1 r8.2).bind fun x11 =>
(callA cfg O 7 [x11] [] r8.2).bind fun r12 =>
(bin .eql .int r12.1 (I 0)).bind fun x13 =>
cond x13 (
(ld true 3 r1.1 r12.2).bind fun x14 =>
(ld true 8 r2.1 r12.2).bind fun x15 =>
(callA cfg O 9 [x14, x15] [] r12.2).bind fun r16 =>
L3_17 [r2.1, x9, x10, r16.1] [] r16.2) (
L3_17 [r2.1, x9, x10, r12.1] [] r12.2))) := by
  rw [O_ent]
  kernel_rfl
-- backstitch/code.Check
theorem f7_eq (a0 : AV) : O.ent 7 [a0] [] [] = (
(boxO [] (AV.cells a0) []).bind fun r1 =>
(ld true 3 r1.1 r1.2).bind fun x2 =>
(callA cfg O 20 [x2] [] r1.2).bind fun r3 =>
cond r3.1 (
leave 0 [] [I 2] r3.2) (
(ld true 3 r1.1 r3.2).bind fun x4 =>
(callA cfg O 21 [x4] [] r3.2).bind fun r5 =>
(un .not r5.1).bind fun x6 =>
(gd x6 false (fldA 0 r1.1)).bind fun x7 =>
(gd x6 false (ld false 1 x7 r5.2)).bind fun x8 =>
(gd x6 false (lenA .slice x8 r5.2)).bind fun x9 =>
(gd x6 false (bin .eql .int x9 (I 0))).bind fun x10 =>
(pickA x6 (B true) x10).bind fun x11 =>
(gd x11 false (fldA 0 r1.1)).bind fun x12 =>
(gd x11 false (ld false 1 x12 r5.2)).bind fun x13 =>
(gd x11 false (idxA 5 x13 (I 0))).bind fun x14 =>
(gd x11 false (fldA 0 x14)).bind fun x15 =>
(gd x11 false (ld false 1 x15 r5.2)).bind fun x16 =>
(gd x11 false (bin .neq .int x16 (I 0))).bind fun x17 =>
(pickA x11 (B true) x17).bind fun x18 =>
(gd x18 false (fldA 0 r1.1)).bind fun x19 =>
(gd x18 false (ld false 1 x19 r5.2)).bind fun x20 =>
(gd x18 false (idxA 5 x20 (I 0))).bind fun x21 =>
(gd x18 false (fldA 3 x21)).bind fun x22 =>
(gd x18 false (ld false 1 x22 r5.2)).bind fun x23 =>
(gd x18 false (lenA .slice x23 r5.2)).bind fun x24 =>
(gd x18 false (bin .gtr .int x24 (I 0))).bind fun x25 =>
(pickA x18 (B true) x25).bind fun x26 =>
(gd x26 false (fldA 0 r1.1)).bind fun x27 =>
(gd x26 false (ld false 1 x27 r5.2)).bind fun x28 =>
(gd x26 false (idxA 5 x28 (I 0))).bind fun x29 =>
(gd x26 false (fldA 2 x29)).bind fun x30 =>
(gd x26 false (ld false 1 x30 r5.2)).bind fun x31 =>
(pickA x26 (B true) x31).bind fun x32 =>
cond x32 (
leave 0 [] [I 3] r5.2) (
(fldA 0 r1.1).bind fun x33 =>
(ld false 1 x33 r5.2).bind fun x34 =>
(callA cfg O 22 [x34, .fn 23 [] [r1.1]] [] r5.2).bind fun r35 =>
cond r35.1 (
leave 0 [] [I 3] r35.2) (
leave 0 [] [I 0] r35.2)))) := by
  rw [O_ent]
  kernel_rfl
-- backstitch/lockup.Waits
noncomputable def T8_14 : List It := labAt Tryd.prog cfg 8 14 (fun _ => none)
noncomputable def L8_14 (vals : List AV) (lo : List Nat) (H : Heap) : Res := O.lab 8 [3, 7, 17, 18, 19] (T8_14) vals lo H
noncomputable def T8_27 : List It := labAt Tryd.prog cfg 8 27 (fun _ => none)
noncomputable def L8_27 (vals : List AV) (lo : List Nat) (H : Heap) : Res := O.lab 8 [3, 7, 17, 18, 19] (T8_27) vals lo H
theorem L8_14_eq (lo : List Nat) (v3 v7 v17 v18 v19 : AV) (H : Heap) : L8_14 [v3, v7, v17, v18, v19] lo H = (
(bin .lss .int v19 v18).bind fun x1 =>
cond x1 (
(idxA 5 v17 v19).bind fun x2 =>
(ld true 5 x2 H).bind fun x3 =>
(boxO [] [(.p nilS), (I 0), (I 0), (I 0), (I 0)] H).bind fun r4 =>
((stA 5 r4.1 x3 lo r4.2).map fun H' => (undefA, H')).bind fun r5 =>
(fldA 1 r4.1).bind fun x6 =>
(ld false 1 x6 r5.2).bind fun x7 =>
(bin .eql .int x7 (I 2)).bind fun x8 =>
cond x8 (
(fldA 2 r4.1).bind fun x9 =>
(ld false 1 x9 r5.2).bind fun x10 =>
(buildA [(I 0), (I 0), (I 0)] [(0, 1, v19), (1, 1, x10), (2, 1, I (-1))]).bind fun x11 =>
(litA false 3 [x11] r5.2).bind fun r12 =>
(appA 3 24 v7 r12.1 r12.2).bind fun r13 =>
L8_27 [v3, r13.1, v17, v18, v19] lo r13.2) (
(fldA 1 r4.1).bind fun x14 =>
(ld false 1 x14 r5.2).bind fun x15 =>
(bin .eql .int x15 (I 1)).bind fun x16 =>
(gd x16 true (fldA 0 v3)).bind fun x17 =>
(gd x16 true (ld false 1 x17 r5.2)).bind fun x18 =>
(gd x16 true (fldA 2 r4.1)).bind fun x19 =>
(gd x16 true (ld false 1 x19 r5.2)).bind fun x20 =>
(gd x16 true (idxA 4 x18 x20)).bind fun x21 =>
(gd x16 true (fldA 1 x21)).bind fun x22 =>
(gd x16 true (ld false 1 x22 r5.2)).bind fun x23 =>
(gd x16 true (bin .geq .int x23 (I 0))).bind fun x24 =>
(pickA x16 x24 (B false)).bind fun x25 =>
cond x25 (
(fldA 0 v3).bind fun x26 =>
(ld false 1 x26 r5.2).bind fun x27 =>
(fldA 2 r4.1).bind fun x28 =>
(ld false 1 x28 r5.2).bind fun x29 =>
(idxA 4 x27 x29).bind fun x30 =>
(fldA 1 x30).bind fun x31 =>
(ld false 1 x31 r5.2).bind fun x32 =>
(fldA 2 r4.1).bind fun x33 =>
(ld false 1 x33 r5.2).bind fun x34 =>
(buildA [(I 0), (I 0), (I 0)] [(0, 1, v19), (1, 1, x32), (2, 1, x34)]).bind fun x35 =>
(litA false 3 [x35] r5.2).bind fun r36 =>
(appA 3 24 v7 r36.1 r36.2).bind fun r37 =>
L8_27 [v3, r37.1, v17, v18, v19] lo r37.2) (
L8_27 [v3, v7, v17, v18, v19] lo r5.2))) (
leave 0 lo [v7, I 0] H)) := by
  show O.lab _ _ _ _ _ _ = _
  rw [O_lab]
  kernel_rfl
theorem L8_27_eq (lo : List Nat) (v3 v7 v17 v18 v19 : AV) (H : Heap) : L8_27 [v3, v7, v17, v18, v19] lo H = (
(bin .add .int v19 (I 1)).bind fun x1 =>
L8_14 [v3, v7, v17, v18, x1] lo H) := by
  show O.lab _ _ _ _ _ _ = _
  rw [O_lab]
  kernel_rfl
theorem f8_eq (a0 a1 : AV) : O.ent 8 [a0, a1] [] [] = (
(boxO [] (AV.cells a0) []).bind fun r1 =>
(boxO [] (AV.cells a1) r1.2).bind fun r2 =>
(ld true 3 r1.1 r2.2).bind fun x3 =>
(ld true 8 r2.1 r2.2).bind fun x4 =>
(callA cfg O 9 [x3, x4] [] r2.2).bind fun r5 =>
(bin .neq .int r5.1 (I 0)).bind fun x6 =>
cond x6 (
leave 0 [] [.p nilS, r5.1] r5.2) (
(fldA 3 r2.1).bind fun x7 =>
(ld false 1 x7 r5.2).bind fun x8 =>
(lenA .slice x8 r5.2).bind fun x9 =>
L8_14 [r2.1, .p nilS, x8, x9, I 0] [] r5.2)) := by
  rw [O_ent]
  kernel_rfl
-- backstitch/state.Check
theorem f9_eq (a0 a1 : AV) : O.ent 9 [a0, a1] [] [] = (
(boxO [] (AV.cells a0) []).bind fun r1 =>
(boxO [] (AV.cells a1) r1.2).bind fun r2 =>
(ld true 3 r1.1 r2.2).bind fun x3 =>
(callA cfg O 7 [x3] [] r2.2).bind fun r4 =>
(bin .neq .int r4.1 (I 0)).bind fun x5 =>
cond x5 (
leave 0 [] [r4.1] r4.2) (
(ld true 8 r2.1 r4.2).bind fun x6 =>
(callA cfg O 25 [x6] [] r4.2).bind fun r7 =>
(bin .neq .int r7.1 (I 0)).bind fun x8 =>
cond x8 (
leave 0 [] [r7.1] r7.2) (
(fldA 3 r2.1).bind fun x9 =>
(ld false 1 x9 r7.2).bind fun x10 =>
(lenA .slice x10 r7.2).bind fun x11 =>
(bin .gtr .int x11 (I 5)).bind fun x12 =>
(gd x12 false (fldA 3 r2.1)).bind fun x13 =>
(gd x12 false (ld false 1 x13 r7.2)).bind fun x14 =>
(gdH x12 false (callA cfg O 26 [x14, .fn 27 [] []] [] r7.2) r7.2).bind fun r15 =>
(pickA x12 (B true) r15.1).bind fun x16 =>
cond x16 (
leave 0 [] [I 2] r15.2) (
(ld true 3 r1.1 r15.2).bind fun x17 =>
(some (mkMap r15.2)).bind fun r18 =>
(buildA [(.p nilS), (.p nilS), (.p nilS), (.p (.v (.pointer none))), (.p nilS), (.p nilS), (.p (.v (.map none)))] [(0, 3, x17), (3, 1, r2.1), (6, 1, r18.1)]).bind fun x19 =>
(boxO [] (AV.cells x19) r18.2).bind fun r20 =>
(ld true 3 r1.1 r20.2).bind fun x21 =>
(callA cfg O 28 [x21] [] r20.2).bind fun r22 =>
(extractA r22.1 0).bind fun x23 =>
(extractA r22.1 1).bind fun x24 =>
(nilCheckA r20.1).bind fun x25 =>
(fldA 4 x25).bind fun x26 =>
((stA 1 x26 x23 [] r22.2).map fun H' => (undefA, H')).bind fun r27 =>
(nilCheckA r20.1).bind fun x28 =>
(fldA 5 x28).bind fun x29 =>
((stA 1 x29 x24 [] r27.2).map fun H' => (undefA, H')).bind fun r30 =>
(callA cfg O 29 [r20.1] [] r30.2).bind fun r31 =>
(un .not r31.1).bind fun x32 =>
cond x32 (
leave 0 [] [I 3] r31.2) (
leave 0 [] [I 0] r31.2))))) := by
  rw [O_ent]
  kernel_rfl
-- backstitch/backstitchref4.LockWaits
noncomputable def T10_8 : List It := labAt Tryd.prog cfg 10 8 (fun _ => none)
noncomputable def L10_8 (vals : List AV) (lo : List Nat) (H : Heap) : Res := O.lab 10 [1, 3, 4] (T10_8) vals lo H
noncomputable def T10_11 : List It := labAt Tryd.prog cfg 10 11 (fun _ => none)
noncomputable def L10_11 (vals : List AV) (lo : List Nat) (H : Heap) : Res := O.lab 10 [1, 3, 4] (T10_11) vals lo H
noncomputable def T10_19 : List It := labAt Tryd.prog cfg 10 19 (fun _ => none)
noncomputable def L10_19 (vals : List AV) (lo : List Nat) (H : Heap) : Res := O.lab 10 [1, 3, 4, 5] (T10_19) vals lo H
theorem L10_8_eq (lo : List Nat) (v1 v3 v4 : AV) (H : Heap) : L10_8 [v1, v3, v4] lo H = (
(fldA 3 v1).bind fun x1 =>
(ld false 1 x1 H).bind fun x2 =>
(lenA .slice x2 H).bind fun x3 =>
(bin .lss .int v4 x3).bind fun x4 =>
cond x4 (
(fldA 3 v1).bind fun x5 =>
(ld false 1 x5 H).bind fun x6 =>
(idxA 5 x6 v4).bind fun x7 =>
(ld true 5 x7 H).bind fun x8 =>
(boxO [] [(.p nilS), (I 0), (I 0), (I 0), (I 0)] H).bind fun r9 =>
((stA 5 r9.1 x8 lo r9.2).map fun H' => (undefA, H')).bind fun r10 =>
(fldA 1 r9.1).bind fun x11 =>
(ld false 1 x11 r10.2).bind fun x12 =>
(bin .eql .int x12 (I 2)).bind fun x13 =>
cond x13 (
(fldA 2 r9.1).bind fun x14 =>
(ld false 1 x14 r10.2).bind fun x15 =>
(buildA [(I 0), (I 0), (I 0)] [(0, 1, v4), (1, 1, x15), (2, 1, I (-1))]).bind fun x16 =>
(litA false 3 [x16] r10.2).bind fun r17 =>
(appA 3 24 v3 r17.1 r17.2).bind fun r18 =>
L10_19 [v1, r18.1, v4, r9.1] lo r18.2) (
L10_19 [v1, v3, v4, r9.1] lo r10.2)) (
leave 0 lo [v3] H)) := by
  show O.lab _ _ _ _ _ _ = _
  rw [O_lab]
  kernel_rfl
theorem L10_11_eq (lo : List Nat) (v1 v3 v4 : AV) (H : Heap) : L10_11 [v1, v3, v4] lo H = (
(bin .add .int v4 (I 1)).bind fun x1 =>
L10_8 [v1, v3, x1] lo H) := by
  show O.lab _ _ _ _ _ _ = _
  rw [O_lab]
  kernel_rfl
theorem L10_19_eq (lo : List Nat) (v1 v3 v4 v5 : AV) (H : Heap) : L10_19 [v1, v3, v4, v5] lo H = (
(fldA 1 v5).bind fun x1 =>
(ld false 1 x1 H).bind fun x2 =>
(bin .eql .int x2 (I 1)).bind fun x3 =>
(gd x3 true (fldA 0 v1)).bind fun x4 =>
(gd x3 true (ld false 1 x4 H)).bind fun x5 =>
(gd x3 true (fldA 2 v5)).bind fun x6 =>
(gd x3 true (ld false 1 x6 H)).bind fun x7 =>
(gd x3 true (idxA 4 x5 x7)).bind fun x8 =>
(gd x3 true (fldA 1 x8)).bind fun x9 =>
(gd x3 true (ld false 1 x9 H)).bind fun x10 =>
(gd x3 true (bin .neq .int x10 (I (-1)))).bind fun x11 =>
(pickA x3 x11 (B false)).bind fun x12 =>
cond x12 (
(fldA 0 v1).bind fun x13 =>
(ld false 1 x13 H).bind fun x14 =>
(fldA 2 v5).bind fun x15 =>
(ld false 1 x15 H).bind fun x16 =>
(idxA 4 x14 x16).bind fun x17 =>
(fldA 1 x17).bind fun x18 =>
(ld false 1 x18 H).bind fun x19 =>
(fldA 2 v5).bind fun x20 =>
(ld false 1 x20 H).bind fun x21 =>
(buildA [(I 0), (I 0), (I 0)] [(0, 1, v4), (1, 1, x19), (2, 1, x21)]).bind fun x22 =>
(litA false 3 [x22] H).bind fun r23 =>
(appA 3 24 v3 r23.1 r23.2).bind fun r24 =>
L10_11 [v1, r24.1, v4] lo r24.2) (
L10_11 [v1, v3, v4] lo H)) := by
  show O.lab _ _ _ _ _ _ = _
  rw [O_lab]
  kernel_rfl
theorem f10_eq (a0 : AV) : O.ent 10 [a0] [] [] = (
(boxO [] (AV.cells a0) []).bind fun r1 =>
L10_8 [r1.1, .p nilS, I 0] [] r1.2) := by
  rw [O_ent]
  kernel_rfl
-- backstitch/code.large
theorem f20_eq (a0 : AV) : O.ent 20 [a0] [] [] = (
(boxO [] (AV.cells a0) []).bind fun r1 =>
(fldA 0 r1.1).bind fun x2 =>
(ld false 1 x2 r1.2).bind fun x3 =>
(lenA .slice x3 r1.2).bind fun x4 =>
(bin .gtr .int x4 (I 60)).bind fun x5 =>
(gd x5 false (fldA 1 r1.1)).bind fun x6 =>
(gd x5 false (ld false 1 x6 r1.2)).bind fun x7 =>
(gd x5 false (lenA .slice x7 r1.2)).bind fun x8 =>
(gd x5 false (bin .gtr .int x8 (I 200))).bind fun x9 =>
(pickA x5 (B true) x9).bind fun x10 =>
(gd x10 false (fldA 2 r1.1)).bind fun x11 =>
(gd x10 false (ld false 1 x11 r1.2)).bind fun x12 =>
(gd x10 false (lenA .slice x12 r1.2)).bind fun x13 =>
(gd x10 false (bin .gtr .int x13 (I 200))).bind fun x14 =>
(pickA x10 (B true) x14).bind fun x15 =>
(gd x15 false (fldA 2 r1.1)).bind fun x16 =>
(gd x15 false (ld false 1 x16 r1.2)).bind fun x17 =>
(gdH x15 false (callA cfg O 45 [x17, .fn 46 [] []] [] r1.2) r1.2).bind fun r18 =>
(pickA x15 (B true) r18.1).bind fun x19 =>
(gd x19 false (fldA 0 r1.1)).bind fun x20 =>
(gd x19 false (ld false 1 x20 r18.2)).bind fun x21 =>
(gdH x19 false (callA cfg O 22 [x21, .fn 47 [] []] [] r18.2) r18.2).bind fun r22 =>
(pickA x19 (B true) r22.1).bind fun x23 =>
leave 0 [] [x23] r22.2) := by
  rw [O_ent]
  kernel_rfl
-- backstitch/code.tables
noncomputable def T21_14 : List It := labAt Tryd.prog cfg 21 14 (fun _ => none)
noncomputable def L21_14 (vals : List AV) (lo : List Nat) (H : Heap) : Res := O.lab 21 [1, 4, 26, 27, 28] (T21_14) vals lo H
theorem L21_14_eq (lo : List Nat) (v1 v4 v26 v27 v28 : AV) (H : Heap) : L21_14 [v1, v4, v26, v27, v28] lo H = (
(bin .lss .int v28 v27).bind fun x1 =>
cond x1 (
(idxA 1 v26 v28).bind fun x2 =>
(ld false 1 x2 H).bind fun x3 =>
(lookA .str (I 0) false v4 x3 H).bind fun x4 =>
(bin .eql .int x4 (I 1)).bind fun x5 =>
cond x5 (
leave 0 lo [B false] H) (
((mapUpdA .str v4 x3 (I 1) lo H).map fun H' => (undefA, H')).bind fun r6 =>
(bin .add .int v28 (I 1)).bind fun x7 =>
L21_14 [v1, v4, v26, v27, x7] lo r6.2)) (
(fldA 1 v1).bind fun x8 =>
(ld false 1 x8 H).bind fun x9 =>
(callA cfg O 50 [x9, .fn 51 [] [v1]] lo H).bind fun r10 =>
(un .not r10.1).bind fun x11 =>
leave 0 lo [x11] r10.2)) := by
  show O.lab _ _ _ _ _ _ = _
  rw [O_lab]
  kernel_rfl
theorem f21_eq (a0 : AV) : O.ent 21 [a0] [] [] = (
(boxO [] (AV.cells a0) []).bind fun r1 =>
(callA cfg O 48 [] [] r1.2).bind fun r2 =>
(fldA 2 r1.1).bind fun x3 =>
(ld false 1 x3 r2.2).bind fun x4 =>
(lenA .slice x4 r2.2).bind fun x5 =>
(lenA .slice r2.1 r2.2).bind fun x6 =>
(bin .lss .int x5 x6).bind fun x7 =>
(gd x7 false (fldA 2 r1.1)).bind fun x8 =>
(gd x7 false (ld false 1 x8 r2.2)).bind fun x9 =>
(gd x7 false (some r2.1)).bind fun x10 =>
(gd x7 false (lenA .slice x10 r2.2)).bind fun x11 =>
(gd x7 false (cutA 1 x9 none (some x11) none r2.2)).bind fun x12 =>
(gd x7 false (some r2.1)).bind fun x13 =>
(gdH x7 false (callA cfg O 49 [x12, x13] [] r2.2) r2.2).bind fun r14 =>
(gd x7 false (un .not r14.1)).bind fun x15 =>
(pickA x7 (B true) x15).bind fun x16 =>
cond x16 (
leave 0 [] [B false] r14.2) (
(some (mkMap r14.2)).bind fun r17 =>
(fldA 2 r1.1).bind fun x18 =>
(ld false 1 x18 r17.2).bind fun x19 =>
(lenA .slice x19 r17.2).bind fun x20 =>
L21_14 [r1.1, r17.1, x19, x20, I 0] [] r17.2)) := by
  rw [O_ent]
  kernel_rfl
-- slices.ContainsFunc[[]backstitch/api.Fn,backstitch/api.Fn]
theorem f22_eq (a0 a1 : AV) (lo : List Nat) (H : Heap) : O.ent 22 [a0, a1] lo H = (
(callA cfg O 53 [a0, a1] (List.length H :: lo) H).bind fun r1 =>
(bin .geq .int r1.1 (I 0)).bind fun x2 =>
leave 3 (List.length H :: lo) [x2] r1.2) := by
  rw [O_ent]
  kernel_rfl
-- backstitch/code.Check$1
theorem f23_eq (a0 a1 : AV) (lo : List Nat) (H : Heap) : O.ent 23 [a0, a1] lo H = (
(boxO [] (AV.cells a0) H).bind fun r1 =>
(ld true 3 a1 r1.2).bind fun x2 =>
(ld true 5 r1.1 r1.2).bind fun x3 =>
(callA cfg O 24 [x2, x3] (List.length H :: lo) r1.2).bind fun r4 =>
(un .not r4.1).bind fun x5 =>
leave 3 (List.length H :: lo) [x5] r4.2) := by
  rw [O_ent]
  kernel_rfl
-- backstitch/cells.Check
theorem f25_eq (a0 : AV) : O.ent 25 [a0] [] [] = (
(boxO [] (AV.cells a0) []).bind fun r1 =>
(callA cfg O 56 [r1.1] [] r1.2).bind fun r2 =>
cond r2.1 (
leave 0 [] [I 2] r2.2) (
(fldA 1 r1.1).bind fun x3 =>
(ld false 1 x3 r2.2).bind fun x4 =>
(callA cfg O 57 [x4] [] r2.2).bind fun r5 =>
(bin .neq .int r5.1 (I 0)).bind fun x6 =>
cond x6 (
leave 0 [] [r5.1] r5.2) (
(fldA 2 r1.1).bind fun x7 =>
(ld false 1 x7 r5.2).bind fun x8 =>
(callA cfg O 58 [x8] [] r5.2).bind fun r9 =>
(un .not r9.1).bind fun x10 =>
(gd x10 false (fldA 1 r1.1)).bind fun x11 =>
(gd x10 false (ld false 1 x11 r9.2)).bind fun x12 =>
(gd x10 false (some (.fn 60 [] [r1.1]))).bind fun x13 =>
(gdH x10 false (callA cfg O 59 [x12, x13] [] r9.2) r9.2).bind fun r14 =>
(pickA x10 (B true) r14.1).bind fun x15 =>
(gd x15 false (fldA 0 r1.1)).bind fun x16 =>
(gd x15 false (ld false 1 x16 r14.2)).bind fun x17 =>
(gd x15 false (some (.fn 62 [] [r1.1]))).bind fun x18 =>
(gdH x15 false (callA cfg O 61 [x17, x18] [] r14.2) r14.2).bind fun r19 =>
(pickA x15 (B true) r19.1).bind fun x20 =>
cond x20 (
leave 0 [] [I 3] r19.2) (
(fldA 5 r1.1).bind fun x21 =>
(ld false 1 x21 r19.2).bind fun x22 =>
(callA cfg O 50 [x22, .fn 64 [] [r1.1]] [] r19.2).bind fun r23 =>
cond r23.1 (
leave 0 [] [I 3] r23.2) (
(fldA 4 r1.1).bind fun x24 =>
(ld false 1 x24 r23.2).bind fun x25 =>
(callA cfg O 66 [x25, .fn 67 [] [r1.1]] [] r23.2).bind fun r26 =>
cond r26.1 (
leave 0 [] [I 3] r26.2) (
leave 0 [] [I 0] r26.2)))))) := by
  rw [O_ent]
  kernel_rfl
-- slices.ContainsFunc[[]backstitch/api.Thread,backstitch/api.Thread]
theorem f26_eq (a0 a1 : AV) (lo : List Nat) (H : Heap) : O.ent 26 [a0, a1] lo H = (
(callA cfg O 70 [a0, a1] lo H).bind fun r1 =>
(bin .geq .int r1.1 (I 0)).bind fun x2 =>
leave 1 lo [x2] r1.2) := by
  rw [O_ent]
  kernel_rfl
-- backstitch/state.Check$1
theorem f27_eq (a0 : AV) (lo : List Nat) (H : Heap) : O.ent 27 [a0] lo H = (
(boxO [] (AV.cells a0) H).bind fun r1 =>
(fldA 0 r1.1).bind fun x2 =>
(ld false 1 x2 r1.2).bind fun x3 =>
(lenA .slice x3 r1.2).bind fun x4 =>
(bin .gtr .int x4 (I 30)).bind fun x5 =>
leave 3 (List.length H :: lo) [x5] r1.2) := by
  rw [O_ent]
  kernel_rfl
-- backstitch/code.All
noncomputable def T28_10 : List It := labAt Tryd.prog cfg 28 10 (fun _ => none)
noncomputable def L28_10 (vals : List AV) (lo : List Nat) (H : Heap) : Res := O.lab 28 [4, 5, 12, 13, 14] (T28_10) vals lo H
theorem L28_10_eq (lo : List Nat) (v4 v5 v12 v13 v14 : AV) (H : Heap) : L28_10 [v4, v5, v12, v13, v14] lo H = (
(bin .lss .int v14 v13).bind fun x1 =>
cond x1 (
(idxA 5 v12 v14).bind fun x2 =>
(ld true 5 x2 H).bind fun x3 =>
(boxO [] [(I 0), (I 0), (B false), (.p nilS), (.p nilS)] H).bind fun r4 =>
((stA 5 r4.1 x3 lo r4.2).map fun H' => (undefA, H')).bind fun r5 =>
(ld true 5 r4.1 r5.2).bind fun x6 =>
(callA cfg O 55 [x6] lo r5.2).bind fun r7 =>
(extractA r7.1 0).bind fun x8 =>
(extractA r7.1 1).bind fun x9 =>
(extractA r7.1 2).bind fun x10 =>
(litA false 1 [x8] r7.2).bind fun r11 =>
(appA 1 24 v4 r11.1 r11.2).bind fun r12 =>
(litA false 1 [x9] r12.2).bind fun r13 =>
(appA 1 24 v5 r13.1 r13.2).bind fun r14 =>
(bin .add .int v14 (I 1)).bind fun x15 =>
L28_10 [r12.1, r14.1, v12, v13, x15] lo r14.2) (
leave 0 lo [v4, v5] H)) := by
  show O.lab _ _ _ _ _ _ = _
  rw [O_lab]
  kernel_rfl
theorem f28_eq (a0 : AV) : O.ent 28 [a0] [] [] = (
(boxO [] (AV.cells a0) []).bind fun r1 =>
(fldA 0 r1.1).bind fun x2 =>
(ld false 1 x2 r1.2).bind fun x3 =>
(lenA .slice x3 r1.2).bind fun x4 =>
L28_10 [.p nilS, .p nilS, x3, x4, I 0] [] r1.2) := by
  rw [O_ent]
  kernel_rfl
-- (*backstitch/state.look).right
noncomputable def T29_16 : List It := labAt Tryd.prog cfg 29 16 (fun _ => none)
noncomputable def L29_16 (vals : List AV) (lo : List Nat) (H : Heap) : Res := O.lab 29 [1, 99, 100, 101] (T29_16) vals lo H
theorem L29_16_eq (lo : List Nat) (v1 v99 v100 v101 : AV) (H : Heap) : L29_16 [v1, v99, v100, v101] lo H = (
(bin .lss .int v101 v100).bind fun x1 =>
cond x1 (
(idxA 4 v99 v101).bind fun x2 =>
(ld true 4 x2 H).bind fun x3 =>
(boxO [] [(I 0), (I 0), (.p nilS), (.p nilS)] H).bind fun r4 =>
((stA 4 r4.1 x3 lo r4.2).map fun H' => (undefA, H')).bind fun r5 =>
(fldA 0 r4.1).bind fun x6 =>
(ld false 1 x6 r5.2).bind fun x7 =>
(bin .eql .int x7 (I 5)).bind fun x8 =>
(gd x8 true (fldA 1 r4.1)).bind fun x9 =>
(gd x8 true (ld false 1 x9 r5.2)).bind fun x10 =>
(gd x8 true (bin .eql .int x10 (I 1))).bind fun x11 =>
(pickA x8 x11 (B false)).bind fun x12 =>
(gd x12 true (ld false 1 v1 r5.2)).bind fun x13 =>
(gd x12 true (nilCheckA x13)).bind fun x14 =>
(gd x12 true (fldA 6 x14)).bind fun x15 =>
(gd x12 true (ld false 1 x15 r5.2)).bind fun x16 =>
(gd x12 true (some v101)).bind fun x17 =>
(gd x12 true (lookA .int (I 0) false x16 x17 r5.2)).bind fun x18 =>
(gd x12 true (bin .eql .int x18 (I 0))).bind fun x19 =>
(pickA x12 x19 (B false)).bind fun x20 =>
cond x20 (
leave 1 lo [B false] r5.2) (
(bin .add .int v101 (I 1)).bind fun x21 =>
L29_16 [v1, v99, v100, x21] lo r5.2)) (
leave 1 lo [B true] H)) := by
  show O.lab _ _ _ _ _ _ = _
  rw [O_lab]
  kernel_rfl
theorem f29_eq (a0 : AV) (lo : List Nat) (H : Heap) : O.ent 29 [a0] lo H = (
(boxO [] (AV.cells a0) H).bind fun r1 =>
(ld false 1 r1.1 r1.2).bind fun x2 =>
(nilCheckA x2).bind fun x3 =>
(fldA 0 x3).bind fun x4 =>
(fldA 2 x4).bind fun x5 =>
(ld false 1 x5 r1.2).bind fun x6 =>
(lenA .slice x6 r1.2).bind fun x7 =>
(ld false 1 r1.1 r1.2).bind fun x8 =>
(nilCheckA x8).bind fun x9 =>
(fldA 3 x9).bind fun x10 =>
(ld false 1 x10 r1.2).bind fun x11 =>
(nilCheckA x11).bind fun x12 =>
(fldA 2 x12).bind fun x13 =>
(ld false 1 x13 r1.2).bind fun x14 =>
(lenA .slice x14 r1.2).bind fun x15 =>
(bin .lss .int x15 x7).bind fun x16 =>
(gd x16 false (ld false 1 r1.1 r1.2)).bind fun x17 =>
(gd x16 false (nilCheckA x17)).bind fun x18 =>
(gd x16 false (fldA 3 x18)).bind fun x19 =>
(gd x16 false (ld false 1 x19 r1.2)).bind fun x20 =>
(gd x16 false (nilCheckA x20)).bind fun x21 =>
(gd x16 false (fldA 2 x21)).bind fun x22 =>
(gd x16 false (ld false 1 x22 r1.2)).bind fun x23 =>
(gd x16 false (some x7)).bind fun x24 =>
(gd x16 false (cutA 1 x23 none (some x24) none r1.2)).bind fun x25 =>
(gd x16 false (ld false 1 r1.1 r1.2)).bind fun x26 =>
(gd x16 false (nilCheckA x26)).bind fun x27 =>
(gd x16 false (fldA 0 x27)).bind fun x28 =>
(gd x16 false (fldA 2 x28)).bind fun x29 =>
(gd x16 false (ld false 1 x29 r1.2)).bind fun x30 =>
(gdH x16 false (callA cfg O 49 [x25, x30] lo r1.2) r1.2).bind fun r31 =>
(gd x16 false (un .not r31.1)).bind fun x32 =>
(pickA x16 (B true) x32).bind fun x33 =>
(gd x33 false (ld false 1 r1.1 r31.2)).bind fun x34 =>
(gd x33 false (nilCheckA x34)).bind fun x35 =>
(gd x33 false (fldA 3 x35)).bind fun x36 =>
(gd x33 false (ld false 1 x36 r31.2)).bind fun x37 =>
(gd x33 false (nilCheckA x37)).bind fun x38 =>
(gd x33 false (fldA 7 x38)).bind fun x39 =>
(gd x33 false (ld false 1 x39 r31.2)).bind fun x40 =>
(gdH x33 false (callA cfg O 71 [x40, I 0, I 1000000000] lo r31.2) r31.2).bind fun r41 =>
(gd x33 false (un .not r41.1)).bind fun x42 =>
(pickA x33 (B true) x42).bind fun x43 =>
(gd x43 false (ld false 1 r1.1 r41.2)).bind fun x44 =>
(gd x43 false (nilCheckA x44)).bind fun x45 =>
(gd x43 false (fldA 3 x45)).bind fun x46 =>
(gd x43 false (ld false 1 x46 r41.2)).bind fun x47 =>
(gd x43 false (nilCheckA x47)).bind fun x48 =>
(gd x43 false (fldA 6 x48)).bind fun x49 =>
(gd x43 false (ld false 1 x49 r41.2)).bind fun x50 =>
(gdH x43 false (callA cfg O 71 [x50, I 0, I 1000000000] lo r41.2) r41.2).bind fun r51 =>
(gd x43 false (un .not r51.1)).bind fun x52 =>
(pickA x43 (B true) x52).bind fun x53 =>
(gd x53 false (ld false 1 r1.1 r51.2)).bind fun x54 =>
(gd x53 false (nilCheckA x54)).bind fun x55 =>
(gd x53 false (fldA 3 x55)).bind fun x56 =>
(gd x53 false (ld false 1 x56 r51.2)).bind fun x57 =>
(gd x53 false (nilCheckA x57)).bind fun x58 =>
(gd x53 false (fldA 3 x58)).bind fun x59 =>
(gd x53 false (ld false 1 x59 r51.2)).bind fun x60 =>
(gd x53 false (lenA .slice x60 r51.2)).bind fun x61 =>
(gd x53 false (bin .eql .int x61 (I 0))).bind fun x62 =>
(pickA x53 (B true) x62).bind fun x63 =>
cond x63 (
leave 1 lo [B false] r51.2) (
(ld false 1 r1.1 r51.2).bind fun x64 =>
(nilCheckA x64).bind fun x65 =>
(fldA 3 x65).bind fun x66 =>
(ld false 1 x66 r51.2).bind fun x67 =>
(nilCheckA x67).bind fun x68 =>
(fldA 0 x68).bind fun x69 =>
(ld false 1 x69 r51.2).bind fun x70 =>
(callA cfg O 61 [x70, .fn 72 [] [r1.1]] lo r51.2).bind fun r71 =>
(gd r71.1 false (ld false 1 r1.1 r71.2)).bind fun x72 =>
(gd r71.1 false (nilCheckA x72)).bind fun x73 =>
(gd r71.1 false (fldA 3 x73)).bind fun x74 =>
(gd r71.1 false (ld false 1 x74 r71.2)).bind fun x75 =>
(gd r71.1 false (nilCheckA x75)).bind fun x76 =>
(gd r71.1 false (fldA 3 x76)).bind fun x77 =>
(gd r71.1 false (ld false 1 x77 r71.2)).bind fun x78 =>
(gd r71.1 false (some (.fn 74 [] [r1.1]))).bind fun x79 =>
(gdH r71.1 false (callA cfg O 26 [x78, x79] lo r71.2) r71.2).bind fun r80 =>
(pickA r71.1 (B true) r80.1).bind fun x81 =>
cond x81 (
leave 1 lo [B false] r80.2) (
(ld false 1 r1.1 r80.2).bind fun x82 =>
(nilCheckA x82).bind fun x83 =>
(fldA 3 x83).bind fun x84 =>
(ld false 1 x84 r80.2).bind fun x85 =>
(nilCheckA x85).bind fun x86 =>
(fldA 0 x86).bind fun x87 =>
(ld false 1 x87 r80.2).bind fun x88 =>
(lenA .slice x88 r80.2).bind fun x89 =>
L29_16 [r1.1, x88, x89, I 0] lo r80.2))) := by
  rw [O_ent]
  kernel_rfl
-- slices.ContainsFunc[[]string,string]
theorem f45_eq (a0 a1 : AV) (lo : List Nat) (H : Heap) : O.ent 45 [a0, a1] lo H = (
(callA cfg O 85 [a0, a1] (List.length H :: lo) H).bind fun r1 =>
(bin .geq .int r1.1 (I 0)).bind fun x2 =>
leave 3 (List.length H :: lo) [x2] r1.2) := by
  rw [O_ent]
  kernel_rfl
-- backstitch/code.large$1
theorem f46_eq (a0 : AV) : O.ent 46 [a0] [] [] = (
(lenA .str a0 []).bind fun x1 =>
(bin .gtr .int x1 (I 200)).bind fun x2 =>
leave 0 [] [x2] []) := by
  rw [O_ent]
  kernel_rfl
-- backstitch/code.large$2
theorem f47_eq (a0 : AV) : O.ent 47 [a0] [] [] = (
(boxO [] (AV.cells a0) []).bind fun r1 =>
(fldA 4 r1.1).bind fun x2 =>
(ld false 1 x2 r1.2).bind fun x3 =>
(lenA .slice x3 r1.2).bind fun x4 =>
(bin .gtr .int x4 (I 600)).bind fun x5 =>
(gd x5 false (fldA 1 r1.1)).bind fun x6 =>
(gd x5 false (ld false 1 x6 r1.2)).bind fun x7 =>
(gd x5 false (bin .gtr .int x7 (I 60))).bind fun x8 =>
(pickA x5 (B true) x8).bind fun x9 =>
leave 0 [] [x9] r1.2) := by
  rw [O_ent]
  kernel_rfl
-- backstitch/ops.Words
theorem f48_eq : O.ent 48 [] [] [] = (
(callA cfg O 86 [.p (.v (.string ⟨#[107, 105, 110, 100, 32, 114, 97, 110, 103, 101, 32, 122, 101, 114, 111, 32, 105, 110, 100, 101, 120, 32, 108, 97, 114, 103, 101, 32, 100, 101, 101, 112, 32, 115, 116, 97, 116, 101, 32, 99, 111, 117, 110, 116, 32, 110, 105, 108, 32, 98, 111, 111, 108, 32, 105, 110, 116, 32, 102, 108, 111, 97, 116, 32, 116, 101, 120, 116, 32, 111, 98, 106, 101, 99, 116, 32, 108, 105, 115, 116, 32, 102, 117, 110, 99, 116, 105, 111, 110, 32, 103, 101, 110, 101, 114, 97, 116, 111, 114, 32, 108, 111, 99, 107, 32, 119, 101, 97, 107]⟩))] [] []).bind fun r1 =>
leave 0 [] [r1.1] r1.2) := by
  rw [O_ent]
  kernel_rfl
-- slices.Equal[[]string,string]
noncomputable def T49_10 : List It := labAt Tryd.prog cfg 49 10 (fun _ => none)
noncomputable def L49_10 (vals : List AV) (lo : List Nat) (H : Heap) : Res := O.lab 49 [0, 1, 12, 13] (T49_10) vals lo H
theorem L49_10_eq (lo : List Nat) (v0 v1 v12 v13 : AV) (H : Heap) : L49_10 [v0, v1, v12, v13] lo H = (
(bin .lss .int v13 v12).bind fun x1 =>
cond x1 (
(idxA 1 v0 v13).bind fun x2 =>
(ld false 1 x2 H).bind fun x3 =>
(idxA 1 v1 v13).bind fun x4 =>
(ld false 1 x4 H).bind fun x5 =>
(bin .neq .str x3 x5).bind fun x6 =>
cond x6 (
leave 0 lo [B false] H) (
(bin .add .int v13 (I 1)).bind fun x7 =>
L49_10 [v0, v1, v12, x7] lo H)) (
leave 0 lo [B true] H)) := by
  show O.lab _ _ _ _ _ _ = _
  rw [O_lab]
  kernel_rfl
theorem f49_eq (a0 a1 : AV) : O.ent 49 [a0, a1] [] [] = (
(lenA .slice a0 []).bind fun x1 =>
(lenA .slice a1 []).bind fun x2 =>
(bin .neq .int x1 x2).bind fun x3 =>
cond x3 (
leave 0 [] [B false] []) (
(lenA .slice a0 []).bind fun x4 =>
L49_10 [a0, a1, x4, I 0] [] [])) := by
  rw [O_ent]
  kernel_rfl
-- slices.ContainsFunc[[]backstitch/api.Val,backstitch/api.Val]
theorem f50_eq (a0 a1 : AV) (lo : List Nat) (H : Heap) : O.ent 50 [a0, a1] lo H = (
(callA cfg O 87 [a0, a1] (List.length H :: lo) H).bind fun r1 =>
(bin .geq .int r1.1 (I 0)).bind fun x2 =>
leave 3 (List.length H :: lo) [x2] r1.2) := by
  rw [O_ent]
  kernel_rfl
-- backstitch/code.tables$1
theorem f51_eq (a0 a1 : AV) (lo : List Nat) (H : Heap) : O.ent 51 [a0, a1] lo H = (
(boxO [] (AV.cells a0) H).bind fun r1 =>
(ld true 2 r1.1 r1.2).bind fun x2 =>
(callA cfg O 52 [x2] (List.length H :: lo) r1.2).bind fun r3 =>
(un .not r3.1).bind fun x4 =>
(gd x4 false (fldA 0 r1.1)).bind fun x5 =>
(gd x4 false (ld false 1 x5 r3.2)).bind fun x6 =>
(gd x4 false (bin .eql .int x6 (I 5))).bind fun x7 =>
(pickA x4 (B true) x7).bind fun x8 =>
(gd x8 false (fldA 0 r1.1)).bind fun x9 =>
(gd x8 false (ld false 1 x9 r3.2)).bind fun x10 =>
(gd x8 false (bin .eql .int x10 (I 4))).bind fun x11 =>
(gd x8 false (some x11)).bind fun x12 =>
(gd x12 true (fldA 1 r1.1)).bind fun x13 =>
(gd x12 true (ld false 1 x13 r3.2)).bind fun x14 =>
(gd x12 true (fldA 2 a1)).bind fun x15 =>
(gd x12 true (ld false 1 x15 r3.2)).bind fun x16 =>
(gd x12 true (lenA .slice x16 r3.2)).bind fun x17 =>
(gd x12 true (bin .geq .int x14 x17)).bind fun x18 =>
(gd x8 false (pickA x12 x18 (B false))).bind fun x19 =>
(pickA x8 (B true) x19).bind fun x20 =>
leave 3 (List.length H :: lo) [x20] r3.2) := by
  rw [O_ent]
  kernel_rfl
-- slices.IndexFunc[[]backstitch/api.Fn,backstitch/api.Fn]
noncomputable def T53_6 : List It := labAt Tryd.prog cfg 53 6 (fun _ => none)
noncomputable def L53_6 (vals : List AV) (lo : List Nat) (H : Heap) : Res := O.lab 53 [0, 1, 7, 8] (T53_6) vals lo H
theorem L53_6_eq (lo : List Nat) (v0 v1 v7 v8 : AV) (H : Heap) : L53_6 [v0, v1, v7, v8] lo H = (
(bin .lss .int v8 v7).bind fun x1 =>
cond x1 (
(idxA 5 v0 v8).bind fun x2 =>
(ld true 5 x2 H).bind fun x3 =>
(callV cfg O v1 [x3] lo H).bind fun r4 =>
cond r4.1 (
leave 3 lo [v8] r4.2) (
(bin .add .int v8 (I 1)).bind fun x5 =>
L53_6 [v0, v1, v7, x5] lo r4.2)) (
leave 3 lo [I (-1)] H)) := by
  show O.lab _ _ _ _ _ _ = _
  rw [O_lab]
  kernel_rfl
theorem f53_eq (a0 a1 : AV) (lo : List Nat) (H : Heap) : O.ent 53 [a0, a1] lo H = (
(lenA .slice a0 H).bind fun x1 =>
L53_6 [a0, a1, x1, I 0] (List.length H :: lo) H) := by
  rw [O_ent]
  kernel_rfl
-- backstitch/code.function
noncomputable def T24_12 : List It := labAt Tryd.prog cfg 24 12 (fun _ => none)
noncomputable def L24_12 (vals : List AV) (lo : List Nat) (H : Heap) : Res := O.lab 24 [3, 5, 30, 31, 32] (T24_12) vals lo H
theorem L24_12_eq (lo : List Nat) (v3 v5 v30 v31 v32 : AV) (H : Heap) : L24_12 [v3, v5, v30, v31, v32] lo H = (
(bin .lss .int v32 v31).bind fun x1 =>
cond x1 (
(idxA 5 v30 v32).bind fun x2 =>
(ld true 5 x2 H).bind fun x3 =>
(boxO [] [(I 0), (I 0), (I 0), (I 0), (I 0)] H).bind fun r4 =>
((stA 5 r4.1 x3 lo r4.2).map fun H' => (undefA, H')).bind fun r5 =>
(ld true 8 v5 r5.2).bind fun x6 =>
(ld true 5 r4.1 r5.2).bind fun x7 =>
(callA cfg O 54 [x6, v32, x7] lo r5.2).bind fun r8 =>
(un .not r8.1).bind fun x9 =>
cond x9 (
leave 0 lo [B false] r8.2) (
(bin .add .int v32 (I 1)).bind fun x10 =>
L24_12 [v3, v5, v30, v31, x10] lo r8.2)) (
(ld true 5 v3 H).bind fun x11 =>
(callA cfg O 55 [x11] lo H).bind fun r12 =>
(extractA r12.1 0).bind fun x13 =>
(extractA r12.1 1).bind fun x14 =>
(extractA r12.1 2).bind fun x15 =>
leave 0 lo [x15] r12.2)) := by
  show O.lab _ _ _ _ _ _ = _
  rw [O_lab]
  kernel_rfl
theorem f24_eq (a0 a1 : AV) : O.ent 24 [a0, a1] [] [] = (
(boxO [] (AV.cells a0) []).bind fun r1 =>
(boxO [] (AV.cells a1) r1.2).bind fun r2 =>
(ld true 3 r1.1 r2.2).bind fun x3 =>
(ld true 5 r2.1 r2.2).bind fun x4 =>
(buildA [(.p nilS), (.p nilS), (.p nilS), (I 0), (I 0), (B false), (.p nilS), (.p nilS)] [(0, 3, x3), (3, 5, x4)]).bind fun x5 =>
(boxO [] [(.p nilS), (.p nilS), (.p nilS), (I 0), (I 0), (B false), (.p nilS), (.p nilS)] r2.2).bind fun r6 =>
((stA 8 r6.1 x5 [] r6.2).map fun H' => (undefA, H')).bind fun r7 =>
(fldA 0 r2.1).bind fun x8 =>
(ld false 1 x8 r7.2).bind fun x9 =>
(bin .lss .int x9 (I 0)).bind fun x10 =>
(gd x10 false (fldA 1 r2.1)).bind fun x11 =>
(gd x10 false (ld false 1 x11 r7.2)).bind fun x12 =>
(gd x10 false (bin .lss .int x12 (I 1))).bind fun x13 =>
(pickA x10 (B true) x13).bind fun x14 =>
(gd x14 false (fldA 0 r2.1)).bind fun x15 =>
(gd x14 false (ld false 1 x15 r7.2)).bind fun x16 =>
(gd x14 false (fldA 1 r2.1)).bind fun x17 =>
(gd x14 false (ld false 1 x17 r7.2)).bind fun x18 =>
(gd x14 false (bin .gtr .int x16 x18)).bind fun x19 =>
(pickA x14 (B true) x19).bind fun x20 =>
cond x20 (
leave 0 [] [B false] r7.2) (
(fldA 4 r2.1).bind fun x21 =>
(ld false 1 x21 r7.2).bind fun x22 =>
(lenA .slice x22 r7.2).bind fun x23 =>
L24_12 [r2.1, r6.1, x22, x23, I 0] [] r7.2)) := by
  rw [O_ent]
  kernel_rfl
-- backstitch/cells.large
theorem f56_eq (a0 : AV) (lo : List Nat) (H : Heap) : O.ent 56 [a0] lo H = (
(nilCheckA a0).bind fun x1 =>
(fldA 0 x1).bind fun x2 =>
(ld false 1 x2 H).bind fun x3 =>
(lenA .slice x3 H).bind fun x4 =>
(bin .gtr .int x4 (I 300)).bind fun x5 =>
(gd x5 false (some a0)).bind fun x6 =>
(gd x5 false (nilCheckA x6)).bind fun x7 =>
(gd x5 false (fldA 2 x7)).bind fun x8 =>
(gd x5 false (ld false 1 x8 H)).bind fun x9 =>
(gd x5 false (lenA .slice x9 H)).bind fun x10 =>
(gd x5 false (bin .gtr .int x10 (I 300))).bind fun x11 =>
(pickA x5 (B true) x11).bind fun x12 =>
(gd x12 false (some a0)).bind fun x13 =>
(gd x12 false (nilCheckA x13)).bind fun x14 =>
(gd x12 false (fldA 5 x14)).bind fun x15 =>
(gd x12 false (ld false 1 x15 H)).bind fun x16 =>
(gd x12 false (lenA .slice x16 H)).bind fun x17 =>
(gd x12 false (bin .gtr .int x17 (I 200))).bind fun x18 =>
(pickA x12 (B true) x18).bind fun x19 =>
(gd x19 false (some a0)).bind fun x20 =>
(gd x19 false (nilCheckA x20)).bind fun x21 =>
(gd x19 false (fldA 4 x21)).bind fun x22 =>
(gd x19 false (ld false 1 x22 H)).bind fun x23 =>
(gd x19 false (lenA .slice x23 H)).bind fun x24 =>
(gd x19 false (bin .gtr .int x24 (I 100))).bind fun x25 =>
(pickA x19 (B true) x25).bind fun x26 =>
(gd x26 false (some a0)).bind fun x27 =>
(gd x26 false (nilCheckA x27)).bind fun x28 =>
(gd x26 false (fldA 2 x28)).bind fun x29 =>
(gd x26 false (ld false 1 x29 H)).bind fun x30 =>
(gdH x26 false (callA cfg O 45 [x30, .fn 97 [] []] (List.length H :: lo) H) H).bind fun r31 =>
(pickA x26 (B true) r31.1).bind fun x32 =>
(gd x32 false (some a0)).bind fun x33 =>
(gd x32 false (nilCheckA x33)).bind fun x34 =>
(gd x32 false (fldA 0 x34)).bind fun x35 =>
(gd x32 false (ld false 1 x35 r31.2)).bind fun x36 =>
(gdH x32 false (callA cfg O 61 [x36, .fn 98 [] []] (List.length H :: lo) r31.2) r31.2).bind fun r37 =>
(pickA x32 (B true) r37.1).bind fun x38 =>
leave 3 (List.length H :: lo) [x38] r37.2) := by
  rw [O_ent]
  kernel_rfl
-- backstitch/shape.Check
noncomputable def T57_16 : List It := labAt Tryd.prog cfg 57 16 (fun _ => none)
noncomputable def L57_16 (vals : List AV) (lo : List Nat) (H : Heap) : Res := O.lab 57 [0, 3, 21, 22, 23] (T57_16) vals lo H
theorem L57_16_eq (lo : List Nat) (v0 v3 v21 v22 v23 : AV) (H : Heap) : L57_16 [v0, v3, v21, v22, v23] lo H = (
(bin .lss .int v23 v22).bind fun x1 =>
cond x1 (
(idxA 2 v21 v23).bind fun x2 =>
(ld true 2 x2 H).bind fun x3 =>
(boxO [] [(I 0), (I 0)] H).bind fun r4 =>
((stA 2 r4.1 x3 lo r4.2).map fun H' => (undefA, H')).bind fun r5 =>
(fldA 0 r4.1).bind fun x6 =>
(ld false 1 x6 r5.2).bind fun x7 =>
(bin .lss .int x7 (I 0)).bind fun x8 =>
(gd x8 false (fldA 0 r4.1)).bind fun x9 =>
(gd x8 false (ld false 1 x9 r5.2)).bind fun x10 =>
(gd x8 false (some v23)).bind fun x11 =>
(gd x8 false (bin .gtr .int x10 x11)).bind fun x12 =>
(pickA x8 (B true) x12).bind fun x13 =>
(gd x13 false (fldA 1 r4.1)).bind fun x14 =>
(gd x13 false (ld false 1 x14 r5.2)).bind fun x15 =>
(gd x13 false (bin .lss .int x15 (I 0))).bind fun x16 =>
(pickA x13 (B true) x16).bind fun x17 =>
(gd x17 false (some v3)).bind fun x18 =>
(gd x17 false (ld true 2 r4.1 r5.2)).bind fun x19 =>
(gd x17 false (lookA (.agg 2 [(0, .int), (1, .int)]) (I 0) false x18 x19 r5.2)).bind fun x20 =>
(gd x17 false (bin .eql .int x20 (I 1))).bind fun x21 =>
(pickA x17 (B true) x21).bind fun x22 =>
(gd x22 false (some v0)).bind fun x23 =>
(gd x22 false (fldA 0 r4.1)).bind fun x24 =>
(gd x22 false (ld false 1 x24 r5.2)).bind fun x25 =>
(gdH x22 false (callA cfg O 100 [x23, x25] lo r5.2) r5.2).bind fun r26 =>
(gd x22 false (fldA 1 r4.1)).bind fun x27 =>
(gd x22 false (ld false 1 x27 r26.2)).bind fun x28 =>
(gdH x22 false (callA cfg O 99 [r26.1, x28] lo r26.2) r26.2).bind fun r29 =>
(pickA x22 (B true) r29.1).bind fun x30 =>
cond x30 (
leave 0 lo [I 3] r29.2) (
(ld true 2 r4.1 r29.2).bind fun x31 =>
((mapUpdA (.agg 2 [(0, .int), (1, .int)]) v3 x31 (I 1) lo r29.2).map fun H' => (undefA, H')).bind fun r32 =>
(bin .add .int v23 (I 1)).bind fun x33 =>
L57_16 [v0, v3, v21, v22, x33] lo r32.2)) (
leave 0 lo [I 0] H)) := by
  show O.lab _ _ _ _ _ _ = _
  rw [O_lab]
  kernel_rfl
theorem f57_eq (a0 : AV) : O.ent 57 [a0] [] [] = (
(lenA .slice a0 []).bind fun x1 =>
(bin .gtr .int x1 (I 100)).bind fun x2 =>
cond x2 (
leave 0 [] [I 2] []) (
(lenA .slice a0 []).bind fun x3 =>
(bin .eql .int x3 (I 0)).bind fun x4 =>
(gd x4 false (some a0)).bind fun x5 =>
(gd x4 false (idxA 2 x5 (I 0))).bind fun x6 =>
(gd x4 false (ld true 2 x6 [])).bind fun x7 =>
(gd x4 false (buildA [(I 0), (I 0)] [(0, 1, I (-1)), (1, 1, I (-1))])).bind fun x8 =>
(gd x4 false (bin .neq (.agg 2 [(0, .int), (1, .int)]) x7 x8)).bind fun x9 =>
(pickA x4 (B true) x9).bind fun x10 =>
cond x10 (
leave 0 [] [I 3] []) (
(some (mkMap [])).bind fun r11 =>
(cutA 2 a0 (some (I 1)) none none r11.2).bind fun x12 =>
(lenA .slice x12 r11.2).bind fun x13 =>
L57_16 [a0, r11.1, x12, x13, I 0] [] r11.2))) := by
  rw [O_ent]
  kernel_rfl
-- backstitch/cells.texts
noncomputable def T58_10 : List It := labAt Tryd.prog cfg 58 10 (fun _ => none)
noncomputable def L58_10 (vals : List AV) (lo : List Nat) (H : Heap) : Res := O.lab 58 [0, 3, 4, 9, 10, 11] (T58_10) vals lo H
theorem L58_10_eq (lo : List Nat) (v0 v3 v4 v9 v10 v11 : AV) (H : Heap) : L58_10 [v0, v3, v4, v9, v10, v11] lo H = (
(bin .lss .int v11 v10).bind fun x1 =>
cond x1 (
(idxA 1 v9 v11).bind fun x2 =>
(ld false 1 x2 H).bind fun x3 =>
(lookA .str (I 0) false v4 x3 H).bind fun x4 =>
(bin .eql .int x4 (I 1)).bind fun x5 =>
(gd x5 false (some v11)).bind fun x6 =>
(gd x5 false (some v3)).bind fun x7 =>
(gd x5 false (lenA .slice x7 H)).bind fun x8 =>
(gd x5 false (bin .lss .int x6 x8)).bind fun x9 =>
(gd x5 false (some x9)).bind fun x10 =>
(gd x10 true (some x3)).bind fun x11 =>
(gd x10 true (some v3)).bind fun x12 =>
(gd x10 true (some v11)).bind fun x13 =>
(gd x10 true (idxA 1 x12 x13)).bind fun x14 =>
(gd x10 true (ld false 1 x14 H)).bind fun x15 =>
(gd x10 true (bin .neq .str x11 x15)).bind fun x16 =>
(gd x5 false (pickA x10 x16 (B false))).bind fun x17 =>
(pickA x5 (B true) x17).bind fun x18 =>
cond x18 (
leave 0 lo [B false] H) (
((mapUpdA .str v4 x3 (I 1) lo H).map fun H' => (undefA, H')).bind fun r19 =>
(bin .add .int v11 (I 1)).bind fun x20 =>
L58_10 [v0, v3, v4, v9, v10, x20] lo r19.2)) (
(lenA .slice v0 H).bind fun x21 =>
(lenA .slice v3 H).bind fun x22 =>
(bin .geq .int x21 x22).bind fun x23 =>
leave 0 lo [x23] H)) := by
  show O.lab _ _ _ _ _ _ = _
  rw [O_lab]
  kernel_rfl
theorem f58_eq (a0 : AV) : O.ent 58 [a0] [] [] = (
(callA cfg O 48 [] [] []).bind fun r1 =>
(some (mkMap r1.2)).bind fun r2 =>
(lenA .slice a0 r2.2).bind fun x3 =>
L58_10 [a0, r1.1, r2.1, a0, x3, I 0] [] r2.2) := by
  rw [O_ent]
  kernel_rfl
-- slices.ContainsFunc[[]backstitch/api.Shape,backstitch/api.Shape]
theorem f59_eq (a0 a1 : AV) (lo : List Nat) (H : Heap) : O.ent 59 [a0, a1] lo H = (
(callA cfg O 101 [a0, a1] (List.length H :: lo) H).bind fun r1 =>
(bin .geq .int r1.1 (I 0)).bind fun x2 =>
leave 3 (List.length H :: lo) [x2] r1.2) := by
  rw [O_ent]
  kernel_rfl
-- backstitch/cells.Check$1
theorem f60_eq (a0 a1 : AV) (lo : List Nat) (H : Heap) : O.ent 60 [a0, a1] lo H = (
(boxO [] (AV.cells a0) H).bind fun r1 =>
(fldA 1 r1.1).bind fun x2 =>
(ld false 1 x2 r1.2).bind fun x3 =>
(fldA 2 a1).bind fun x4 =>
(ld false 1 x4 r1.2).bind fun x5 =>
(lenA .slice x5 r1.2).bind fun x6 =>
(bin .geq .int x3 x6).bind fun x7 =>
leave 3 (List.length H :: lo) [x7] r1.2) := by
  rw [O_ent]
  kernel_rfl
-- slices.ContainsFunc[[]backstitch/api.Cell,backstitch/api.Cell]
theorem f61_eq (a0 a1 : AV) (lo : List Nat) (H : Heap) : O.ent 61 [a0, a1] lo H = (
(callA cfg O 102 [a0, a1] (List.length H :: lo) H).bind fun r1 =>
(bin .geq .int r1.1 (I 0)).bind fun x2 =>
leave 3 (List.length H :: lo) [x2] r1.2) := by
  rw [O_ent]
  kernel_rfl
-- backstitch/cells.Check$2
theorem f62_eq (a0 a1 : AV) (lo : List Nat) (H : Heap) : O.ent 62 [a0, a1] lo H = (
(boxO [] (AV.cells a0) H).bind fun r1 =>
(ld true 4 r1.1 r1.2).bind fun x2 =>
(callA cfg O 63 [a1, x2] (List.length H :: lo) r1.2).bind fun r3 =>
(un .not r3.1).bind fun x4 =>
leave 3 (List.length H :: lo) [x4] r3.2) := by
  rw [O_ent]
  kernel_rfl
-- backstitch/cells.Check$3
theorem f64_eq (a0 a1 : AV) (lo : List Nat) (H : Heap) : O.ent 64 [a0, a1] lo H = (
(boxO [] (AV.cells a0) H).bind fun r1 =>
(fldA 0 r1.1).bind fun x2 =>
(ld false 1 x2 r1.2).bind fun x3 =>
(bin .neq .int x3 (I 4)).bind fun x4 =>
(gd x4 false (ld true 2 r1.1 r1.2)).bind fun x5 =>
(gdH x4 false (callA cfg O 65 [a1, x5] (List.length H :: lo) r1.2) r1.2).bind fun r6 =>
(gd x4 false (un .not r6.1)).bind fun x7 =>
(pickA x4 (B true) x7).bind fun x8 =>
leave 3 (List.length H :: lo) [x8] r6.2) := by
  rw [O_ent]
  kernel_rfl
-- slices.ContainsFunc[[]backstitch/api.End,backstitch/api.End]
theorem f66_eq (a0 a1 : AV) (lo : List Nat) (H : Heap) : O.ent 66 [a0, a1] lo H = (
(callA cfg O 109 [a0, a1] (List.length H :: lo) H).bind fun r1 =>
(bin .geq .int r1.1 (I 0)).bind fun x2 =>
leave 3 (List.length H :: lo) [x2] r1.2) := by
  rw [O_ent]
  kernel_rfl
-- backstitch/cells.Check$4
theorem f67_eq (a0 a1 : AV) (lo : List Nat) (H : Heap) : O.ent 67 [a0, a1] lo H = (
(boxO [] (AV.cells a0) H).bind fun r1 =>
(fldA 0 r1.1).bind fun x2 =>
(ld false 1 x2 r1.2).bind fun x3 =>
(fldA 0 a1).bind fun x4 =>
(ld false 1 x4 r1.2).bind fun x5 =>
(lenA .slice x5 r1.2).bind fun x6 =>
(bin .sub .int x6 (I 1)).bind fun x7 =>
(callA cfg O 68 [x3, I 0, x7] (List.length H :: lo) r1.2).bind fun r8 =>
(un .not r8.1).bind fun x9 =>
(gd x9 false (fldA 1 r1.1)).bind fun x10 =>
(gd x9 false (ld true 2 x10 r8.2)).bind fun x11 =>
(gdH x9 false (callA cfg O 69 [a1, x11, I 4] (List.length H :: lo) r8.2) r8.2).bind fun r12 =>
(gd x9 false (un .not r12.1)).bind fun x13 =>
(pickA x9 (B true) x13).bind fun x14 =>
leave 3 (List.length H :: lo) [x14] r12.2) := by
  rw [O_ent]
  kernel_rfl
-- slices.IndexFunc[[]backstitch/api.Thread,backstitch/api.Thread]
noncomputable def T70_6 : List It := labAt Tryd.prog cfg 70 6 (fun _ => none)
noncomputable def L70_6 (vals : List AV) (lo : List Nat) (H : Heap) : Res := O.lab 70 [0, 1, 7, 8] (T70_6) vals lo H
theorem L70_6_eq (lo : List Nat) (v0 v1 v7 v8 : AV) (H : Heap) : L70_6 [v0, v1, v7, v8] lo H = (
(bin .lss .int v8 v7).bind fun x1 =>
cond x1 (
(idxA 5 v0 v8).bind fun x2 =>
(ld true 5 x2 H).bind fun x3 =>
(callV cfg O v1 [x3] lo H).bind fun r4 =>
cond r4.1 (
leave 1 lo [v8] r4.2) (
(bin .add .int v8 (I 1)).bind fun x5 =>
L70_6 [v0, v1, v7, x5] lo r4.2)) (
leave 1 lo [I (-1)] H)) := by
  show O.lab _ _ _ _ _ _ = _
  rw [O_lab]
  kernel_rfl
theorem f70_eq (a0 a1 : AV) (lo : List Nat) (H : Heap) : O.ent 70 [a0, a1] lo H = (
(lenA .slice a0 H).bind fun x1 =>
L70_6 [a0, a1, x1, I 0] lo H) := by
  rw [O_ent]
  kernel_rfl
-- backstitch/code.tries
noncomputable def T55_8 : List It := labAt Tryd.prog cfg 55 8 (fun _ => none)
noncomputable def L55_8 (vals : List AV) (lo : List Nat) (H : Heap) : Res := O.lab 55 [5] (T55_8) vals lo H
theorem L55_8_eq (lo : List Nat) (v5 : AV) (H : Heap) : L55_8 [v5] lo H = (
(nilCheckA v5).bind fun x1 =>
(fldA 7 x1).bind fun x2 =>
(ld false 1 x2 H).bind fun x3 =>
(lenA .slice x3 H).bind fun x4 =>
(bin .gtr .int x4 (I 0)).bind fun x5 =>
(gd x5 true (some v5)).bind fun x6 =>
(gd x5 true (nilCheckA x6)).bind fun x7 =>
(gd x5 true (fldA 8 x7)).bind fun x8 =>
(gd x5 true (ld false 1 x8 H)).bind fun x9 =>
(gd x5 true (un .not x9)).bind fun x10 =>
(pickA x5 x10 (B false)).bind fun x11 =>
cond x11 (
(nilCheckA v5).bind fun x12 =>
(fldA 7 x12).bind fun x13 =>
(ld false 1 x13 H).bind fun x14 =>
(nilCheckA v5).bind fun x15 =>
(fldA 7 x15).bind fun x16 =>
(ld false 1 x16 H).bind fun x17 =>
(lenA .slice x17 H).bind fun x18 =>
(bin .sub .int x18 (I 1)).bind fun x19 =>
(idxA 1 x14 x19).bind fun x20 =>
(ld false 1 x20 H).bind fun x21 =>
(nilCheckA v5).bind fun x22 =>
(fldA 7 x22).bind fun x23 =>
(ld false 1 x23 H).bind fun x24 =>
(nilCheckA v5).bind fun x25 =>
(fldA 7 x25).bind fun x26 =>
(ld false 1 x26 H).bind fun x27 =>
(lenA .slice x27 H).bind fun x28 =>
(bin .sub .int x28 (I 1)).bind fun x29 =>
(cutA 1 x24 none (some x29) none H).bind fun x30 =>
(nilCheckA v5).bind fun x31 =>
(fldA 7 x31).bind fun x32 =>
((stA 1 x32 x30 lo H).map fun H' => (undefA, H')).bind fun r33 =>
(callA cfg O 96 [v5, x21] lo r33.2).bind fun r34 =>
L55_8 [v5] lo r34.2) (
(nilCheckA v5).bind fun x35 =>
(fldA 6 x35).bind fun x36 =>
(ld false 1 x36 H).bind fun x37 =>
(nilCheckA v5).bind fun x38 =>
(fldA 5 x38).bind fun x39 =>
(ld false 1 x39 H).bind fun x40 =>
(nilCheckA v5).bind fun x41 =>
(fldA 8 x41).bind fun x42 =>
(ld false 1 x42 H).bind fun x43 =>
(un .not x43).bind fun x44 =>
leave 0 lo [x37, x40, x44] H)) := by
  show O.lab _ _ _ _ _ _ = _
  rw [O_lab]
  kernel_rfl
theorem f55_eq (a0 : AV) : O.ent 55 [a0] [] [] = (
(boxO [] (AV.cells a0) []).bind fun r1 =>
(ldS true 5 r1.1 (r1.2 ++ List.replicate 2 AObj.hole)).bind fun x2 =>
(fldA 4 r1.1).bind fun x3 =>
(ldS false 1 x3 (r1.2 ++ List.replicate 2 AObj.hole)).bind fun x4 =>
(lenA .slice x4 (r1.2 ++ List.replicate 2 AObj.hole)).bind fun x5 =>
(fillRow 2 0 1 1 [(.v (.bool false))] x5 x5 (r1.2 ++ List.replicate 2 AObj.hole)).bind fun r6 =>
(fldA 4 r1.1).bind fun x7 =>
(ldS false 1 x7 r6.2).bind fun x8 =>
(lenA .slice x8 r6.2).bind fun x9 =>
(fillRow 2 1 1 24 [nilS] x9 x9 r6.2).bind fun r10 =>
(buildA [(I 0), (I 0), (B false), (.p nilS), (.p nilS), (.p nilS), (.p nilS), (.p nilS), (B false)] [(0, 5, x2), (5, 1, r6.1), (6, 1, r10.1)]).bind fun x11 =>
(boxO [] (AV.cells x11) r10.2).bind fun r12 =>
(callA cfg O 95 [r12.1, I 0, .p nilS] [] r12.2).bind fun r13 =>
L55_8 [r12.1] [] r13.2) := by
  rw [O_ent]
  kernel_rfl
-- backstitch/state.within
theorem f71_eq (a0 a1 a2 : AV) : O.ent 71 [a0, a1, a2] [] [] = (
(bin .geq .int a0 a1).bind fun x1 =>
(gd x1 true (some a0)).bind fun x2 =>
(gd x1 true (some a2)).bind fun x3 =>
(gd x1 true (bin .leq .int x2 x3)).bind fun x4 =>
(pickA x1 x4 (B false)).bind fun x5 =>
leave 0 [] [x5] []) := by
  rw [O_ent]
  kernel_rfl
-- (*backstitch/state.look).right$1
theorem f72_eq (a0 a1 : AV) (lo : List Nat) (H : Heap) : O.ent 72 [a0, a1] lo H = (
(boxO [] (AV.cells a0) H).bind fun r1 =>
(ld false 1 a1 r1.2).bind fun x2 =>
(ld true 4 r1.1 r1.2).bind fun x3 =>
(callA cfg O 73 [x2, x3] (List.length H :: lo) r1.2).bind fun r4 =>
(un .not r4.1).bind fun x5 =>
leave 3 (List.length H :: lo) [x5] r4.2) := by
  rw [O_ent]
  kernel_rfl
-- (*backstitch/state.look).right$2
theorem f74_eq (a0 a1 : AV) (lo : List Nat) (H : Heap) : O.ent 74 [a0, a1] lo H = (
(boxO [] (AV.cells a0) H).bind fun r1 =>
(ld false 1 a1 r1.2).bind fun x2 =>
(ld true 5 r1.1 r1.2).bind fun x3 =>
(callA cfg O 75 [x2, x3] lo r1.2).bind fun r4 =>
(un .not r4.1).bind fun x5 =>
leave 1 lo [x5] r4.2) := by
  rw [O_ent]
  kernel_rfl
-- slices.IndexFunc[[]string,string]
noncomputable def T85_6 : List It := labAt Tryd.prog cfg 85 6 (fun _ => none)
noncomputable def L85_6 (vals : List AV) (lo : List Nat) (H : Heap) : Res := O.lab 85 [0, 1, 7, 8] (T85_6) vals lo H
theorem L85_6_eq (lo : List Nat) (v0 v1 v7 v8 : AV) (H : Heap) : L85_6 [v0, v1, v7, v8] lo H = (
(bin .lss .int v8 v7).bind fun x1 =>
cond x1 (
(idxA 1 v0 v8).bind fun x2 =>
(ld false 1 x2 H).bind fun x3 =>
(callV cfg O v1 [x3] lo H).bind fun r4 =>
cond r4.1 (
leave 3 lo [v8] r4.2) (
(bin .add .int v8 (I 1)).bind fun x5 =>
L85_6 [v0, v1, v7, x5] lo r4.2)) (
leave 3 lo [I (-1)] H)) := by
  show O.lab _ _ _ _ _ _ = _
  rw [O_lab]
  kernel_rfl
theorem f85_eq (a0 a1 : AV) (lo : List Nat) (H : Heap) : O.ent 85 [a0, a1] lo H = (
(lenA .slice a0 H).bind fun x1 =>
L85_6 [a0, a1, x1, I 0] (List.length H :: lo) H) := by
  rw [O_ent]
  kernel_rfl
-- slices.IndexFunc[[]backstitch/api.Val,backstitch/api.Val]
noncomputable def T87_6 : List It := labAt Tryd.prog cfg 87 6 (fun _ => none)
noncomputable def L87_6 (vals : List AV) (lo : List Nat) (H : Heap) : Res := O.lab 87 [0, 1, 7, 8] (T87_6) vals lo H
theorem L87_6_eq (lo : List Nat) (v0 v1 v7 v8 : AV) (H : Heap) : L87_6 [v0, v1, v7, v8] lo H = (
(bin .lss .int v8 v7).bind fun x1 =>
cond x1 (
(idxA 2 v0 v8).bind fun x2 =>
(ld true 2 x2 H).bind fun x3 =>
(callV cfg O v1 [x3] lo H).bind fun r4 =>
cond r4.1 (
leave 3 lo [v8] r4.2) (
(bin .add .int v8 (I 1)).bind fun x5 =>
L87_6 [v0, v1, v7, x5] lo r4.2)) (
leave 3 lo [I (-1)] H)) := by
  show O.lab _ _ _ _ _ _ = _
  rw [O_lab]
  kernel_rfl
theorem f87_eq (a0 a1 : AV) (lo : List Nat) (H : Heap) : O.ent 87 [a0, a1] lo H = (
(lenA .slice a0 H).bind fun x1 =>
L87_6 [a0, a1, x1, I 0] (List.length H :: lo) H) := by
  rw [O_ent]
  kernel_rfl
-- backstitch/ops.Right
theorem f52_eq (a0 : AV) : O.ent 52 [a0] [] [] = (
(boxO [] (AV.cells a0) []).bind fun r1 =>
(fldA 0 r1.1).bind fun x2 =>
(ld false 1 x2 r1.2).bind fun x3 =>
(bin .eql .int x3 (I 0)).bind fun x4 =>
cond x4 (
(fldA 1 r1.1).bind fun x5 =>
(ld false 1 x5 r1.2).bind fun x6 =>
(bin .eql .int x6 (I 0)).bind fun x7 =>
leave 0 [] [x7] r1.2) (
(bin .eql .int x3 (I 1)).bind fun x8 =>
cond x8 (
(fldA 1 r1.1).bind fun x9 =>
(ld false 1 x9 r1.2).bind fun x10 =>
(callA cfg O 88 [x10, I 0, I 1] [] r1.2).bind fun r11 =>
leave 0 [] [r11.1] r11.2) (
(bin .eql .int x3 (I 2)).bind fun x12 =>
cond x12 (
(fldA 1 r1.1).bind fun x13 =>
(ld false 1 x13 r1.2).bind fun x14 =>
(callA cfg O 88 [x14, I (-2147483648), I 2147483647] [] r1.2).bind fun r15 =>
leave 0 [] [r15.1] r15.2) (
(bin .eql .int x3 (I 3)).bind fun x16 =>
cond x16 (
(ld true 2 r1.1 r1.2).bind fun x17 =>
(callA cfg O 89 [x17] [] r1.2).bind fun r18 =>
(ld true 2 r1.1 r18.2).bind fun x19 =>
(callA cfg O 89 [x19] [] r18.2).bind fun r20 =>
(bin .eql .float r18.1 r20.1).bind fun x21 =>
(gd x21 false (fldA 1 r1.1)).bind fun x22 =>
(gd x21 false (ld false 1 x22 r20.2)).bind fun x23 =>
(gd x21 false (bin .eql .int x23 (I 9221120237041090561))).bind fun x24 =>
(pickA x21 (B true) x24).bind fun x25 =>
leave 0 [] [x25] r20.2) (
(bin .eql .int x3 (I 4)).bind fun x26 =>
cond x26 (
cond x26 (
(fldA 1 r1.1).bind fun x27 =>
(ld false 1 x27 r1.2).bind fun x28 =>
(bin .geq .int x28 (I 0)).bind fun x29 =>
leave 0 [] [x29] r1.2) (
(bin .eql .int x3 (I 6)).bind fun x30 =>
cond x30 (
(fldA 1 r1.1).bind fun x31 =>
(ld false 1 x31 r1.2).bind fun x32 =>
(callA cfg O 88 [x32, I 0, I 15] [] r1.2).bind fun r33 =>
leave 0 [] [r33.1] r33.2) (
leave 0 [] [B false] r1.2))) (
(bin .eql .int x3 (I 5)).bind fun x34 =>
cond x34 (
(fldA 1 r1.1).bind fun x35 =>
(ld false 1 x35 r1.2).bind fun x36 =>
(bin .geq .int x36 (I 0)).bind fun x37 =>
leave 0 [] [x37] r1.2) (
(bin .eql .int x3 (I 6)).bind fun x38 =>
cond x38 (
(fldA 1 r1.1).bind fun x39 =>
(ld false 1 x39 r1.2).bind fun x40 =>
(callA cfg O 88 [x40, I 0, I 15] [] r1.2).bind fun r41 =>
leave 0 [] [r41.1] r41.2) (
leave 0 [] [B false] r1.2)))))))) := by
  rw [O_ent]
  kernel_rfl
-- (backstitch/code.look).order
theorem f54_eq (a0 a1 a2 : AV) : O.ent 54 [a0, a1, a2] [] [] = (
(boxO [] (AV.cells a0) []).bind fun r1 =>
(boxO [] (AV.cells a2) r1.2).bind fun r2 =>
(fldA 0 r2.1).bind fun x3 =>
(ld false 1 x3 r2.2).bind fun x4 =>
(callA cfg O 90 [x4] [] r2.2).bind fun r5 =>
(bin .eql .str r5.1 (.p (.v (.string ⟨#[]⟩)))).bind fun x6 =>
(gd x6 false (fldA 4 r2.1)).bind fun x7 =>
(gd x6 false (ld false 1 x7 r5.2)).bind fun x8 =>
(gdH x6 false (callA cfg O 91 [x8, I 0, I 2000] [] r5.2) r5.2).bind fun r9 =>
(gd x6 false (un .not r9.1)).bind fun x10 =>
(pickA x6 (B true) x10).bind fun x11 =>
(gd x11 false (ld true 8 r1.1 r9.2)).bind fun x12 =>
(gd x11 false (some r5.1)).bind fun x13 =>
(gd x11 false (strAt x13 (I 0))).bind fun x14 =>
(gd x11 false (fldA 1 r2.1)).bind fun x15 =>
(gd x11 false (ld false 1 x15 r9.2)).bind fun x16 =>
(gdH x11 false (callA cfg O 92 [x12, x14, x16] [] r9.2) r9.2).bind fun r17 =>
(gd x11 false (un .not r17.1)).bind fun x18 =>
(pickA x11 (B true) x18).bind fun x19 =>
(gd x19 false (ld true 8 r1.1 r17.2)).bind fun x20 =>
(gd x19 false (some r5.1)).bind fun x21 =>
(gd x19 false (strAt x21 (I 1))).bind fun x22 =>
(gd x19 false (fldA 2 r2.1)).bind fun x23 =>
(gd x19 false (ld false 1 x23 r17.2)).bind fun x24 =>
(gdH x19 false (callA cfg O 92 [x20, x22, x24] [] r17.2) r17.2).bind fun r25 =>
(gd x19 false (un .not r25.1)).bind fun x26 =>
(pickA x19 (B true) x26).bind fun x27 =>
(gd x27 false (ld true 8 r1.1 r25.2)).bind fun x28 =>
(gd x27 false (some r5.1)).bind fun x29 =>
(gd x27 false (strAt x29 (I 2))).bind fun x30 =>
(gd x27 false (fldA 3 r2.1)).bind fun x31 =>
(gd x27 false (ld false 1 x31 r25.2)).bind fun x32 =>
(gdH x27 false (callA cfg O 92 [x28, x30, x32] [] r25.2) r25.2).bind fun r33 =>
(gd x27 false (un .not r33.1)).bind fun x34 =>
(pickA x27 (B true) x34).bind fun x35 =>
cond x35 (
leave 0 [] [B false] r33.2) (
(fldA 0 r2.1).bind fun x36 =>
(ld false 1 x36 r33.2).bind fun x37 =>
(bin .eql .int x37 (I 14)).bind fun x38 =>
cond x38 (
(fldA 1 r2.1).bind fun x39 =>
(ld false 1 x39 r33.2).bind fun x40 =>
(bin .leq .int x40 a1).bind fun x41 =>
leave 0 [] [x41] r33.2) (
(bin .eql .int x37 (I 19)).bind fun x42 =>
cond x42 (
(fldA 2 r2.1).bind fun x43 =>
(ld false 1 x43 r33.2).bind fun x44 =>
(fldA 3 r2.1).bind fun x45 =>
(ld false 1 x45 r33.2).bind fun x46 =>
(bin .add .int x44 x46).bind fun x47 =>
(fldA 3 r1.1).bind fun x48 =>
(fldA 1 x48).bind fun x49 =>
(ld false 1 x49 r33.2).bind fun x50 =>
(bin .leq .int x47 x50).bind fun x51 =>
leave 0 [] [x51] r33.2) (
(bin .eql .int x37 (I 27)).bind fun x52 =>
cond x52 (
(ld true 8 r1.1 r33.2).bind fun x53 =>
(fldA 2 r2.1).bind fun x54 =>
(ld false 1 x54 r33.2).bind fun x55 =>
(fldA 3 r2.1).bind fun x56 =>
(ld false 1 x56 r33.2).bind fun x57 =>
(bin .add .int x55 x57).bind fun x58 =>
(callA cfg O 93 [x53, x58] [] r33.2).bind fun r59 =>
leave 0 [] [r59.1] r59.2) (
(bin .eql .int x37 (I 26)).bind fun x60 =>
cond x60 (
(ld true 8 r1.1 r33.2).bind fun x61 =>
(fldA 0 r1.1).bind fun x62 =>
(fldA 0 x62).bind fun x63 =>
(ld false 1 x63 r33.2).bind fun x64 =>
(fldA 2 r2.1).bind fun x65 =>
(ld false 1 x65 r33.2).bind fun x66 =>
(idxA 5 x64 x66).bind fun x67 =>
(ld true 5 x67 r33.2).bind fun x68 =>
(callA cfg O 94 [x61, x68] [] r33.2).bind fun r69 =>
leave 0 [] [r69.1] r69.2) (
(bin .eql .int x37 (I 32)).bind fun x70 =>
cond x70 (
(fldA 3 r1.1).bind fun x71 =>
(fldA 2 x71).bind fun x72 =>
(ld false 1 x72 r33.2).bind fun x73 =>
leave 0 [] [x73] r33.2) (
leave 0 [] [B true] r33.2))))))) := by
  rw [O_ent]
  kernel_rfl
-- backstitch/cells.large$1
theorem f97_eq (a0 : AV) (lo : List Nat) (H : Heap) : O.ent 97 [a0] lo H = (
(lenA .str a0 H).bind fun x1 =>
(bin .gtr .int x1 (I 200)).bind fun x2 =>
leave 3 (List.length H :: lo) [x2] H) := by
  rw [O_ent]
  kernel_rfl
-- backstitch/cells.large$2
theorem f98_eq (a0 : AV) (lo : List Nat) (H : Heap) : O.ent 98 [a0] lo H = (
(boxO [] (AV.cells a0) H).bind fun r1 =>
(fldA 2 r1.1).bind fun x2 =>
(ld false 1 x2 r1.2).bind fun x3 =>
(lenA .slice x3 r1.2).bind fun x4 =>
(bin .gtr .int x4 (I 100)).bind fun x5 =>
(gd x5 true (fldA 0 r1.1)).bind fun x6 =>
(gd x5 true (ld false 1 x6 r1.2)).bind fun x7 =>
(gd x5 true (bin .neq .int x7 (I 7))).bind fun x8 =>
(gd x5 true (some x8)).bind fun x9 =>
(gd x9 false (fldA 2 r1.1)).bind fun x10 =>
(gd x9 false (ld false 1 x10 r1.2)).bind fun x11 =>
(gd x9 false (lenA .slice x11 r1.2)).bind fun x12 =>
(gd x9 false (bin .gtr .int x12 (I 600))).bind fun x13 =>
(gd x5 true (pickA x9 (B true) x13)).bind fun x14 =>
(pickA x5 x14 (B false)).bind fun x15 =>
leave 3 (List.length H :: lo) [x15] r1.2) := by
  rw [O_ent]
  kernel_rfl
-- slices.Contains[[]int,int]
theorem f99_eq (a0 a1 : AV) : O.ent 99 [a0, a1] [] [] = (
(callA cfg O 137 [a0, a1] [] []).bind fun r1 =>
(bin .geq .int r1.1 (I 0)).bind fun x2 =>
leave 0 [] [x2] r1.2) := by
  rw [O_ent]
  kernel_rfl
-- backstitch/shape.names
noncomputable def T100_6 : List It := labAt Tryd.prog cfg 100 6 (fun _ => none)
noncomputable def L100_6 (vals : List AV) (lo : List Nat) (H : Heap) : Res := O.lab 100 [0, 1, 5] (T100_6) vals lo H
theorem L100_6_eq (lo : List Nat) (v0 v1 v5 : AV) (H : Heap) : L100_6 [v0, v1, v5] lo H = (
(bin .gtr .int v1 (I 0)).bind fun x1 =>
cond x1 (
(idxA 2 v0 v1).bind fun x2 =>
(fldA 1 x2).bind fun x3 =>
(ld false 1 x3 H).bind fun x4 =>
(litA false 1 [x4] H).bind fun r5 =>
(appA 1 8 v5 r5.1 r5.2).bind fun r6 =>
(idxA 2 v0 v1).bind fun x7 =>
(fldA 0 x7).bind fun x8 =>
(ld false 1 x8 r6.2).bind fun x9 =>
L100_6 [v0, x9, r6.1] lo r6.2) (
(callA cfg O 138 [v5] lo H).bind fun r10 =>
leave 0 lo [v5] r10.2)) := by
  show O.lab _ _ _ _ _ _ = _
  rw [O_lab]
  kernel_rfl
theorem f100_eq (a0 a1 : AV) : O.ent 100 [a0, a1] [] [] = (
L100_6 [a0, a1, .p nilS] [] []) := by
  rw [O_ent]
  kernel_rfl
-- slices.IndexFunc[[]backstitch/api.Shape,backstitch/api.Shape]
noncomputable def T101_6 : List It := labAt Tryd.prog cfg 101 6 (fun _ => none)
noncomputable def L101_6 (vals : List AV) (lo : List Nat) (H : Heap) : Res := O.lab 101 [0, 1, 7, 8] (T101_6) vals lo H
theorem L101_6_eq (lo : List Nat) (v0 v1 v7 v8 : AV) (H : Heap) : L101_6 [v0, v1, v7, v8] lo H = (
(bin .lss .int v8 v7).bind fun x1 =>
cond x1 (
(idxA 2 v0 v8).bind fun x2 =>
(ld true 2 x2 H).bind fun x3 =>
(callV cfg O v1 [x3] lo H).bind fun r4 =>
cond r4.1 (
leave 3 lo [v8] r4.2) (
(bin .add .int v8 (I 1)).bind fun x5 =>
L101_6 [v0, v1, v7, x5] lo r4.2)) (
leave 3 lo [I (-1)] H)) := by
  show O.lab _ _ _ _ _ _ = _
  rw [O_lab]
  kernel_rfl
theorem f101_eq (a0 a1 : AV) (lo : List Nat) (H : Heap) : O.ent 101 [a0, a1] lo H = (
(lenA .slice a0 H).bind fun x1 =>
L101_6 [a0, a1, x1, I 0] (List.length H :: lo) H) := by
  rw [O_ent]
  kernel_rfl
-- slices.IndexFunc[[]backstitch/api.Cell,backstitch/api.Cell]
noncomputable def T102_6 : List It := labAt Tryd.prog cfg 102 6 (fun _ => none)
noncomputable def L102_6 (vals : List AV) (lo : List Nat) (H : Heap) : Res := O.lab 102 [0, 1, 7, 8] (T102_6) vals lo H
theorem L102_6_eq (lo : List Nat) (v0 v1 v7 v8 : AV) (H : Heap) : L102_6 [v0, v1, v7, v8] lo H = (
(bin .lss .int v8 v7).bind fun x1 =>
cond x1 (
(idxA 4 v0 v8).bind fun x2 =>
(ld true 4 x2 H).bind fun x3 =>
(callV cfg O v1 [x3] lo H).bind fun r4 =>
cond r4.1 (
leave 3 lo [v8] r4.2) (
(bin .add .int v8 (I 1)).bind fun x5 =>
L102_6 [v0, v1, v7, x5] lo r4.2)) (
leave 3 lo [I (-1)] H)) := by
  show O.lab _ _ _ _ _ _ = _
  rw [O_lab]
  kernel_rfl
theorem f102_eq (a0 a1 : AV) (lo : List Nat) (H : Heap) : O.ent 102 [a0, a1] lo H = (
(lenA .slice a0 H).bind fun x1 =>
L102_6 [a0, a1, x1, I 0] (List.length H :: lo) H) := by
  rw [O_ent]
  kernel_rfl
-- backstitch/cells.cell
noncomputable def T63_49 : List It := labAt Tryd.prog cfg 63 49 (fun _ => none)
noncomputable def L63_49 (vals : List AV) (lo : List Nat) (H : Heap) : Res := O.lab 63 [2, 3, 5, 6, 7] (T63_49) vals lo H
theorem L63_49_eq (lo : List Nat) (v2 v3 v5 v6 v7 : AV) (H : Heap) : L63_49 [v2, v3, v5, v6, v7] lo H = (
(un .not v5).bind fun x1 =>
(gd x1 false (some v6)).bind fun x2 =>
(gd x1 false (un .not x2)).bind fun x3 =>
(pickA x1 (B true) x3).bind fun x4 =>
(gd x4 false (fldA 3 v3)).bind fun x5 =>
(gd x4 false (ld false 1 x5 H)).bind fun x6 =>
(gd x4 false (lenA .slice x6 H)).bind fun x7 =>
(gd x4 false (some v7)).bind fun x8 =>
(gd x4 false (bin .neq .int x7 x8)).bind fun x9 =>
(pickA x4 (B true) x9).bind fun x10 =>
(gd x10 false (ld false 1 v2 H)).bind fun x11 =>
(gd x10 false (fldA 2 v3)).bind fun x12 =>
(gd x10 false (ld false 1 x12 H)).bind fun x13 =>
(gdH x10 false (callA cfg O 106 [x11, x13] lo H) H).bind fun r14 =>
(gd x10 false (un .not r14.1)).bind fun x15 =>
(pickA x10 (B true) x15).bind fun x16 =>
cond x16 (
leave 3 lo [B false] r14.2) (
(fldA 3 v3).bind fun x17 =>
(ld false 1 x17 r14.2).bind fun x18 =>
(callA cfg O 107 [x18, .fn 108 [] [v2]] lo r14.2).bind fun r19 =>
(un .not r19.1).bind fun x20 =>
leave 3 lo [x20] r19.2)) := by
  show O.lab _ _ _ _ _ _ = _
  rw [O_lab]
  kernel_rfl
theorem f63_eq (a0 a1 : AV) (lo : List Nat) (H : Heap) : O.ent 63 [a0, a1] lo H = (
(boxO [] (AV.cells a0) H).bind fun r1 =>
(boxO [] (AV.cells a1) r1.2).bind fun r2 =>
(fldA 1 r2.1).bind fun x3 =>
(ld false 1 x3 r2.2).bind fun x4 =>
(bin .eql .int x4 (I 0)).bind fun x5 =>
(fldA 2 r2.1).bind fun x6 =>
(ld false 1 x6 r2.2).bind fun x7 =>
(lenA .slice x7 r2.2).bind fun x8 =>
(bin .eql .int x8 (I 0)).bind fun x9 =>
(fldA 0 r2.1).bind fun x10 =>
(ld false 1 x10 r2.2).bind fun x11 =>
(bin .eql .int x11 (I 0)).bind fun x12 =>
cond x12 (
L63_49 [r1.1, r2.1, x5, x9, I 0] (List.length H :: lo) r2.2) (
(bin .eql .int x11 (I 1)).bind fun x13 =>
cond x13 (
(fldA 1 r2.1).bind fun x14 =>
(ld false 1 x14 r2.2).bind fun x15 =>
(ld false 1 r1.1 r2.2).bind fun x16 =>
(nilCheckA x16).bind fun x17 =>
(fldA 1 x17).bind fun x18 =>
(ld false 1 x18 r2.2).bind fun x19 =>
(lenA .slice x19 r2.2).bind fun x20 =>
(bin .sub .int x20 (I 1)).bind fun x21 =>
(callA cfg O 68 [x15, I 0, x21] (List.length H :: lo) r2.2).bind fun r22 =>
(gd r22.1 true (fldA 2 r2.1)).bind fun x23 =>
(gd r22.1 true (ld false 1 x23 r22.2)).bind fun x24 =>
(gd r22.1 true (lenA .slice x24 r22.2)).bind fun x25 =>
(gd r22.1 true (ld false 1 r1.1 r22.2)).bind fun x26 =>
(gd r22.1 true (nilCheckA x26)).bind fun x27 =>
(gd r22.1 true (fldA 1 x27)).bind fun x28 =>
(gd r22.1 true (ld false 1 x28 r22.2)).bind fun x29 =>
(gd r22.1 true (fldA 1 r2.1)).bind fun x30 =>
(gd r22.1 true (ld false 1 x30 r22.2)).bind fun x31 =>
(gdH r22.1 true (callA cfg O 103 [x29, x31] (List.length H :: lo) r22.2) r22.2).bind fun r32 =>
(gd r22.1 true (lenA .slice r32.1 r32.2)).bind fun x33 =>
(gd r22.1 true (bin .eql .int x25 x33)).bind fun x34 =>
(pickA r22.1 x34 (B false)).bind fun x35 =>
L63_49 [r1.1, r2.1, r22.1, x35, I 0] (List.length H :: lo) r32.2) (
(bin .eql .int x11 (I 2)).bind fun x36 =>
cond x36 (
L63_49 [r1.1, r2.1, x5, B true, I 0] (List.length H :: lo) r2.2) (
(bin .eql .int x11 (I 3)).bind fun x37 =>
cond x37 (
(fldA 2 r2.1).bind fun x38 =>
(ld false 1 x38 r2.2).bind fun x39 =>
(lenA .slice x39 r2.2).bind fun x40 =>
(bin .eql .int x40 (I 1)).bind fun x41 =>
L63_49 [r1.1, r2.1, x5, x41, I 0] (List.length H :: lo) r2.2) (
(bin .eql .int x11 (I 4)).bind fun x42 =>
cond x42 (
(fldA 1 r2.1).bind fun x43 =>
(ld false 1 x43 r2.2).bind fun x44 =>
(bin .geq .int x44 (I 0)).bind fun x45 =>
(fldA 2 r2.1).bind fun x46 =>
(ld false 1 x46 r2.2).bind fun x47 =>
(callA cfg O 50 [x47, .fn 104 [] [r1.1]] (List.length H :: lo) r2.2).bind fun r48 =>
(un .not r48.1).bind fun x49 =>
L63_49 [r1.1, r2.1, x45, x49, I 0] (List.length H :: lo) r48.2) (
(bin .eql .int x11 (I 5)).bind fun x50 =>
cond x50 (
(fldA 1 r2.1).bind fun x51 =>
(ld false 1 x51 r2.2).bind fun x52 =>
(callA cfg O 68 [x52, I 0, I 2] (List.length H :: lo) r2.2).bind fun r53 =>
(fldA 1 r2.1).bind fun x54 =>
(ld false 1 x54 r53.2).bind fun x55 =>
(bin .eql .int x55 (I 0)).bind fun x56 =>
cond x56 (
L63_49 [r1.1, r2.1, r53.1, x9, I 1] (List.length H :: lo) r53.2) (
L63_49 [r1.1, r2.1, r53.1, x9, I 0] (List.length H :: lo) r53.2)) (
(bin .eql .int x11 (I 6)).bind fun x57 =>
cond x57 (
(fldA 1 r2.1).bind fun x58 =>
(ld false 1 x58 r2.2).bind fun x59 =>
(callA cfg O 68 [x59, I (-1), I 4] (List.length H :: lo) r2.2).bind fun r60 =>
L63_49 [r1.1, r2.1, r60.1, x9, I 0] (List.length H :: lo) r60.2) (
(bin .eql .int x11 (I 7)).bind fun x61 =>
cond x61 (
(ld false 1 r1.1 r2.2).bind fun x62 =>
(fldA 2 r2.1).bind fun x63 =>
(ld false 1 x63 r2.2).bind fun x64 =>
(callA cfg O 105 [x62, x64] (List.length H :: lo) r2.2).bind fun r65 =>
L63_49 [r1.1, r2.1, x5, r65.1, I 0] (List.length H :: lo) r65.2) (
leave 3 (List.length H :: lo) [B false] r2.2))))))))) := by
  rw [O_ent]
  kernel_rfl
-- backstitch/cells.fits
theorem f65_eq (a0 a1 : AV) (lo : List Nat) (H : Heap) : O.ent 65 [a0, a1] lo H = (
(boxO [] (AV.cells a1) H).bind fun r1 =>
(ld true 2 r1.1 r1.2).bind fun x2 =>
(callA cfg O 52 [x2] (List.length H :: lo) r1.2).bind fun r3 =>
(un .not r3.1).bind fun x4 =>
cond x4 (
leave 3 (List.length H :: lo) [B false] r3.2) (
(fldA 0 r1.1).bind fun x5 =>
(ld false 1 x5 r3.2).bind fun x6 =>
(bin .eql .int x6 (I 4)).bind fun x7 =>
cond x7 (
(fldA 1 r1.1).bind fun x8 =>
(ld false 1 x8 r3.2).bind fun x9 =>
(nilCheckA a0).bind fun x10 =>
(fldA 2 x10).bind fun x11 =>
(ld false 1 x11 r3.2).bind fun x12 =>
(lenA .slice x12 r3.2).bind fun x13 =>
(bin .lss .int x9 x13).bind fun x14 =>
leave 3 (List.length H :: lo) [x14] r3.2) (
(fldA 0 r1.1).bind fun x15 =>
(ld false 1 x15 r3.2).bind fun x16 =>
(bin .eql .int x16 (I 5)).bind fun x17 =>
cond x17 (
(fldA 1 r1.1).bind fun x18 =>
(ld false 1 x18 r3.2).bind fun x19 =>
(nilCheckA a0).bind fun x20 =>
(fldA 0 x20).bind fun x21 =>
(ld false 1 x21 r3.2).bind fun x22 =>
(lenA .slice x22 r3.2).bind fun x23 =>
(bin .lss .int x19 x23).bind fun x24 =>
(gd x24 true (some a0)).bind fun x25 =>
(gd x24 true (nilCheckA x25)).bind fun x26 =>
(gd x24 true (fldA 0 x26)).bind fun x27 =>
(gd x24 true (ld false 1 x27 r3.2)).bind fun x28 =>
(gd x24 true (fldA 1 r1.1)).bind fun x29 =>
(gd x24 true (ld false 1 x29 r3.2)).bind fun x30 =>
(gd x24 true (idxA 4 x28 x30)).bind fun x31 =>
(gd x24 true (fldA 0 x31)).bind fun x32 =>
(gd x24 true (ld false 1 x32 r3.2)).bind fun x33 =>
(gd x24 true (bin .neq .int x33 (I 0))).bind fun x34 =>
(pickA x24 x34 (B false)).bind fun x35 =>
leave 3 (List.length H :: lo) [x35] r3.2) (
leave 3 (List.length H :: lo) [B true] r3.2)))) := by
  rw [O_ent]
  kernel_rfl
-- slices.IndexFunc[[]backstitch/api.End,backstitch/api.End]
noncomputable def T109_6 : List It := labAt Tryd.prog cfg 109 6 (fun _ => none)
noncomputable def L109_6 (vals : List AV) (lo : List Nat) (H : Heap) : Res := O.lab 109 [0, 1, 7, 8] (T109_6) vals lo H
theorem L109_6_eq (lo : List Nat) (v0 v1 v7 v8 : AV) (H : Heap) : L109_6 [v0, v1, v7, v8] lo H = (
(bin .lss .int v8 v7).bind fun x1 =>
cond x1 (
(idxA 3 v0 v8).bind fun x2 =>
(ld true 3 x2 H).bind fun x3 =>
(callV cfg O v1 [x3] lo H).bind fun r4 =>
cond r4.1 (
leave 3 lo [v8] r4.2) (
(bin .add .int v8 (I 1)).bind fun x5 =>
L109_6 [v0, v1, v7, x5] lo r4.2)) (
leave 3 lo [I (-1)] H)) := by
  show O.lab _ _ _ _ _ _ = _
  rw [O_lab]
  kernel_rfl
theorem f109_eq (a0 a1 : AV) (lo : List Nat) (H : Heap) : O.ent 109 [a0, a1] lo H = (
(lenA .slice a0 H).bind fun x1 =>
L109_6 [a0, a1, x1, I 0] (List.length H :: lo) H) := by
  rw [O_ent]
  kernel_rfl
-- backstitch/cells.within
theorem f68_eq (a0 a1 a2 : AV) : O.ent 68 [a0, a1, a2] [] [] = (
(bin .geq .int a0 a1).bind fun x1 =>
(gd x1 true (some a0)).bind fun x2 =>
(gd x1 true (some a2)).bind fun x3 =>
(gd x1 true (bin .leq .int x2 x3)).bind fun x4 =>
(pickA x1 x4 (B false)).bind fun x5 =>
leave 0 [] [x5] []) := by
  rw [O_ent]
  kernel_rfl
-- backstitch/cells.is
theorem f69_eq (a0 a1 a2 : AV) (lo : List Nat) (H : Heap) : O.ent 69 [a0, a1, a2] lo H = (
(boxO [] (AV.cells a1) H).bind fun r1 =>
(ld true 2 r1.1 r1.2).bind fun x2 =>
(callA cfg O 65 [a0, x2] (List.length H :: lo) r1.2).bind fun r3 =>
(gd r3.1 true (fldA 0 r1.1)).bind fun x4 =>
(gd r3.1 true (ld false 1 x4 r3.2)).bind fun x5 =>
(gd r3.1 true (bin .eql .int x5 (I 5))).bind fun x6 =>
(pickA r3.1 x6 (B false)).bind fun x7 =>
(gd x7 true (some a0)).bind fun x8 =>
(gd x7 true (nilCheckA x8)).bind fun x9 =>
(gd x7 true (fldA 0 x9)).bind fun x10 =>
(gd x7 true (ld false 1 x10 r3.2)).bind fun x11 =>
(gd x7 true (fldA 1 r1.1)).bind fun x12 =>
(gd x7 true (ld false 1 x12 r3.2)).bind fun x13 =>
(gd x7 true (idxA 4 x11 x13)).bind fun x14 =>
(gd x7 true (fldA 0 x14)).bind fun x15 =>
(gd x7 true (ld false 1 x15 r3.2)).bind fun x16 =>
(gd x7 true (some a2)).bind fun x17 =>
(gd x7 true (bin .eql .int x16 x17)).bind fun x18 =>
(pickA x7 x18 (B false)).bind fun x19 =>
leave 3 (List.length H :: lo) [x19] r3.2) := by
  rw [O_ent]
  kernel_rfl
-- (*backstitch/code.walk).come
theorem f95_eq (a0 a1 a2 : AV) (lo : List Nat) (H : Heap) : O.ent 95 [a0, a1, a2] lo H = (
(nilCheckA a0).bind fun x1 =>
(fldA 0 x1).bind fun x2 =>
(fldA 4 x2).bind fun x3 =>
(ld false 1 x3 H).bind fun x4 =>
(lenA .slice x4 H).bind fun x5 =>
(bin .geq .int a1 x5).bind fun x6 =>
(gd x6 false (some a2)).bind fun x7 =>
(gd x6 false (lenA .slice x7 H)).bind fun x8 =>
(gd x6 false (bin .gtr .int x8 (I 20))).bind fun x9 =>
(pickA x6 (B true) x9).bind fun x10 =>
cond x10 (
(nilCheckA a0).bind fun x11 =>
(fldA 8 x11).bind fun x12 =>
((stA 1 x12 (B true) lo H).map fun H' => (undefA, H')).bind fun r13 =>
leave 1 lo [] r13.2) (
(nilCheckA a0).bind fun x14 =>
(fldA 5 x14).bind fun x15 =>
(ld false 1 x15 H).bind fun x16 =>
(idxA 1 x16 a1).bind fun x17 =>
(ld false 1 x17 H).bind fun x18 =>
(un .not x18).bind fun x19 =>
cond x19 (
(nilCheckA a0).bind fun x20 =>
(fldA 5 x20).bind fun x21 =>
(ld false 1 x21 H).bind fun x22 =>
(nilCheckA a0).bind fun x23 =>
(fldA 6 x23).bind fun x24 =>
(ld false 1 x24 H).bind fun x25 =>
(idxA 1 x22 a1).bind fun x26 =>
((stA 1 x26 (B true) lo H).map fun H' => (undefA, H')).bind fun r27 =>
(idxA 1 x25 a1).bind fun x28 =>
((stA 1 x28 a2 lo r27.2).map fun H' => (undefA, H')).bind fun r29 =>
(nilCheckA a0).bind fun x30 =>
(fldA 7 x30).bind fun x31 =>
(ld false 1 x31 r29.2).bind fun x32 =>
(litA false 1 [a1] r29.2).bind fun r33 =>
(appA 1 8 x32 r33.1 r33.2).bind fun r34 =>
(nilCheckA a0).bind fun x35 =>
(fldA 7 x35).bind fun x36 =>
((stA 1 x36 r34.1 lo r34.2).map fun H' => (undefA, H')).bind fun r37 =>
leave 1 lo [] r37.2) (
(nilCheckA a0).bind fun x38 =>
(fldA 6 x38).bind fun x39 =>
(ld false 1 x39 H).bind fun x40 =>
(idxA 1 x40 a1).bind fun x41 =>
(ld false 1 x41 H).bind fun x42 =>
(callA cfg O 135 [x42, a2] lo H).bind fun r43 =>
(un .not r43.1).bind fun x44 =>
cond x44 (
(nilCheckA a0).bind fun x45 =>
(fldA 8 x45).bind fun x46 =>
((stA 1 x46 (B true) lo r43.2).map fun H' => (undefA, H')).bind fun r47 =>
leave 1 lo [] r47.2) (
leave 1 lo [] r43.2)))) := by
  rw [O_ent]
  kernel_rfl
-- (*backstitch/code.walk).from
noncomputable def T96_35 : List It := labAt Tryd.prog cfg 96 35 (fun _ => none)
noncomputable def L96_35 (vals : List AV) (lo : List Nat) (H : Heap) : Res := O.lab 96 [0, 1, 5] (T96_35) vals lo H
theorem L96_35_eq (lo : List Nat) (v0 v1 v5 : AV) (H : Heap) : L96_35 [v0, v1, v5] lo H = (
(bin .add .int v1 (I 1)).bind fun x1 =>
(callA cfg O 95 [v0, x1, v5] lo H).bind fun r2 =>
leave 1 lo [] r2.2) := by
  show O.lab _ _ _ _ _ _ = _
  rw [O_lab]
  kernel_rfl
theorem f96_eq (a0 a1 : AV) (lo : List Nat) (H : Heap) : O.ent 96 [a0, a1] lo H = (
(nilCheckA a0).bind fun x1 =>
(fldA 0 x1).bind fun x2 =>
(fldA 4 x2).bind fun x3 =>
(ld false 1 x3 H).bind fun x4 =>
(idxA 5 x4 a1).bind fun x5 =>
(ld true 5 x5 H).bind fun x6 =>
(nilCheckA a0).bind fun x7 =>
(fldA 6 x7).bind fun x8 =>
(ldX false 1 x8 H).bind fun x9 =>
(idxA 1 x9 a1).bind fun x10 =>
(ldX false 1 x10 H).bind fun x11 =>
(boxO [] [(I 0), (I 0), (I 0), (I 0), (I 0)] H).bind fun r12 =>
((stX 5 r12.1 x6 lo r12.2).map fun H' => (undefA, H')).bind fun r13 =>
(fldA 0 r12.1).bind fun x14 =>
(ld false 1 x14 r13.2).bind fun x15 =>
(bin .eql .int x15 (I 28)).bind fun x16 =>
cond x16 (
cond x16 (
leave 1 lo [] r13.2) (
(bin .eql .int x15 (I 13)).bind fun x17 =>
cond x17 (
cond x17 (
(fldA 1 r12.1).bind fun x18 =>
(ld false 1 x18 r13.2).bind fun x19 =>
(callA cfg O 95 [a0, x19, x11] lo r13.2).bind fun r20 =>
leave 1 lo [] r20.2) (
(bin .eql .int x15 (I 15)).bind fun x21 =>
cond x21 (
(fldA 2 r12.1).bind fun x22 =>
(ld false 1 x22 r13.2).bind fun x23 =>
(callA cfg O 95 [a0, x23, x11] lo r13.2).bind fun r24 =>
L96_35 [a0, a1, x11] lo r24.2) (
(bin .eql .int x15 (I 30)).bind fun x25 =>
cond x25 (
(fldA 2 r12.1).bind fun x26 =>
(ld false 1 x26 r13.2).bind fun x27 =>
(callA cfg O 95 [a0, x27, x11] lo r13.2).bind fun r28 =>
(callA cfg O 136 [x11] lo r28.2).bind fun r29 =>
(fldA 1 r12.1).bind fun x30 =>
(ld false 1 x30 r29.2).bind fun x31 =>
(fldA 2 r12.1).bind fun x32 =>
(ld false 1 x32 r29.2).bind fun x33 =>
(buildA [(I 0), (I 0)] [(0, 1, x31), (1, 1, x33)]).bind fun x34 =>
(litP 2 [x34]).bind fun x35 =>
(appA 2 16 r29.1 x35 r29.2).bind fun r36 =>
L96_35 [a0, a1, r36.1] lo r36.2) (
(bin .eql .int x15 (I 31)).bind fun x37 =>
cond x37 (
(lenA .slice x11 r13.2).bind fun x38 =>
(bin .eql .int x38 (I 0)).bind fun x39 =>
cond x39 (
(nilCheckA a0).bind fun x40 =>
(fldA 8 x40).bind fun x41 =>
((stA 1 x41 (B true) lo r13.2).map fun H' => (undefA, H')).bind fun r42 =>
leave 1 lo [] r42.2) (
(lenA .slice x11 r13.2).bind fun x43 =>
(bin .sub .int x43 (I 1)).bind fun x44 =>
(cutA 2 x11 none (some x44) none r13.2).bind fun x45 =>
L96_35 [a0, a1, x45] lo r13.2)) (
L96_35 [a0, a1, x11] lo r13.2))))) (
(bin .eql .int x15 (I 14)).bind fun x46 =>
cond x46 (
(fldA 1 r12.1).bind fun x47 =>
(ld false 1 x47 r13.2).bind fun x48 =>
(callA cfg O 95 [a0, x48, x11] lo r13.2).bind fun r49 =>
leave 1 lo [] r49.2) (
(bin .eql .int x15 (I 15)).bind fun x50 =>
cond x50 (
(fldA 2 r12.1).bind fun x51 =>
(ld false 1 x51 r13.2).bind fun x52 =>
(callA cfg O 95 [a0, x52, x11] lo r13.2).bind fun r53 =>
L96_35 [a0, a1, x11] lo r53.2) (
(bin .eql .int x15 (I 30)).bind fun x54 =>
cond x54 (
(fldA 2 r12.1).bind fun x55 =>
(ld false 1 x55 r13.2).bind fun x56 =>
(callA cfg O 95 [a0, x56, x11] lo r13.2).bind fun r57 =>
(callA cfg O 136 [x11] lo r57.2).bind fun r58 =>
(fldA 1 r12.1).bind fun x59 =>
(ld false 1 x59 r58.2).bind fun x60 =>
(fldA 2 r12.1).bind fun x61 =>
(ld false 1 x61 r58.2).bind fun x62 =>
(buildA [(I 0), (I 0)] [(0, 1, x60), (1, 1, x62)]).bind fun x63 =>
(litP 2 [x63]).bind fun x64 =>
(appA 2 16 r58.1 x64 r58.2).bind fun r65 =>
L96_35 [a0, a1, r65.1] lo r65.2) (
(bin .eql .int x15 (I 31)).bind fun x66 =>
cond x66 (
(lenA .slice x11 r13.2).bind fun x67 =>
(bin .eql .int x67 (I 0)).bind fun x68 =>
cond x68 (
(nilCheckA a0).bind fun x69 =>
(fldA 8 x69).bind fun x70 =>
((stA 1 x70 (B true) lo r13.2).map fun H' => (undefA, H')).bind fun r71 =>
leave 1 lo [] r71.2) (
(lenA .slice x11 r13.2).bind fun x72 =>
(bin .sub .int x72 (I 1)).bind fun x73 =>
(cutA 2 x11 none (some x73) none r13.2).bind fun x74 =>
L96_35 [a0, a1, x74] lo r13.2)) (
L96_35 [a0, a1, x11] lo r13.2))))))) (
(bin .eql .int x15 (I 29)).bind fun x75 =>
cond x75 (
leave 1 lo [] r13.2) (
(bin .eql .int x15 (I 13)).bind fun x76 =>
cond x76 (
cond x76 (
(fldA 1 r12.1).bind fun x77 =>
(ld false 1 x77 r13.2).bind fun x78 =>
(callA cfg O 95 [a0, x78, x11] lo r13.2).bind fun r79 =>
leave 1 lo [] r79.2) (
(bin .eql .int x15 (I 15)).bind fun x80 =>
cond x80 (
(fldA 2 r12.1).bind fun x81 =>
(ld false 1 x81 r13.2).bind fun x82 =>
(callA cfg O 95 [a0, x82, x11] lo r13.2).bind fun r83 =>
L96_35 [a0, a1, x11] lo r83.2) (
(bin .eql .int x15 (I 30)).bind fun x84 =>
cond x84 (
(fldA 2 r12.1).bind fun x85 =>
(ld false 1 x85 r13.2).bind fun x86 =>
(callA cfg O 95 [a0, x86, x11] lo r13.2).bind fun r87 =>
(callA cfg O 136 [x11] lo r87.2).bind fun r88 =>
(fldA 1 r12.1).bind fun x89 =>
(ld false 1 x89 r88.2).bind fun x90 =>
(fldA 2 r12.1).bind fun x91 =>
(ld false 1 x91 r88.2).bind fun x92 =>
(buildA [(I 0), (I 0)] [(0, 1, x90), (1, 1, x92)]).bind fun x93 =>
(litP 2 [x93]).bind fun x94 =>
(appA 2 16 r88.1 x94 r88.2).bind fun r95 =>
L96_35 [a0, a1, r95.1] lo r95.2) (
(bin .eql .int x15 (I 31)).bind fun x96 =>
cond x96 (
(lenA .slice x11 r13.2).bind fun x97 =>
(bin .eql .int x97 (I 0)).bind fun x98 =>
cond x98 (
(nilCheckA a0).bind fun x99 =>
(fldA 8 x99).bind fun x100 =>
((stA 1 x100 (B true) lo r13.2).map fun H' => (undefA, H')).bind fun r101 =>
leave 1 lo [] r101.2) (
(lenA .slice x11 r13.2).bind fun x102 =>
(bin .sub .int x102 (I 1)).bind fun x103 =>
(cutA 2 x11 none (some x103) none r13.2).bind fun x104 =>
L96_35 [a0, a1, x104] lo r13.2)) (
L96_35 [a0, a1, x11] lo r13.2))))) (
(bin .eql .int x15 (I 14)).bind fun x105 =>
cond x105 (
(fldA 1 r12.1).bind fun x106 =>
(ld false 1 x106 r13.2).bind fun x107 =>
(callA cfg O 95 [a0, x107, x11] lo r13.2).bind fun r108 =>
leave 1 lo [] r108.2) (
(bin .eql .int x15 (I 15)).bind fun x109 =>
cond x109 (
(fldA 2 r12.1).bind fun x110 =>
(ld false 1 x110 r13.2).bind fun x111 =>
(callA cfg O 95 [a0, x111, x11] lo r13.2).bind fun r112 =>
L96_35 [a0, a1, x11] lo r112.2) (
(bin .eql .int x15 (I 30)).bind fun x113 =>
cond x113 (
(fldA 2 r12.1).bind fun x114 =>
(ld false 1 x114 r13.2).bind fun x115 =>
(callA cfg O 95 [a0, x115, x11] lo r13.2).bind fun r116 =>
(callA cfg O 136 [x11] lo r116.2).bind fun r117 =>
(fldA 1 r12.1).bind fun x118 =>
(ld false 1 x118 r117.2).bind fun x119 =>
(fldA 2 r12.1).bind fun x120 =>
(ld false 1 x120 r117.2).bind fun x121 =>
(buildA [(I 0), (I 0)] [(0, 1, x119), (1, 1, x121)]).bind fun x122 =>
(litP 2 [x122]).bind fun x123 =>
(appA 2 16 r117.1 x123 r117.2).bind fun r124 =>
L96_35 [a0, a1, r124.1] lo r124.2) (
(bin .eql .int x15 (I 31)).bind fun x125 =>
cond x125 (
(lenA .slice x11 r13.2).bind fun x126 =>
(bin .eql .int x126 (I 0)).bind fun x127 =>
cond x127 (
(nilCheckA a0).bind fun x128 =>
(fldA 8 x128).bind fun x129 =>
((stA 1 x129 (B true) lo r13.2).map fun H' => (undefA, H')).bind fun r130 =>
leave 1 lo [] r130.2) (
(lenA .slice x11 r13.2).bind fun x131 =>
(bin .sub .int x131 (I 1)).bind fun x132 =>
(cutA 2 x11 none (some x132) none r13.2).bind fun x133 =>
L96_35 [a0, a1, x133] lo r13.2)) (
L96_35 [a0, a1, x11] lo r13.2)))))))) := by
  rw [O_ent]
  kernel_rfl
-- (*backstitch/state.look).heap
theorem f73_eq (a0 a1 : AV) (lo : List Nat) (H : Heap) : O.ent 73 [a0, a1] lo H = (
(boxO [] (AV.cells a1) H).bind fun r1 =>
(fldA 0 r1.1).bind fun x2 =>
(ld false 1 x2 r1.2).bind fun x3 =>
(bin .eql .int x3 (I 4)).bind fun x4 =>
cond x4 (
(fldA 1 r1.1).bind fun x5 =>
(ld false 1 x5 r1.2).bind fun x6 =>
(nilCheckA a0).bind fun x7 =>
(fldA 0 x7).bind fun x8 =>
(fldA 0 x8).bind fun x9 =>
(ld false 1 x9 r1.2).bind fun x10 =>
(lenA .slice x10 r1.2).bind fun x11 =>
(bin .lss .int x6 x11).bind fun x12 =>
(gd x12 true (fldA 2 r1.1)).bind fun x13 =>
(gd x12 true (ld false 1 x13 r1.2)).bind fun x14 =>
(gd x12 true (lenA .slice x14 r1.2)).bind fun x15 =>
(gd x12 true (some a0)).bind fun x16 =>
(gd x12 true (nilCheckA x16)).bind fun x17 =>
(gd x12 true (fldA 0 x17)).bind fun x18 =>
(gd x12 true (fldA 0 x18)).bind fun x19 =>
(gd x12 true (ld false 1 x19 r1.2)).bind fun x20 =>
(gd x12 true (fldA 1 r1.1)).bind fun x21 =>
(gd x12 true (ld false 1 x21 r1.2)).bind fun x22 =>
(gd x12 true (idxA 5 x20 x22)).bind fun x23 =>
(gd x12 true (fldA 3 x23)).bind fun x24 =>
(gd x12 true (ld false 1 x24 r1.2)).bind fun x25 =>
(gd x12 true (lenA .slice x25 r1.2)).bind fun x26 =>
(gd x12 true (bin .eql .int x15 x26)).bind fun x27 =>
(pickA x12 x27 (B false)).bind fun x28 =>
leave 3 (List.length H :: lo) [x28] r1.2) (
(bin .eql .int x3 (I 5)).bind fun x29 =>
cond x29 (
(fldA 1 r1.1).bind fun x30 =>
(ld false 1 x30 r1.2).bind fun x31 =>
(bin .neq .int x31 (I 0)).bind fun x32 =>
(gd x32 false (some a0)).bind fun x33 =>
(gd x32 false (fldA 3 r1.1)).bind fun x34 =>
(gd x32 false (ld false 1 x34 r1.2)).bind fun x35 =>
(gd x32 false (idxA 8 x35 (I 0))).bind fun x36 =>
(gd x32 false (ld true 8 x36 r1.2)).bind fun x37 =>
(gdH x32 false (callA cfg O 110 [x33, x37] (List.length H :: lo) r1.2) r1.2).bind fun r38 =>
(pickA x32 (B true) r38.1).bind fun x39 =>
leave 3 (List.length H :: lo) [x39] r38.2) (
leave 3 (List.length H :: lo) [B true] r1.2))) := by
  rw [O_ent]
  kernel_rfl
-- (*backstitch/state.look).thread
noncomputable def T75_31 : List It := labAt Tryd.prog cfg 75 31 (fun _ => none)
noncomputable def L75_31 (vals : List AV) (lo : List Nat) (H : Heap) : Res := O.lab 75 [0, 3] (T75_31) vals lo H
theorem L75_31_eq (lo : List Nat) (v0 v3 : AV) (H : Heap) : L75_31 [v0, v3] lo H = (
(fldA 0 v3).bind fun x1 =>
(ld false 1 x1 H).bind fun x2 =>
(callA cfg O 113 [v0, x2] lo H).bind fun r3 =>
leave 1 lo [r3.1] r3.2) := by
  show O.lab _ _ _ _ _ _ = _
  rw [O_lab]
  kernel_rfl
theorem f75_eq (a0 a1 : AV) (lo : List Nat) (H : Heap) : O.ent 75 [a0, a1] lo H = (
(boxO [] (AV.cells a1) H).bind fun r1 =>
(fldA 1 r1.1).bind fun x2 =>
(ld false 1 x2 r1.2).bind fun x3 =>
(bin .eql .int x3 (I 3)).bind fun x4 =>
(gd x4 false (fldA 1 r1.1)).bind fun x5 =>
(gd x4 false (ld false 1 x5 r1.2)).bind fun x6 =>
(gd x4 false (bin .eql .int x6 (I 4))).bind fun x7 =>
(pickA x4 (B true) x7).bind fun x8 =>
(fldA 0 r1.1).bind fun x9 =>
(ld false 1 x9 r1.2).bind fun x10 =>
(lenA .slice x10 r1.2).bind fun x11 =>
(bin .eql .int x11 (I 0)).bind fun x12 =>
(bin .neq .bool x8 x12).bind fun x13 =>
(gd x13 false (some x8)).bind fun x14 =>
(gd x13 false (un .not x14)).bind fun x15 =>
(gd x13 false (some x15)).bind fun x16 =>
(gd x16 true (fldA 3 r1.1)).bind fun x17 =>
(gd x16 true (ld true 2 x17 r1.2)).bind fun x18 =>
(gd x16 true (buildA [(I 0), (I 0)] [])).bind fun x19 =>
(gd x16 true (bin .neq (.agg 2 [(0, .int), (1, .int)]) x18 x19)).bind fun x20 =>
(gd x13 false (pickA x16 x20 (B false))).bind fun x21 =>
(pickA x13 (B true) x21).bind fun x22 =>
(gd x22 false (some a0)).bind fun x23 =>
(gd x22 false (nilCheckA x23)).bind fun x24 =>
(gd x22 false (fldA 3 x24)).bind fun x25 =>
(gd x22 false (ld false 1 x25 r1.2)).bind fun x26 =>
(gd x22 false (fldA 3 r1.1)).bind fun x27 =>
(gd x22 false (ld true 2 x27 r1.2)).bind fun x28 =>
(gdH x22 false (callA cfg O 111 [x26, x28] lo r1.2) r1.2).bind fun r29 =>
(gd x22 false (un .not r29.1)).bind fun x30 =>
(pickA x22 (B true) x30).bind fun x31 =>
(gd x31 false (fldA 1 r1.1)).bind fun x32 =>
(gd x31 false (ld false 1 x32 r29.2)).bind fun x33 =>
(gdH x31 false (callA cfg O 71 [x33, I 0, I 4] lo r29.2) r29.2).bind fun r34 =>
(gd x31 false (un .not r34.1)).bind fun x35 =>
(pickA x31 (B true) x35).bind fun x36 =>
cond x36 (
leave 1 lo [B false] r34.2) (
(fldA 1 r1.1).bind fun x37 =>
(ld false 1 x37 r34.2).bind fun x38 =>
(bin .eql .int x38 (I 1)).bind fun x39 =>
cond x39 (
(fldA 2 r1.1).bind fun x40 =>
(ld false 1 x40 r34.2).bind fun x41 =>
(buildA [(I 0), (I 0)] [(0, 1, I 5), (1, 1, x41)]).bind fun x42 =>
(callA cfg O 112 [a0, x42, I 6] lo r34.2).bind fun r43 =>
(extractA r43.1 0).bind fun x44 =>
(extractA r43.1 1).bind fun x45 =>
(boxO [] [(I 0), (I 0), (.p nilS), (.p nilS)] r43.2).bind fun r46 =>
((stA 4 r46.1 x44 lo r46.2).map fun H' => (undefA, H')).bind fun r47 =>
(un .not x45).bind fun x48 =>
cond x48 (
leave 1 lo [B false] r47.2) (
L75_31 [a0, r1.1] lo r47.2)) (
(bin .eql .int x38 (I 2)).bind fun x49 =>
cond x49 (
(fldA 2 r1.1).bind fun x50 =>
(ld false 1 x50 r34.2).bind fun x51 =>
(nilCheckA a0).bind fun x52 =>
(fldA 3 x52).bind fun x53 =>
(ld false 1 x53 r34.2).bind fun x54 =>
(nilCheckA x54).bind fun x55 =>
(fldA 3 x55).bind fun x56 =>
(ld false 1 x56 r34.2).bind fun x57 =>
(lenA .slice x57 r34.2).bind fun x58 =>
(bin .sub .int x58 (I 1)).bind fun x59 =>
(callA cfg O 71 [x51, I 0, x59] lo r34.2).bind fun r60 =>
(un .not r60.1).bind fun x61 =>
cond x61 (
leave 1 lo [B false] r60.2) (
L75_31 [a0, r1.1] lo r60.2)) (
(fldA 2 r1.1).bind fun x62 =>
(ld false 1 x62 r34.2).bind fun x63 =>
(bin .neq .int x63 (I 0)).bind fun x64 =>
cond x64 (
leave 1 lo [B false] r34.2) (
L75_31 [a0, r1.1] lo r34.2))))) := by
  rw [O_ent]
  kernel_rfl
-- backstitch/ops.within
theorem f88_eq (a0 a1 a2 : AV) : O.ent 88 [a0, a1, a2] [] [] = (
(bin .geq .int a0 a1).bind fun x1 =>
(gd x1 true (some a0)).bind fun x2 =>
(gd x1 true (some a2)).bind fun x3 =>
(gd x1 true (bin .leq .int x2 x3)).bind fun x4 =>
(pickA x1 x4 (B false)).bind fun x5 =>
leave 0 [] [x5] []) := by
  rw [O_ent]
  kernel_rfl
-- backstitch/ops.float
theorem f89_eq (a0 : AV) : O.ent 89 [a0] [] [] = (
(boxO [] (AV.cells a0) []).bind fun r1 =>
(fldA 1 r1.1).bind fun x2 =>
(ld false 1 x2 r1.2).bind fun x3 =>
(conv (.int .u64) x3).bind fun x4 =>
(callA cfg O 130 [x4] [] r1.2).bind fun r5 =>
leave 0 [] [r5.1] r5.2) := by
  rw [O_ent]
  kernel_rfl
-- backstitch/code.form
theorem f90_eq (a0 : AV) : O.ent 90 [a0] [] [] = (
(buildA [(.p (.v (.string ⟨#[]⟩))), (.p (.v (.string ⟨#[]⟩))), (.p (.v (.string ⟨#[]⟩))), (.p (.v (.string ⟨#[]⟩))), (.p (.v (.string ⟨#[]⟩))), (.p (.v (.string ⟨#[]⟩))), (.p (.v (.string ⟨#[]⟩))), (.p (.v (.string ⟨#[]⟩))), (.p (.v (.string ⟨#[]⟩))), (.p (.v (.string ⟨#[]⟩))), (.p (.v (.string ⟨#[]⟩))), (.p (.v (.string ⟨#[]⟩))), (.p (.v (.string ⟨#[]⟩))), (.p (.v (.string ⟨#[]⟩))), (.p (.v (.string ⟨#[]⟩))), (.p (.v (.string ⟨#[]⟩))), (.p (.v (.string ⟨#[]⟩))), (.p (.v (.string ⟨#[]⟩))), (.p (.v (.string ⟨#[]⟩))), (.p (.v (.string ⟨#[]⟩))), (.p (.v (.string ⟨#[]⟩))), (.p (.v (.string ⟨#[]⟩))), (.p (.v (.string ⟨#[]⟩))), (.p (.v (.string ⟨#[]⟩))), (.p (.v (.string ⟨#[]⟩))), (.p (.v (.string ⟨#[]⟩))), (.p (.v (.string ⟨#[]⟩))), (.p (.v (.string ⟨#[]⟩))), (.p (.v (.string ⟨#[]⟩))), (.p (.v (.string ⟨#[]⟩))), (.p (.v (.string ⟨#[]⟩))), (.p (.v (.string ⟨#[]⟩))), (.p (.v (.string ⟨#[]⟩))), (.p (.v (.string ⟨#[]⟩))), (.p (.v (.string ⟨#[]⟩))), (.p (.v (.string ⟨#[]⟩))), (.p (.v (.string ⟨#[]⟩))), (.p (.v (.string ⟨#[]⟩))), (.p (.v (.string ⟨#[]⟩)))] [(0, 1, .p (.v (.string ⟨#[]⟩))), (1, 1, .p (.v (.string ⟨#[114, 107, 45]⟩))), (2, 1, .p (.v (.string ⟨#[114, 114, 45]⟩))), (3, 1, .p (.v (.string ⟨#[114, 114, 114]⟩))), (4, 1, .p (.v (.string ⟨#[114, 114, 114]⟩))), (5, 1, .p (.v (.string ⟨#[114, 114, 114]⟩))), (6, 1, .p (.v (.string ⟨#[114, 114, 114]⟩))), (7, 1, .p (.v (.string ⟨#[114, 114, 114]⟩))), (8, 1, .p (.v (.string ⟨#[114, 114, 114]⟩))), (9, 1, .p (.v (.string ⟨#[114, 114, 114]⟩))), (10, 1, .p (.v (.string ⟨#[114, 114, 114]⟩))), (11, 1, .p (.v (.string ⟨#[114, 114, 45]⟩))), (12, 1, .p (.v (.string ⟨#[114, 114, 45]⟩))), (13, 1, .p (.v (.string ⟨#[97, 45, 45]⟩))), (14, 1, .p (.v (.string ⟨#[97, 45, 45]⟩))), (15, 1, .p (.v (.string ⟨#[114, 97, 45]⟩))), (16, 1, .p (.v (.string ⟨#[114, 45, 45]⟩))), (17, 1, .p (.v (.string ⟨#[114, 114, 116]⟩))), (18, 1, .p (.v (.string ⟨#[114, 116, 114]⟩))), (19, 1, .p (.v (.string ⟨#[114, 108, 110]⟩))), (20, 1, .p (.v (.string ⟨#[114, 114, 114]⟩))), (21, 1, .p (.v (.string ⟨#[114, 114, 114]⟩))), (22, 1, .p (.v (.string ⟨#[114, 45, 45]⟩))), (23, 1, .p (.v (.string ⟨#[114, 114, 45]⟩))), (24, 1, .p (.v (.string ⟨#[114, 114, 45]⟩))), (25, 1, .p (.v (.string ⟨#[114, 117, 45]⟩))), (26, 1, .p (.v (.string ⟨#[114, 102, 45]⟩))), (27, 1, .p (.v (.string ⟨#[114, 99, 110]⟩))), (28, 1, .p (.v (.string ⟨#[114, 45, 45]⟩))), (29, 1, .p (.v (.string ⟨#[114, 45, 45]⟩))), (30, 1, .p (.v (.string ⟨#[114, 97, 45]⟩))), (31, 1, .p (.v (.string ⟨#[45, 45, 45]⟩))), (32, 1, .p (.v (.string ⟨#[114, 114, 45]⟩))), (33, 1, .p (.v (.string ⟨#[114, 45, 45]⟩))), (34, 1, .p (.v (.string ⟨#[114, 45, 45]⟩))), (35, 1, .p (.v (.string ⟨#[114, 114, 45]⟩))), (36, 1, .p (.v (.string ⟨#[114, 114, 45]⟩))), (37, 1, .p (.v (.string ⟨#[114, 45, 45]⟩))), (38, 1, .p (.v (.string ⟨#[114, 45, 45]⟩)))]).bind fun x1 =>
(some (mkArr 1 [(.v (.string ⟨#[]⟩)), (.v (.string ⟨#[]⟩)), (.v (.string ⟨#[]⟩)), (.v (.string ⟨#[]⟩)), (.v (.string ⟨#[]⟩)), (.v (.string ⟨#[]⟩)), (.v (.string ⟨#[]⟩)), (.v (.string ⟨#[]⟩)), (.v (.string ⟨#[]⟩)), (.v (.string ⟨#[]⟩)), (.v (.string ⟨#[]⟩)), (.v (.string ⟨#[]⟩)), (.v (.string ⟨#[]⟩)), (.v (.string ⟨#[]⟩)), (.v (.string ⟨#[]⟩)), (.v (.string ⟨#[]⟩)), (.v (.string ⟨#[]⟩)), (.v (.string ⟨#[]⟩)), (.v (.string ⟨#[]⟩)), (.v (.string ⟨#[]⟩)), (.v (.string ⟨#[]⟩)), (.v (.string ⟨#[]⟩)), (.v (.string ⟨#[]⟩)), (.v (.string ⟨#[]⟩)), (.v (.string ⟨#[]⟩)), (.v (.string ⟨#[]⟩)), (.v (.string ⟨#[]⟩)), (.v (.string ⟨#[]⟩)), (.v (.string ⟨#[]⟩)), (.v (.string ⟨#[]⟩)), (.v (.string ⟨#[]⟩)), (.v (.string ⟨#[]⟩)), (.v (.string ⟨#[]⟩)), (.v (.string ⟨#[]⟩)), (.v (.string ⟨#[]⟩)), (.v (.string ⟨#[]⟩)), (.v (.string ⟨#[]⟩)), (.v (.string ⟨#[]⟩)), (.v (.string ⟨#[]⟩))] [])).bind fun r2 =>
((stA 39 r2.1 x1 [] r2.2).map fun H' => (undefA, H')).bind fun r3 =>
(bin .lss .int a0 (I 1)).bind fun x4 =>
(gd x4 false (some a0)).bind fun x5 =>
(gd x4 false (bin .geq .int x5 (I 39))).bind fun x6 =>
(pickA x4 (B true) x6).bind fun x7 =>
cond x7 (
leave 0 [] [.p (.v (.string ⟨#[]⟩))] r3.2) (
(idxArr 1 39 r2.1 a0).bind fun x8 =>
(ld false 1 x8 r3.2).bind fun x9 =>
leave 0 [] [x9] r3.2)) := by
  rw [O_ent]
  kernel_rfl
-- backstitch/code.within
theorem f91_eq (a0 a1 a2 : AV) : O.ent 91 [a0, a1, a2] [] [] = (
(bin .geq .int a0 a1).bind fun x1 =>
(gd x1 true (some a0)).bind fun x2 =>
(gd x1 true (some a2)).bind fun x3 =>
(gd x1 true (bin .leq .int x2 x3)).bind fun x4 =>
(pickA x1 x4 (B false)).bind fun x5 =>
leave 0 [] [x5] []) := by
  rw [O_ent]
  kernel_rfl
-- (backstitch/code.look).names
theorem f92_eq (a0 a1 a2 : AV) : O.ent 92 [a0, a1, a2] [] [] = (
(boxO [] (AV.cells a0) []).bind fun r1 =>
(bin .eql .int a1 (.p (.v (.int .u8 114)))).bind fun x2 =>
cond x2 (
(ld true 8 r1.1 r1.2).bind fun x3 =>
(callA cfg O 93 [x3, a2] [] r1.2).bind fun r4 =>
leave 0 [] [r4.1] r4.2) (
(bin .eql .int a1 (.p (.v (.int .u8 107)))).bind fun x5 =>
cond x5 (
(fldA 0 r1.1).bind fun x6 =>
(fldA 1 x6).bind fun x7 =>
(ld false 1 x7 r1.2).bind fun x8 =>
(lenA .slice x8 r1.2).bind fun x9 =>
(bin .sub .int x9 (I 1)).bind fun x10 =>
(callA cfg O 91 [a2, I 0, x10] [] r1.2).bind fun r11 =>
leave 0 [] [r11.1] r11.2) (
(bin .eql .int a1 (.p (.v (.int .u8 116)))).bind fun x12 =>
cond x12 (
(ld true 8 r1.1 r1.2).bind fun x13 =>
(callA cfg O 131 [x13, a2] [] r1.2).bind fun r14 =>
leave 0 [] [r14.1] r14.2) (
(bin .eql .int a1 (.p (.v (.int .u8 97)))).bind fun x15 =>
cond x15 (
(ld true 8 r1.1 r1.2).bind fun x16 =>
(callA cfg O 132 [x16, a2] [] r1.2).bind fun r17 =>
leave 0 [] [r17.1] r17.2) (
(bin .eql .int a1 (.p (.v (.int .u8 117)))).bind fun x18 =>
cond x18 (
(fldA 3 r1.1).bind fun x19 =>
(fldA 3 x19).bind fun x20 =>
(ld false 1 x20 r1.2).bind fun x21 =>
(lenA .slice x21 r1.2).bind fun x22 =>
(bin .sub .int x22 (I 1)).bind fun x23 =>
(callA cfg O 91 [a2, I 0, x23] [] r1.2).bind fun r24 =>
leave 0 [] [r24.1] r24.2) (
(bin .eql .int a1 (.p (.v (.int .u8 102)))).bind fun x25 =>
cond x25 (
(fldA 0 r1.1).bind fun x26 =>
(fldA 0 x26).bind fun x27 =>
(ld false 1 x27 r1.2).bind fun x28 =>
(lenA .slice x28 r1.2).bind fun x29 =>
(bin .sub .int x29 (I 1)).bind fun x30 =>
(callA cfg O 91 [a2, I 1, x30] [] r1.2).bind fun r31 =>
leave 0 [] [r31.1] r31.2) (
(bin .eql .int a1 (.p (.v (.int .u8 108)))).bind fun x32 =>
cond x32 (
cond x32 (
(fldA 3 r1.1).bind fun x33 =>
(fldA 1 x33).bind fun x34 =>
(ld false 1 x34 r1.2).bind fun x35 =>
(callA cfg O 91 [a2, I 0, x35] [] r1.2).bind fun r36 =>
leave 0 [] [r36.1] r36.2) (
(bin .eql .int a2 (I 0)).bind fun x37 =>
leave 0 [] [x37] r1.2)) (
(bin .eql .int a1 (.p (.v (.int .u8 99)))).bind fun x38 =>
cond x38 (
cond x38 (
(fldA 3 r1.1).bind fun x39 =>
(fldA 1 x39).bind fun x40 =>
(ld false 1 x40 r1.2).bind fun x41 =>
(callA cfg O 91 [a2, I 0, x41] [] r1.2).bind fun r42 =>
leave 0 [] [r42.1] r42.2) (
(bin .eql .int a2 (I 0)).bind fun x43 =>
leave 0 [] [x43] r1.2)) (
(bin .eql .int a1 (.p (.v (.int .u8 110)))).bind fun x44 =>
cond x44 (
(fldA 3 r1.1).bind fun x45 =>
(fldA 1 x45).bind fun x46 =>
(ld false 1 x46 r1.2).bind fun x47 =>
(callA cfg O 91 [a2, I 0, x47] [] r1.2).bind fun r48 =>
leave 0 [] [r48.1] r48.2) (
(bin .eql .int a2 (I 0)).bind fun x49 =>
leave 0 [] [x49] r1.2)))))))))) := by
  rw [O_ent]
  kernel_rfl
-- (backstitch/code.look).reg
theorem f93_eq (a0 a1 : AV) : O.ent 93 [a0, a1] [] [] = (
(boxO [] (AV.cells a0) []).bind fun r1 =>
(fldA 3 r1.1).bind fun x2 =>
(fldA 1 x2).bind fun x3 =>
(ld false 1 x3 r1.2).bind fun x4 =>
(bin .sub .int x4 (I 1)).bind fun x5 =>
(callA cfg O 91 [a1, I 0, x5] [] r1.2).bind fun r6 =>
leave 0 [] [r6.1] r6.2) := by
  rw [O_ent]
  kernel_rfl
-- (backstitch/code.look).caught
theorem f94_eq (a0 a1 : AV) : O.ent 94 [a0, a1] [] [] = (
(boxO [] (AV.cells a0) []).bind fun r1 =>
(boxO [] (AV.cells a1) r1.2).bind fun r2 =>
(fldA 3 r2.1).bind fun x3 =>
(ld false 1 x3 r2.2).bind fun x4 =>
(callA cfg O 133 [x4, .fn 134 [] [r1.1]] [] r2.2).bind fun r5 =>
(un .not r5.1).bind fun x6 =>
leave 0 [] [x6] r5.2) := by
  rw [O_ent]
  kernel_rfl
-- slices.Index[[]int,int]
noncomputable def T137_6 : List It := labAt Tryd.prog cfg 137 6 (fun _ => none)
noncomputable def L137_6 (vals : List AV) (lo : List Nat) (H : Heap) : Res := O.lab 137 [0, 1, 7, 8] (T137_6) vals lo H
theorem L137_6_eq (lo : List Nat) (v0 v1 v7 v8 : AV) (H : Heap) : L137_6 [v0, v1, v7, v8] lo H = (
(bin .lss .int v8 v7).bind fun x1 =>
cond x1 (
(idxA 1 v0 v8).bind fun x2 =>
(ld false 1 x2 H).bind fun x3 =>
(bin .eql .int v1 x3).bind fun x4 =>
cond x4 (
leave 0 lo [v8] H) (
(bin .add .int v8 (I 1)).bind fun x5 =>
L137_6 [v0, v1, v7, x5] lo H)) (
leave 0 lo [I (-1)] H)) := by
  show O.lab _ _ _ _ _ _ = _
  rw [O_lab]
  kernel_rfl
theorem f137_eq (a0 a1 : AV) : O.ent 137 [a0, a1] [] [] = (
(lenA .slice a0 []).bind fun x1 =>
L137_6 [a0, a1, x1, I 0] [] []) := by
  rw [O_ent]
  kernel_rfl
-- slices.Reverse[[]int,int]
noncomputable def T138_4 : List It := labAt Tryd.prog cfg 138 4 (fun _ => none)
noncomputable def L138_4 (vals : List AV) (lo : List Nat) (H : Heap) : Res := O.lab 138 [0, 2, 3] (T138_4) vals lo H
theorem L138_4_eq (lo : List Nat) (v0 v2 v3 : AV) (H : Heap) : L138_4 [v0, v2, v3] lo H = (
(bin .lss .int v2 v3).bind fun x1 =>
cond x1 (
(idxA 1 v0 v3).bind fun x2 =>
(ld false 1 x2 H).bind fun x3 =>
(idxA 1 v0 v2).bind fun x4 =>
(ld false 1 x4 H).bind fun x5 =>
(idxA 1 v0 v2).bind fun x6 =>
((stA 1 x6 x3 lo H).map fun H' => (undefA, H')).bind fun r7 =>
(idxA 1 v0 v3).bind fun x8 =>
((stA 1 x8 x5 lo r7.2).map fun H' => (undefA, H')).bind fun r9 =>
(bin .add .int v2 (I 1)).bind fun x10 =>
(bin .sub .int v3 (I 1)).bind fun x11 =>
L138_4 [v0, x10, x11] lo r9.2) (
leave 1 lo [] H)) := by
  show O.lab _ _ _ _ _ _ = _
  rw [O_lab]
  kernel_rfl
theorem f138_eq (a0 : AV) (lo : List Nat) (H : Heap) : O.ent 138 [a0] lo H = (
(lenA .slice a0 H).bind fun x1 =>
(bin .sub .int x1 (I 1)).bind fun x2 =>
L138_4 [a0, I 0, x2] lo H) := by
  rw [O_ent]
  kernel_rfl
-- backstitch/shape.Names
theorem f103_eq (a0 a1 : AV) : O.ent 103 [a0, a1] [] [] = (
(callA cfg O 57 [a0] [] []).bind fun r1 =>
(bin .neq .int r1.1 (I 0)).bind fun x2 =>
(gd x2 false (some a1)).bind fun x3 =>
(gd x2 false (bin .lss .int x3 (I 0))).bind fun x4 =>
(pickA x2 (B true) x4).bind fun x5 =>
(gd x5 false (some a1)).bind fun x6 =>
(gd x5 false (some a0)).bind fun x7 =>
(gd x5 false (lenA .slice x7 r1.2)).bind fun x8 =>
(gd x5 false (bin .geq .int x6 x8)).bind fun x9 =>
(pickA x5 (B true) x9).bind fun x10 =>
cond x10 (
leave 0 [] [.p nilS] r1.2) (
(callA cfg O 100 [a0, a1] [] r1.2).bind fun r11 =>
leave 0 [] [r11.1] r11.2)) := by
  rw [O_ent]
  kernel_rfl
-- backstitch/cells.cell$1
theorem f104_eq (a0 a1 : AV) (lo : List Nat) (H : Heap) : O.ent 104 [a0, a1] lo H = (
(boxO [] (AV.cells a0) H).bind fun r1 =>
(ld false 1 a1 r1.2).bind fun x2 =>
(ld true 2 r1.1 r1.2).bind fun x3 =>
(callA cfg O 69 [x2, x3, I 3] (List.length H :: lo) r1.2).bind fun r4 =>
(un .not r4.1).bind fun x5 =>
leave 3 (List.length H :: lo) [x5] r4.2) := by
  rw [O_ent]
  kernel_rfl
-- backstitch/cells.weak
noncomputable def T105_8 : List It := labAt Tryd.prog cfg 105 8 (fun _ => none)
noncomputable def L105_8 (vals : List AV) (lo : List Nat) (H : Heap) : Res := O.lab 105 [1, 5, 6] (T105_8) vals lo H
theorem L105_8_eq (lo : List Nat) (v1 v5 v6 : AV) (H : Heap) : L105_8 [v1, v5, v6] lo H = (
(lenA .slice v1 H).bind fun x1 =>
(bin .lss .int v6 x1).bind fun x2 =>
cond x2 (
(idxA 2 v1 v6).bind fun x3 =>
(fldA 0 x3).bind fun x4 =>
(ld false 1 x4 H).bind fun x5 =>
(bin .neq .int x5 (I 5)).bind fun x6 =>
(gd x6 false (some v5)).bind fun x7 =>
(gd x6 false (some v1)).bind fun x8 =>
(gd x6 false (some v6)).bind fun x9 =>
(gd x6 false (idxA 2 x8 x9)).bind fun x10 =>
(gd x6 false (fldA 1 x10)).bind fun x11 =>
(gd x6 false (ld false 1 x11 H)).bind fun x12 =>
(gd x6 false (lookA .int (I 0) false x7 x12 H)).bind fun x13 =>
(gd x6 false (bin .eql .int x13 (I 1))).bind fun x14 =>
(pickA x6 (B true) x14).bind fun x15 =>
cond x15 (
leave 3 lo [B false] H) (
(idxA 2 v1 v6).bind fun x16 =>
(fldA 1 x16).bind fun x17 =>
(ld false 1 x17 H).bind fun x18 =>
((mapUpdA .int v5 x18 (I 1) lo H).map fun H' => (undefA, H')).bind fun r19 =>
(bin .add .int v6 (I 2)).bind fun x20 =>
L105_8 [v1, v5, x20] lo r19.2)) (
(lenA .slice v1 H).bind fun x21 =>
(bin .rem .int x21 (I 2)).bind fun x22 =>
(bin .eql .int x22 (I 0)).bind fun x23 =>
leave 3 lo [x23] H)) := by
  show O.lab _ _ _ _ _ _ = _
  rw [O_lab]
  kernel_rfl
theorem f105_eq (a0 a1 : AV) (lo : List Nat) (H : Heap) : O.ent 105 [a0, a1] lo H = (
(some (mkMap H)).bind fun r1 =>
L105_8 [a1, r1.1, I 0] (List.length H :: lo) r1.2) := by
  rw [O_ent]
  kernel_rfl
-- backstitch/cells.all
theorem f106_eq (a0 a1 : AV) (lo : List Nat) (H : Heap) : O.ent 106 [a0, a1] lo H = (
(boxO [] (AV.cells a0) H).bind fun r1 =>
(callA cfg O 50 [a1, .fn 139 [] [r1.1]] (List.length H :: lo) r1.2).bind fun r2 =>
(un .not r2.1).bind fun x3 =>
leave 3 (List.length H :: lo) [x3] r2.2) := by
  rw [O_ent]
  kernel_rfl
-- slices.ContainsFunc[[]backstitch/api.Frame,backstitch/api.Frame]
theorem f107_eq (a0 a1 : AV) (lo : List Nat) (H : Heap) : O.ent 107 [a0, a1] lo H = (
(callA cfg O 140 [a0, a1] (List.length H :: lo) H).bind fun r1 =>
(bin .geq .int r1.1 (I 0)).bind fun x2 =>
leave 3 (List.length H :: lo) [x2] r1.2) := by
  rw [O_ent]
  kernel_rfl
-- backstitch/cells.cell$2
theorem f108_eq (a0 a1 : AV) (lo : List Nat) (H : Heap) : O.ent 108 [a0, a1] lo H = (
(boxO [] (AV.cells a0) H).bind fun r1 =>
(ld false 1 a1 r1.2).bind fun x2 =>
(fldA 6 r1.1).bind fun x3 =>
(ld false 1 x3 r1.2).bind fun x4 =>
(callA cfg O 106 [x2, x4] (List.length H :: lo) r1.2).bind fun r5 =>
(un .not r5.1).bind fun x6 =>
(gd x6 false (ld false 1 a1 r5.2)).bind fun x7 =>
(gd x6 false (fldA 4 r1.1)).bind fun x8 =>
(gd x6 false (ld true 2 x8 r5.2)).bind fun x9 =>
(gdH x6 false (callA cfg O 65 [x7, x9] (List.length H :: lo) r5.2) r5.2).bind fun r10 =>
(gd x6 false (un .not r10.1)).bind fun x11 =>
(pickA x6 (B true) x11).bind fun x12 =>
leave 3 (List.length H :: lo) [x12] r10.2) := by
  rw [O_ent]
  kernel_rfl
-- slices.Equal[[]backstitch/api.Try,backstitch/api.Try]
noncomputable def T135_10 : List It := labAt Tryd.prog cfg 135 10 (fun _ => none)
noncomputable def L135_10 (vals : List AV) (lo : List Nat) (H : Heap) : Res := O.lab 135 [0, 1, 12, 13] (T135_10) vals lo H
theorem L135_10_eq (lo : List Nat) (v0 v1 v12 v13 : AV) (H : Heap) : L135_10 [v0, v1, v12, v13] lo H = (
(bin .lss .int v13 v12).bind fun x1 =>
cond x1 (
(idxA 2 v0 v13).bind fun x2 =>
(ld true 2 x2 H).bind fun x3 =>
(idxA 2 v1 v13).bind fun x4 =>
(ld true 2 x4 H).bind fun x5 =>
(bin .neq (.agg 2 [(0, .int), (1, .int)]) x3 x5).bind fun x6 =>
cond x6 (
leave 0 lo [B false] H) (
(bin .add .int v13 (I 1)).bind fun x7 =>
L135_10 [v0, v1, v12, x7] lo H)) (
leave 0 lo [B true] H)) := by
  show O.lab _ _ _ _ _ _ = _
  rw [O_lab]
  kernel_rfl
theorem f135_eq (a0 a1 : AV) : O.ent 135 [a0, a1] [] [] = (
(lenA .slice a0 []).bind fun x1 =>
(lenA .slice a1 []).bind fun x2 =>
(bin .neq .int x1 x2).bind fun x3 =>
cond x3 (
leave 0 [] [B false] []) (
(lenA .slice a0 []).bind fun x4 =>
L135_10 [a0, a1, x4, I 0] [] [])) := by
  rw [O_ent]
  kernel_rfl
-- slices.Clone[[]backstitch/api.Try,backstitch/api.Try]
theorem f136_eq (a0 : AV) (lo : List Nat) (H : Heap) : O.ent 136 [a0] lo H = (
(bin .eql .slice a0 (.p nilS)).bind fun x1 =>
cond x1 (
leave 4 lo [.p nilS] H) (
(litA false 2 [] H).bind fun r2 =>
(appA 2 16 r2.1 a0 r2.2).bind fun r3 =>
leave 4 lo [r3.1] r3.2)) := by
  rw [O_ent]
  kernel_rfl
-- (*backstitch/state.look).saved
theorem f110_eq (a0 a1 : AV) (lo : List Nat) (H : Heap) : O.ent 110 [a0, a1] lo H = (
(boxO [] (AV.cells a1) H).bind fun r1 =>
(ld true 8 r1.1 r1.2).bind fun x2 =>
(callA cfg O 141 [a0, x2] (List.length H :: lo) r1.2).bind fun r3 =>
(un .not r3.1).bind fun x4 =>
(gd x4 false (fldA 2 r1.1)).bind fun x5 =>
(gd x4 false (ld false 1 x5 r3.2)).bind fun x6 =>
(gd x4 false (bin .neq .int x6 (I (-1)))).bind fun x7 =>
(pickA x4 (B true) x7).bind fun x8 =>
(gd x8 false (fldA 3 r1.1)).bind fun x9 =>
(gd x8 false (ld false 1 x9 r3.2)).bind fun x10 =>
(gd x8 false (bin .neq .int x10 (I (-1)))).bind fun x11 =>
(pickA x8 (B true) x11).bind fun x12 =>
(gd x12 false (some a0)).bind fun x13 =>
(gd x12 false (nilCheckA x13)).bind fun x14 =>
(gd x12 false (fldA 0 x14)).bind fun x15 =>
(gd x12 false (fldA 0 x15)).bind fun x16 =>
(gd x12 false (ld false 1 x16 r3.2)).bind fun x17 =>
(gd x12 false (fldA 0 r1.1)).bind fun x18 =>
(gd x12 false (ld false 1 x18 r3.2)).bind fun x19 =>
(gd x12 false (idxA 5 x17 x19)).bind fun x20 =>
(gd x12 false (fldA 2 x20)).bind fun x21 =>
(gd x12 false (ld false 1 x21 r3.2)).bind fun x22 =>
(gd x12 false (un .not x22)).bind fun x23 =>
(pickA x12 (B true) x23).bind fun x24 =>
cond x24 (
leave 3 (List.length H :: lo) [B false] r3.2) (
(fldA 1 r1.1).bind fun x25 =>
(ld false 1 x25 r3.2).bind fun x26 =>
(bin .eql .int x26 (I 0)).bind fun x27 =>
(gd x27 false (some a0)).bind fun x28 =>
(gd x27 false (nilCheckA x28)).bind fun x29 =>
(gd x27 false (fldA 0 x29)).bind fun x30 =>
(gd x27 false (fldA 0 x30)).bind fun x31 =>
(gd x27 false (ld false 1 x31 r3.2)).bind fun x32 =>
(gd x27 false (fldA 0 r1.1)).bind fun x33 =>
(gd x27 false (ld false 1 x33 r3.2)).bind fun x34 =>
(gd x27 false (idxA 5 x32 x34)).bind fun x35 =>
(gd x27 false (fldA 4 x35)).bind fun x36 =>
(gd x27 false (ld false 1 x36 r3.2)).bind fun x37 =>
(gd x27 false (fldA 1 r1.1)).bind fun x38 =>
(gd x27 false (ld false 1 x38 r3.2)).bind fun x39 =>
(gd x27 false (bin .sub .int x39 (I 1))).bind fun x40 =>
(gd x27 false (idxA 5 x37 x40)).bind fun x41 =>
(gd x27 false (fldA 0 x41)).bind fun x42 =>
(gd x27 false (ld false 1 x42 r3.2)).bind fun x43 =>
(gd x27 false (bin .eql .int x43 (I 32))).bind fun x44 =>
(pickA x27 (B true) x44).bind fun x45 =>
leave 3 (List.length H :: lo) [x45] r3.2)) := by
  rw [O_ent]
  kernel_rfl
-- backstitch/cells.Fits
theorem f111_eq (a0 a1 : AV) (lo : List Nat) (H : Heap) : O.ent 111 [a0, a1] lo H = (
(boxO [] (AV.cells a1) H).bind fun r1 =>
(ld true 2 r1.1 r1.2).bind fun x2 =>
(callA cfg O 65 [a0, x2] (List.length H :: lo) r1.2).bind fun r3 =>
leave 3 (List.length H :: lo) [r3.1] r3.2) := by
  rw [O_ent]
  kernel_rfl
-- (*backstitch/state.look).cell
theorem f112_eq (a0 a1 a2 : AV) (lo : List Nat) (H : Heap) : O.ent 112 [a0, a1, a2] lo H = (
(boxO [] (AV.cells a1) H).bind fun r1 =>
(boxO [] [(I 0), (I 0), (.p nilS), (.p nilS)] r1.2).bind fun r2 =>
(fldA 0 r1.1).bind fun x3 =>
(ld false 1 x3 r2.2).bind fun x4 =>
(bin .neq .int x4 (I 5)).bind fun x5 =>
(gd x5 false (fldA 1 r1.1)).bind fun x6 =>
(gd x5 false (ld false 1 x6 r2.2)).bind fun x7 =>
(gd x5 false (bin .lss .int x7 (I 0))).bind fun x8 =>
(pickA x5 (B true) x8).bind fun x9 =>
(gd x9 false (fldA 1 r1.1)).bind fun x10 =>
(gd x9 false (ld false 1 x10 r2.2)).bind fun x11 =>
(gd x9 false (some a0)).bind fun x12 =>
(gd x9 false (nilCheckA x12)).bind fun x13 =>
(gd x9 false (fldA 3 x13)).bind fun x14 =>
(gd x9 false (ld false 1 x14 r2.2)).bind fun x15 =>
(gd x9 false (nilCheckA x15)).bind fun x16 =>
(gd x9 false (fldA 0 x16)).bind fun x17 =>
(gd x9 false (ld false 1 x17 r2.2)).bind fun x18 =>
(gd x9 false (lenA .slice x18 r2.2)).bind fun x19 =>
(gd x9 false (bin .geq .int x11 x19)).bind fun x20 =>
(pickA x9 (B true) x20).bind fun x21 =>
(gd x21 false (some a0)).bind fun x22 =>
(gd x21 false (nilCheckA x22)).bind fun x23 =>
(gd x21 false (fldA 3 x23)).bind fun x24 =>
(gd x21 false (ld false 1 x24 r2.2)).bind fun x25 =>
(gd x21 false (nilCheckA x25)).bind fun x26 =>
(gd x21 false (fldA 0 x26)).bind fun x27 =>
(gd x21 false (ld false 1 x27 r2.2)).bind fun x28 =>
(gd x21 false (fldA 1 r1.1)).bind fun x29 =>
(gd x21 false (ld false 1 x29 r2.2)).bind fun x30 =>
(gd x21 false (idxA 4 x28 x30)).bind fun x31 =>
(gd x21 false (fldA 0 x31)).bind fun x32 =>
(gd x21 false (ld false 1 x32 r2.2)).bind fun x33 =>
(gd x21 false (some a2)).bind fun x34 =>
(gd x21 false (bin .neq .int x33 x34)).bind fun x35 =>
(pickA x21 (B true) x35).bind fun x36 =>
cond x36 (
(buildA [(I 0), (I 0), (.p nilS), (.p nilS)] []).bind fun x37 =>
((stA 4 r2.1 x37 (List.length H :: lo) r2.2).map fun H' => (undefA, H')).bind fun r38 =>
((ld true 4 r2.1 r38.2).bind fun x40 => ((some []).map fun q42 => B false :: q42).map fun q41 => x40 :: q41).bind fun xs39 => leave 3 (List.length H :: lo) xs39 r38.2) (
(nilCheckA a0).bind fun x43 =>
(fldA 3 x43).bind fun x44 =>
(ld false 1 x44 r2.2).bind fun x45 =>
(nilCheckA x45).bind fun x46 =>
(fldA 0 x46).bind fun x47 =>
(ld false 1 x47 r2.2).bind fun x48 =>
(fldA 1 r1.1).bind fun x49 =>
(ld false 1 x49 r2.2).bind fun x50 =>
(idxA 4 x48 x50).bind fun x51 =>
(ld true 4 x51 r2.2).bind fun x52 =>
((stA 4 r2.1 x52 (List.length H :: lo) r2.2).map fun H' => (undefA, H')).bind fun r53 =>
((ld true 4 r2.1 r53.2).bind fun x55 => ((some []).map fun q57 => B true :: q57).map fun q56 => x55 :: q56).bind fun xs54 => leave 3 (List.length H :: lo) xs54 r53.2)) := by
  rw [O_ent]
  kernel_rfl
-- (*backstitch/state.look).stack
noncomputable def T113_6 : List It := labAt Tryd.prog cfg 113 6 (fun _ => none)
noncomputable def L113_6 (vals : List AV) (lo : List Nat) (H : Heap) : Res := O.lab 113 [0, 1, 11, 12, 13] (T113_6) vals lo H
noncomputable def T113_33 : List It := labAt Tryd.prog cfg 113 33 (fun _ => none)
noncomputable def L113_33 (vals : List AV) (lo : List Nat) (H : Heap) : Res := O.lab 113 [0, 1, 11, 12, 13] (T113_33) vals lo H
noncomputable def T113_17 : List It := labAt Tryd.prog cfg 113 17 (fun _ => none)
noncomputable def L113_17 (vals : List AV) (lo : List Nat) (H : Heap) : Res := O.lab 113 [0, 1, 5, 6, 7, 11, 12, 13] (T113_17) vals lo H
theorem L113_6_eq (lo : List Nat) (v0 v1 v11 v12 v13 : AV) (H : Heap) : L113_6 [v0, v1, v11, v12, v13] lo H = (
(bin .lss .int v13 v12).bind fun x1 =>
cond x1 (
(idxA 8 v11 v13).bind fun x2 =>
(ld true 8 x2 H).bind fun x3 =>
(boxO [] [(I 0), (I 0), (I 0), (I 0), (I 0), (I 0), (.p nilS), (.p nilS)] H).bind fun r4 =>
((stA 8 r4.1 x3 lo r4.2).map fun H' => (undefA, H')).bind fun r5 =>
(bin .gtr .int v13 (I 0)).bind fun x6 =>
cond x6 (
(bin .sub .int v13 (I 1)).bind fun x7 =>
(idxA 8 v1 x7).bind fun x8 =>
(fldA 6 x8).bind fun x9 =>
(ld false 1 x9 r5.2).bind fun x10 =>
(lenA .slice x10 r5.2).bind fun x11 =>
L113_17 [v0, v1, v13, r4.1, x11, v11, v12, v13] lo r5.2) (
L113_17 [v0, v1, v13, r4.1, I 0, v11, v12, v13] lo r5.2)) (
leave 1 lo [B true] H)) := by
  show O.lab _ _ _ _ _ _ = _
  rw [O_lab]
  kernel_rfl
theorem L113_33_eq (lo : List Nat) (v0 v1 v11 v12 v13 : AV) (H : Heap) : L113_33 [v0, v1, v11, v12, v13] lo H = (
(bin .add .int v13 (I 1)).bind fun x1 =>
L113_6 [v0, v1, v11, v12, x1] lo H) := by
  show O.lab _ _ _ _ _ _ = _
  rw [O_lab]
  kernel_rfl
theorem L113_17_eq (lo : List Nat) (v0 v1 v5 v6 v7 v11 v12 v13 : AV) (H : Heap) : L113_17 [v0, v1, v5, v6, v7, v11, v12, v13] lo H = (
(nilCheckA v0).bind fun x1 =>
(fldA 0 x1).bind fun x2 =>
(fldA 0 x2).bind fun x3 =>
(ld false 1 x3 H).bind fun x4 =>
(fldA 0 v6).bind fun x5 =>
(ld false 1 x5 H).bind fun x6 =>
(nilCheckA v0).bind fun x7 =>
(fldA 0 x7).bind fun x8 =>
(fldA 0 x8).bind fun x9 =>
(ld false 1 x9 H).bind fun x10 =>
(lenA .slice x10 H).bind fun x11 =>
(bin .sub .int x11 (I 1)).bind fun x12 =>
(bests false x6 [x12]).bind fun x13 =>
(bests true (I 0) [x13]).bind fun x14 =>
(idxA 5 x4 x14).bind fun x15 =>
(fldA 2 x15).bind fun x16 =>
(ld false 1 x16 H).bind fun x17 =>
(ld true 8 v6 H).bind fun x18 =>
(callA cfg O 141 [v0, x18] lo H).bind fun r19 =>
(un .not r19.1).bind fun x20 =>
(gd x20 false (fldA 2 v6)).bind fun x21 =>
(gd x20 false (ld false 1 x21 r19.2)).bind fun x22 =>
(gd x20 false (some v7)).bind fun x23 =>
(gd x20 false (bin .sub .int x23 (I 1))).bind fun x24 =>
(gdH x20 false (callA cfg O 71 [x22, I (-1), x24] lo r19.2) r19.2).bind fun r25 =>
(gd x20 false (un .not r25.1)).bind fun x26 =>
(pickA x20 (B true) x26).bind fun x27 =>
(gd x27 false (some x17)).bind fun x28 =>
(gd x27 false (fldA 3 v6)).bind fun x29 =>
(gd x27 false (ld false 1 x29 r25.2)).bind fun x30 =>
(gd x27 false (bin .geq .int x30 (I 0))).bind fun x31 =>
(gd x27 false (bin .neq .bool x28 x31)).bind fun x32 =>
(pickA x27 (B true) x32).bind fun x33 =>
(gd x33 false (fldA 3 v6)).bind fun x34 =>
(gd x33 false (ld false 1 x34 r25.2)).bind fun x35 =>
(gd x33 false (bin .lss .int x35 (I (-1)))).bind fun x36 =>
(pickA x33 (B true) x36).bind fun x37 =>
cond x37 (
leave 1 lo [B false] r25.2) (
(un .not x17).bind fun x38 =>
cond x38 (
L113_33 [v0, v1, v11, v12, v13] lo r25.2) (
(fldA 3 v6).bind fun x39 =>
(ld false 1 x39 r25.2).bind fun x40 =>
(buildA [(I 0), (I 0)] [(0, 1, I 5), (1, 1, x40)]).bind fun x41 =>
(callA cfg O 112 [v0, x41, I 5] lo r25.2).bind fun r42 =>
(extractA r42.1 0).bind fun x43 =>
(extractA r42.1 1).bind fun x44 =>
(boxO [] [(I 0), (I 0), (.p nilS), (.p nilS)] r42.2).bind fun r45 =>
((stA 4 r45.1 x43 lo r45.2).map fun H' => (undefA, H')).bind fun r46 =>
(bin .eql .int v5 (I 0)).bind fun x47 =>
(gd x47 false (some x44)).bind fun x48 =>
(gd x47 false (un .not x48)).bind fun x49 =>
(pickA x47 (B true) x49).bind fun x50 =>
(gd x50 false (fldA 1 r45.1)).bind fun x51 =>
(gd x50 false (ld false 1 x51 r46.2)).bind fun x52 =>
(gd x50 false (bin .neq .int x52 (I 1))).bind fun x53 =>
(pickA x50 (B true) x53).bind fun x54 =>
(gd x54 false (some v0)).bind fun x55 =>
(gd x54 false (nilCheckA x55)).bind fun x56 =>
(gd x54 false (fldA 6 x56)).bind fun x57 =>
(gd x54 false (ld false 1 x57 r46.2)).bind fun x58 =>
(gd x54 false (fldA 3 v6)).bind fun x59 =>
(gd x54 false (ld false 1 x59 r46.2)).bind fun x60 =>
(gd x54 false (lookA .int (I 0) false x58 x60 r46.2)).bind fun x61 =>
(gd x54 false (bin .eql .int x61 (I 1))).bind fun x62 =>
(pickA x54 (B true) x62).bind fun x63 =>
cond x63 (
leave 1 lo [B false] r46.2) (
(nilCheckA v0).bind fun x64 =>
(fldA 6 x64).bind fun x65 =>
(ld false 1 x65 r46.2).bind fun x66 =>
(fldA 3 v6).bind fun x67 =>
(ld false 1 x67 r46.2).bind fun x68 =>
((mapUpdA .int x66 x68 (I 1) lo r46.2).map fun H' => (undefA, H')).bind fun r69 =>
L113_33 [v0, v1, v11, v12, v13] lo r69.2)))) := by
  show O.lab _ _ _ _ _ _ = _
  rw [O_lab]
  kernel_rfl
theorem f113_eq (a0 a1 : AV) (lo : List Nat) (H : Heap) : O.ent 113 [a0, a1] lo H = (
(lenA .slice a1 H).bind fun x1 =>
L113_6 [a0, a1, a1, x1, I 0] lo H) := by
  rw [O_ent]
  kernel_rfl
-- math.Float64frombits
theorem f130_eq (a0 : AV) : O.ent 130 [a0] [] [] = (primA .f64from [a0]).map fun x => ([x], []) := by
  rw [O_ent]
  kernel_rfl
-- (backstitch/code.look).text
theorem f131_eq (a0 a1 : AV) : O.ent 131 [a0, a1] [] [] = (
(boxO [] (AV.cells a0) []).bind fun r1 =>
(fldA 0 r1.1).bind fun x2 =>
(fldA 2 x2).bind fun x3 =>
(ld false 1 x3 r1.2).bind fun x4 =>
(lenA .slice x4 r1.2).bind fun x5 =>
(bin .sub .int x5 (I 1)).bind fun x6 =>
(callA cfg O 91 [a1, I 0, x6] [] r1.2).bind fun r7 =>
leave 0 [] [r7.1] r7.2) := by
  rw [O_ent]
  kernel_rfl
-- (backstitch/code.look).at
theorem f132_eq (a0 a1 : AV) : O.ent 132 [a0, a1] [] [] = (
(boxO [] (AV.cells a0) []).bind fun r1 =>
(fldA 3 r1.1).bind fun x2 =>
(fldA 4 x2).bind fun x3 =>
(ld false 1 x3 r1.2).bind fun x4 =>
(lenA .slice x4 r1.2).bind fun x5 =>
(bin .sub .int x5 (I 1)).bind fun x6 =>
(callA cfg O 91 [a1, I 0, x6] [] r1.2).bind fun r7 =>
leave 0 [] [r7.1] r7.2) := by
  rw [O_ent]
  kernel_rfl
-- slices.ContainsFunc[[]int,int]
theorem f133_eq (a0 a1 : AV) (lo : List Nat) (H : Heap) : O.ent 133 [a0, a1] lo H = (
(callA cfg O 151 [a0, a1] (List.length H :: lo) H).bind fun r1 =>
(bin .geq .int r1.1 (I 0)).bind fun x2 =>
leave 3 (List.length H :: lo) [x2] r1.2) := by
  rw [O_ent]
  kernel_rfl
-- (backstitch/code.look).caught$1
theorem f134_eq (a0 a1 : AV) (lo : List Nat) (H : Heap) : O.ent 134 [a0, a1] lo H = (
(ld true 8 a1 H).bind fun x1 =>
(callA cfg O 93 [x1, a0] (List.length H :: lo) H).bind fun r2 =>
(un .not r2.1).bind fun x3 =>
(gd x3 true (some a0)).bind fun x4 =>
(gd x3 true (fldA 3 a1)).bind fun x5 =>
(gd x3 true (fldA 3 x5)).bind fun x6 =>
(gd x3 true (ld false 1 x6 r2.2)).bind fun x7 =>
(gd x3 true (lenA .slice x7 r2.2)).bind fun x8 =>
(gd x3 true (un .neg x8)).bind fun x9 =>
(gdH x3 true (callA cfg O 91 [x4, x9, I (-1)] (List.length H :: lo) r2.2) r2.2).bind fun r10 =>
(gd x3 true (un .not r10.1)).bind fun x11 =>
(pickA x3 x11 (B false)).bind fun x12 =>
leave 3 (List.length H :: lo) [x12] r10.2) := by
  rw [O_ent]
  kernel_rfl
-- backstitch/cells.all$1
theorem f139_eq (a0 a1 : AV) (lo : List Nat) (H : Heap) : O.ent 139 [a0, a1] lo H = (
(boxO [] (AV.cells a0) H).bind fun r1 =>
(ld false 1 a1 r1.2).bind fun x2 =>
(ld true 2 r1.1 r1.2).bind fun x3 =>
(callA cfg O 65 [x2, x3] (List.length H :: lo) r1.2).bind fun r4 =>
(un .not r4.1).bind fun x5 =>
leave 3 (List.length H :: lo) [x5] r4.2) := by
  rw [O_ent]
  kernel_rfl
-- slices.IndexFunc[[]backstitch/api.Frame,backstitch/api.Frame]
noncomputable def T140_6 : List It := labAt Tryd.prog cfg 140 6 (fun _ => none)
noncomputable def L140_6 (vals : List AV) (lo : List Nat) (H : Heap) : Res := O.lab 140 [0, 1, 7, 8] (T140_6) vals lo H
theorem L140_6_eq (lo : List Nat) (v0 v1 v7 v8 : AV) (H : Heap) : L140_6 [v0, v1, v7, v8] lo H = (
(bin .lss .int v8 v7).bind fun x1 =>
cond x1 (
(idxA 8 v0 v8).bind fun x2 =>
(ld true 8 x2 H).bind fun x3 =>
(callV cfg O v1 [x3] lo H).bind fun r4 =>
cond r4.1 (
leave 3 lo [v8] r4.2) (
(bin .add .int v8 (I 1)).bind fun x5 =>
L140_6 [v0, v1, v7, x5] lo r4.2)) (
leave 3 lo [I (-1)] H)) := by
  show O.lab _ _ _ _ _ _ = _
  rw [O_lab]
  kernel_rfl
theorem f140_eq (a0 a1 : AV) (lo : List Nat) (H : Heap) : O.ent 140 [a0, a1] lo H = (
(lenA .slice a0 H).bind fun x1 =>
L140_6 [a0, a1, x1, I 0] (List.length H :: lo) H) := by
  rw [O_ent]
  kernel_rfl
-- (*backstitch/state.look).frame
theorem f141_eq (a0 a1 : AV) (lo : List Nat) (H : Heap) : O.ent 141 [a0, a1] lo H = (
(boxO [] (AV.cells a0) H).bind fun r1 =>
(boxO [] (AV.cells a1) r1.2).bind fun r2 =>
(fldA 0 r2.1).bind fun x3 =>
(ld false 1 x3 r2.2).bind fun x4 =>
(ld false 1 r1.1 r2.2).bind fun x5 =>
(nilCheckA x5).bind fun x6 =>
(fldA 0 x6).bind fun x7 =>
(fldA 0 x7).bind fun x8 =>
(ld false 1 x8 r2.2).bind fun x9 =>
(lenA .slice x9 r2.2).bind fun x10 =>
(bin .sub .int x10 (I 1)).bind fun x11 =>
(callA cfg O 71 [x4, I 0, x11] (List.length H :: lo) r2.2).bind fun r12 =>
(un .not r12.1).bind fun x13 =>
cond x13 (
leave 3 (List.length H :: lo) [B false] r12.2) (
(ld false 1 r1.1 r12.2).bind fun x14 =>
(nilCheckA x14).bind fun x15 =>
(fldA 0 x15).bind fun x16 =>
(fldA 0 x16).bind fun x17 =>
(ld false 1 x17 r12.2).bind fun x18 =>
(fldA 0 r2.1).bind fun x19 =>
(ld false 1 x19 r12.2).bind fun x20 =>
(idxA 5 x18 x20).bind fun x21 =>
(ld true 5 x21 r12.2).bind fun x22 =>
(boxO [] [(I 0), (I 0), (B false), (.p nilS), (.p nilS)] r12.2).bind fun r23 =>
((stA 5 r23.1 x22 (List.length H :: lo) r23.2).map fun H' => (undefA, H')).bind fun r24 =>
(ld false 1 r1.1 r24.2).bind fun x25 =>
(fldA 4 r2.1).bind fun x26 =>
(ld true 2 x26 r24.2).bind fun x27 =>
(callA cfg O 112 [x25, x27, I 4] (List.length H :: lo) r24.2).bind fun r28 =>
(extractA r28.1 0).bind fun x29 =>
(extractA r28.1 1).bind fun x30 =>
(boxO [] [(I 0), (I 0), (.p nilS), (.p nilS)] r28.2).bind fun r31 =>
((stA 4 r31.1 x29 (List.length H :: lo) r31.2).map fun H' => (undefA, H')).bind fun r32 =>
(un .not x30).bind fun x33 =>
(gd x33 false (fldA 1 r31.1)).bind fun x34 =>
(gd x33 false (ld false 1 x34 r32.2)).bind fun x35 =>
(gd x33 false (fldA 0 r2.1)).bind fun x36 =>
(gd x33 false (ld false 1 x36 r32.2)).bind fun x37 =>
(gd x33 false (bin .neq .int x35 x37)).bind fun x38 =>
(pickA x33 (B true) x38).bind fun x39 =>
(gd x39 false (fldA 6 r2.1)).bind fun x40 =>
(gd x39 false (ld false 1 x40 r32.2)).bind fun x41 =>
(gd x39 false (lenA .slice x41 r32.2)).bind fun x42 =>
(gd x39 false (fldA 1 r23.1)).bind fun x43 =>
(gd x39 false (ld false 1 x43 r32.2)).bind fun x44 =>
(gd x39 false (bin .neq .int x42 x44)).bind fun x45 =>
(pickA x39 (B true) x45).bind fun x46 =>
(gd x46 false (fldA 1 r2.1)).bind fun x47 =>
(gd x46 false (ld false 1 x47 r32.2)).bind fun x48 =>
(gd x46 false (fldA 4 r23.1)).bind fun x49 =>
(gd x46 false (ld false 1 x49 r32.2)).bind fun x50 =>
(gd x46 false (lenA .slice x50 r32.2)).bind fun x51 =>
(gd x46 false (bin .sub .int x51 (I 1))).bind fun x52 =>
(gdH x46 false (callA cfg O 71 [x48, I 0, x52] (List.length H :: lo) r32.2) r32.2).bind fun r53 =>
(gd x46 false (un .not r53.1)).bind fun x54 =>
(pickA x46 (B true) x54).bind fun x55 =>
(gd x55 false (ld false 1 r1.1 r53.2)).bind fun x56 =>
(gd x55 false (nilCheckA x56)).bind fun x57 =>
(gd x55 false (fldA 5 x57)).bind fun x58 =>
(gd x55 false (ld false 1 x58 r53.2)).bind fun x59 =>
(gd x55 false (fldA 0 r2.1)).bind fun x60 =>
(gd x55 false (ld false 1 x60 r53.2)).bind fun x61 =>
(gd x55 false (idxA 1 x59 x61)).bind fun x62 =>
(gd x55 false (ld false 1 x62 r53.2)).bind fun x63 =>
(gd x55 false (fldA 1 r2.1)).bind fun x64 =>
(gd x55 false (ld false 1 x64 r53.2)).bind fun x65 =>
(gd x55 false (idxA 1 x63 x65)).bind fun x66 =>
(gd x55 false (ld false 1 x66 r53.2)).bind fun x67 =>
(gd x55 false (un .not x67)).bind fun x68 =>
(pickA x55 (B true) x68).bind fun x69 =>
cond x69 (
leave 3 (List.length H :: lo) [B false] r53.2) (
(fldA 7 r2.1).bind fun x70 =>
(ld false 1 x70 r53.2).bind fun x71 =>
(ld false 1 r1.1 r53.2).bind fun x72 =>
(nilCheckA x72).bind fun x73 =>
(fldA 4 x73).bind fun x74 =>
(ld false 1 x74 r53.2).bind fun x75 =>
(fldA 0 r2.1).bind fun x76 =>
(ld false 1 x76 r53.2).bind fun x77 =>
(idxA 1 x75 x77).bind fun x78 =>
(ld false 1 x78 r53.2).bind fun x79 =>
(fldA 1 r2.1).bind fun x80 =>
(ld false 1 x80 r53.2).bind fun x81 =>
(idxA 1 x79 x81).bind fun x82 =>
(ld false 1 x82 r53.2).bind fun x83 =>
(callA cfg O 135 [x71, x83] (List.length H :: lo) r53.2).bind fun r84 =>
(gd r84.1 true (fldA 6 r2.1)).bind fun x85 =>
(gd r84.1 true (ld false 1 x85 r84.2)).bind fun x86 =>
(gd r84.1 true (some (.fn 152 [] [r1.1]))).bind fun x87 =>
(gdH r84.1 true (callA cfg O 50 [x86, x87] (List.length H :: lo) r84.2) r84.2).bind fun r88 =>
(gd r84.1 true (un .not r88.1)).bind fun x89 =>
(pickA r84.1 x89 (B false)).bind fun x90 =>
leave 3 (List.length H :: lo) [x90] r88.2))) := by
  rw [O_ent]
  kernel_rfl
-- slices.IndexFunc[[]int,int]
noncomputable def T151_6 : List It := labAt Tryd.prog cfg 151 6 (fun _ => none)
noncomputable def L151_6 (vals : List AV) (lo : List Nat) (H : Heap) : Res := O.lab 151 [0, 1, 7, 8] (T151_6) vals lo H
theorem L151_6_eq (lo : List Nat) (v0 v1 v7 v8 : AV) (H : Heap) : L151_6 [v0, v1, v7, v8] lo H = (
(bin .lss .int v8 v7).bind fun x1 =>
cond x1 (
(idxA 1 v0 v8).bind fun x2 =>
(ld false 1 x2 H).bind fun x3 =>
(callV cfg O v1 [x3] lo H).bind fun r4 =>
cond r4.1 (
leave 3 lo [v8] r4.2) (
(bin .add .int v8 (I 1)).bind fun x5 =>
L151_6 [v0, v1, v7, x5] lo r4.2)) (
leave 3 lo [I (-1)] H)) := by
  show O.lab _ _ _ _ _ _ = _
  rw [O_lab]
  kernel_rfl
theorem f151_eq (a0 a1 : AV) (lo : List Nat) (H : Heap) : O.ent 151 [a0, a1] lo H = (
(lenA .slice a0 H).bind fun x1 =>
L151_6 [a0, a1, x1, I 0] (List.length H :: lo) H) := by
  rw [O_ent]
  kernel_rfl
-- (*backstitch/state.look).frame$1
theorem f152_eq (a0 a1 : AV) (lo : List Nat) (H : Heap) : O.ent 152 [a0, a1] lo H = (
(boxO [] (AV.cells a0) H).bind fun r1 =>
(ld false 1 a1 r1.2).bind fun x2 =>
(nilCheckA x2).bind fun x3 =>
(fldA 3 x3).bind fun x4 =>
(ld false 1 x4 r1.2).bind fun x5 =>
(ld true 2 r1.1 r1.2).bind fun x6 =>
(callA cfg O 111 [x5, x6] (List.length H :: lo) r1.2).bind fun r7 =>
(un .not r7.1).bind fun x8 =>
leave 3 (List.length H :: lo) [x8] r7.2) := by
  rw [O_ent]
  kernel_rfl
end Go.Proofs.YtfdnamedmjhcfaaDoor
