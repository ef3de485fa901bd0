import Derived.Test.YtangmjeafnkfaaaCf
set_option linter.unusedVariables false
set_option maxRecDepth 100000
namespace Go.Proofs.Ytangmjeafnkfaaa
open Go Go.AM
-- backstitch/backstitchlaw4.SmallTells
noncomputable def T12_29 : List It := labAt Try.prog cfg 12 29 (fun _ => none)
noncomputable def L12_29 (vals : List AV) (lo : List Nat) (H : Heap) : Res := O.lab 12 [0, 3, 9, 11, 12, 13, 14] (T12_29) vals lo H
noncomputable def T12_20 : List It := labAt Try.prog cfg 12 20 (fun _ => none)
noncomputable def L12_20 (vals : List AV) (lo : List Nat) (H : Heap) : Res := O.lab 12 [0, 1, 2, 3, 9, 11, 12, 13, 14, 15] (T12_20) vals lo H
noncomputable def T12_23 : List It := labAt Try.prog cfg 12 23 (fun _ => none)
noncomputable def L12_23 (vals : List AV) (lo : List Nat) (H : Heap) : Res := O.lab 12 [0, 1, 2, 3, 9, 11, 12, 13, 14, 15] (T12_23) vals lo H
noncomputable def T12_37 : List It := labAt Try.prog cfg 12 37 (fun _ => none)
noncomputable def L12_37 (vals : List AV) (lo : List Nat) (H : Heap) : Res := O.lab 12 [0, 3, 9, 11, 12, 13, 14, 16, 17] (T12_37) vals lo H
noncomputable def T12_51 : List It := labAt Try.prog cfg 12 51 (fun _ => none)
noncomputable def L12_51 (vals : List AV) (lo : List Nat) (H : Heap) : Res := O.lab 12 [0, 11, 12, 13, 14, 16, 18, 19, 20, 21, 22] (T12_51) vals lo H
theorem L12_29_eq (lo : List Nat) (v0 v3 v9 v11 v12 v13 v14 : AV) (H : Heap) : L12_29 [v0, v3, v9, v11, v12, v13, v14] lo H = (
(boxO [] [(I 0)] H).bind fun r1 =>
((stA 1 r1.1 (I 0) lo r1.2).map fun H' => (undefA, H')).bind fun r2 =>
cond v3 (
L12_37 [v0, v3, v9, v11, v12, v13, v14, r1.1, .p (.v .nilFunc)] lo r2.2) (
L12_37 [v0, v3, v9, v11, v12, v13, v14, r1.1, .fn 50 [] [r1.1, v9]] lo r2.2)) := by
  show O.lab _ _ _ _ _ _ = _
  rw [O_lab]
  kernel_rfl
theorem L12_20_eq (lo : List Nat) (v0 v1 v2 v3 v9 v11 v12 v13 v14 v15 : AV) (H : Heap) : L12_20 [v0, v1, v2, v3, v9, v11, v12, v13, v14, v15] lo H = (
(lenA .slice v0 H).bind fun x1 =>
(bin .lss .int v15 x1).bind fun x2 =>
cond x2 (
(bin .lss .int v15 v1).bind fun x3 =>
(gd x3 false (some v15)).bind fun x4 =>
(gd x3 false (some v2)).bind fun x5 =>
(gd x3 false (bin .geq .int x4 x5)).bind fun x6 =>
(pickA x3 (B true) x6).bind fun x7 =>
cond x7 (
(idxA 1 v0 v15).bind fun x8 =>
(ld false 1 x8 H).bind fun x9 =>
(litA false 1 [x9] H).bind fun r10 =>
(appA 1 8 v14 r10.1 r10.2).bind fun r11 =>
L12_23 [v0, v1, v2, v3, v9, v11, v12, v13, r11.1, v15] lo r11.2) (
L12_23 [v0, v1, v2, v3, v9, v11, v12, v13, v14, v15] lo H)) (
L12_29 [v0, v3, v9, v11, v12, v13, v14] lo H)) := by
  show O.lab _ _ _ _ _ _ = _
  rw [O_lab]
  kernel_rfl
theorem L12_23_eq (lo : List Nat) (v0 v1 v2 v3 v9 v11 v12 v13 v14 v15 : AV) (H : Heap) : L12_23 [v0, v1, v2, v3, v9, v11, v12, v13, v14, v15] lo H = (
(bin .add .int v15 (I 1)).bind fun x1 =>
L12_20 [v0, v1, v2, v3, v9, v11, v12, v13, v14, x1] lo H) := by
  show O.lab _ _ _ _ _ _ = _
  rw [O_lab]
  kernel_rfl
theorem L12_37_eq (lo : List Nat) (v0 v3 v9 v11 v12 v13 v14 v16 v17 : AV) (H : Heap) : L12_37 [v0, v3, v9, v11, v12, v13, v14, v16, v17] lo H = (
(litA false 1 [] H).bind fun r1 =>
(appA 1 8 r1.1 v0 r1.2).bind fun r2 =>
(callA cfg O 51 [v0, v17] lo r2.2).bind fun r3 =>
(extractA r3.1 0).bind fun x4 =>
(extractA r3.1 1).bind fun x5 =>
(extractA r3.1 2).bind fun x6 =>
(lenA .slice v0 r3.2).bind fun x7 =>
(bin .gtr .int x7 (I 200)).bind fun x8 =>
cond x8 (
L12_51 [v0, v11, v12, v13, v14, v16, r2.1, x4, x5, x6, I 2] lo r3.2) (
(gd v3 false (ld false 1 v9 r3.2)).bind fun x9 =>
(pickA v3 (B true) x9).bind fun x10 =>
cond x10 (
L12_51 [v0, v11, v12, v13, v14, v16, r2.1, x4, x5, x6, I 8] lo r3.2) (
L12_51 [v0, v11, v12, v13, v14, v16, r2.1, x4, x5, x6, I 0] lo r3.2))) := by
  show O.lab _ _ _ _ _ _ = _
  rw [O_lab]
  kernel_rfl
theorem L12_51_eq (lo : List Nat) (v0 v11 v12 v13 v14 v16 v18 v19 v20 v21 v22 : AV) (H : Heap) : L12_51 [v0, v11, v12, v13, v14, v16, v18, v19, v20, v21, v22] lo H = (
(bin .eql .int v22 (I 0)).bind fun x1 =>
(gd x1 true (some v20)).bind fun x2 =>
(gd x1 true (ld false 1 v16 H)).bind fun x3 =>
(gd x1 true (bin .neq .int x2 x3)).bind fun x4 =>
(pickA x1 x4 (B false)).bind fun x5 =>
(gd x5 false (some v22)).bind fun x6 =>
(gd x5 false (bin .neq .int x6 (I 0))).bind fun x7 =>
(gd x5 false (some x7)).bind fun x8 =>
(gd x8 true (some v20)).bind fun x9 =>
(gd x8 true (bin .neq .int x9 (I 0))).bind fun x10 =>
(gd x5 false (pickA x8 x10 (B false))).bind fun x11 =>
(pickA x5 (B true) x11).bind fun x12 =>
cond x12 (
leave 0 lo [B false] H) (
(callA cfg O 17 [v11, v14] lo H).bind fun r13 =>
(gd r13.1 true (some v12)).bind fun x14 =>
(gd r13.1 true (some v13)).bind fun x15 =>
(gd r13.1 true (bin .eql .int x14 x15)).bind fun x16 =>
(pickA r13.1 x16 (B false)).bind fun x17 =>
(gd x17 true (some v19)).bind fun x18 =>
(gd x17 true (lenA .slice x18 r13.2)).bind fun x19 =>
(gd x17 true (bin .eql .int x19 (I 0))).bind fun x20 =>
(pickA x17 x20 (B false)).bind fun x21 =>
(gd x21 true (some v21)).bind fun x22 =>
(gd x21 true (some v22)).bind fun x23 =>
(gd x21 true (bin .eql .int x22 x23)).bind fun x24 =>
(pickA x21 x24 (B false)).bind fun x25 =>
(gd x25 true (some v0)).bind fun x26 =>
(gd x25 true (some v18)).bind fun x27 =>
(gdH x25 true (callA cfg O 17 [x26, x27] lo r13.2) r13.2).bind fun r28 =>
(pickA x25 r28.1 (B false)).bind fun x29 =>
leave 0 lo [x29] r28.2)) := by
  show O.lab _ _ _ _ _ _ = _
  rw [O_lab]
  kernel_rfl
theorem f12_eq (a0 a1 a2 a3 a4 : AV) : O.ent 12 [a0, a1, a2, a3, a4] [] [] = (
(boxO [] (AV.cells a4) []).bind fun r1 =>
(callA cfg O 49 [a0, a1, a2] [] r1.2).bind fun r2 =>
(extractA r2.1 0).bind fun x3 =>
(extractA r2.1 1).bind fun x4 =>
(lenA .slice a0 r2.2).bind fun x5 =>
(bin .gtr .int x5 (I 200)).bind fun x6 =>
cond x6 (
L12_29 [a0, a3, r1.1, x3, x4, I 2, .p nilS] [] r2.2) (
(bin .lss .int a1 (I 0)).bind fun x7 =>
(gd x7 false (some a1)).bind fun x8 =>
(gd x7 false (some a2)).bind fun x9 =>
(gd x7 false (bin .gtr .int x8 x9)).bind fun x10 =>
(pickA x7 (B true) x10).bind fun x11 =>
(gd x11 false (some a2)).bind fun x12 =>
(gd x11 false (some a0)).bind fun x13 =>
(gd x11 false (lenA .slice x13 r2.2)).bind fun x14 =>
(gd x11 false (bin .gtr .int x12 x14)).bind fun x15 =>
(pickA x11 (B true) x15).bind fun x16 =>
cond x16 (
L12_29 [a0, a3, r1.1, x3, x4, I 1, .p nilS] [] r2.2) (
L12_20 [a0, a1, a2, a3, r1.1, x3, x4, I 0, .p nilS, I 0] [] r2.2))) := by
  rw [O_ent]
  kernel_rfl
-- backstitch/small.Without
theorem f49_eq (a0 a1 a2 : AV) : O.ent 49 [a0, a1, a2] [] [] = (
(lenA .slice a0 []).bind fun x1 =>
(bin .gtr .int x1 (I 200)).bind fun x2 =>
cond x2 (
leave 0 [] [.p nilS, I 2] []) (
(bin .lss .int a1 (I 0)).bind fun x3 =>
(gd x3 false (some a1)).bind fun x4 =>
(gd x3 false (some a2)).bind fun x5 =>
(gd x3 false (bin .gtr .int x4 x5)).bind fun x6 =>
(pickA x3 (B true) x6).bind fun x7 =>
(gd x7 false (some a2)).bind fun x8 =>
(gd x7 false (some a0)).bind fun x9 =>
(gd x7 false (lenA .slice x9 [])).bind fun x10 =>
(gd x7 false (bin .gtr .int x8 x10)).bind fun x11 =>
(pickA x7 (B true) x11).bind fun x12 =>
cond x12 (
leave 0 [] [.p nilS, I 1] []) (
(callA cfg O 114 [a0, a1, a2] [] []).bind fun r13 =>
leave 0 [] [r13.1, I 0] r13.2))) := by
  rw [O_ent]
  kernel_rfl
-- backstitch/backstitchlaw4.SmallTells$1
noncomputable def T50_8 : List It := labAt Try.prog cfg 50 8 (fun _ => none)
noncomputable def L50_8 (vals : List AV) (lo : List Nat) (H : Heap) : Res := O.lab 50 [0, 2, 5] (T50_8) vals lo H
theorem L50_8_eq (lo : List Nat) (v0 v2 v5 : AV) (H : Heap) : L50_8 [v0, v2, v5] lo H = (
(lenA .slice v0 H).bind fun x1 =>
(bin .lss .int v5 x1).bind fun x2 =>
cond x2 (
(idxA 1 v0 v5).bind fun x3 =>
((stA 1 x3 (I (-7)) lo H).map fun H' => (undefA, H')).bind fun r4 =>
(bin .add .int v5 (I 1)).bind fun x5 =>
L50_8 [v0, v2, x5] lo r4.2) (
(ld false 1 v2 H).bind fun x6 =>
(un .not x6).bind fun x7 =>
leave 1 lo [x7] H)) := by
  show O.lab _ _ _ _ _ _ = _
  rw [O_lab]
  kernel_rfl
theorem f50_eq (a0 a1 a2 : AV) (lo : List Nat) (H : Heap) : O.ent 50 [a0, a1, a2] lo H = (
(ld false 1 a1 H).bind fun x1 =>
(bin .add .int x1 (I 1)).bind fun x2 =>
((stA 1 a1 x2 lo H).map fun H' => (undefA, H')).bind fun r3 =>
L50_8 [a0, a2, I 0] lo r3.2) := by
  rw [O_ent]
  kernel_rfl
-- backstitch/small.Min
noncomputable def T51_22 : List It := labAt Try.prog cfg 51 22 (fun _ => none)
noncomputable def L51_22 (vals : List AV) (lo : List Nat) (H : Heap) : Res := O.lab 51 [7, 8, 9] (T51_22) vals lo H
noncomputable def T51_200006 : List It := labAt Try.prog cfg 51 200006 (fun _ => none)
noncomputable def L51_200006 (vals : List AV) (lo : List Nat) (H : Heap) : Res := O.lab 51 [7, 8] (T51_200006) vals lo H
theorem L51_22_eq (lo : List Nat) (v7 v8 v9 : AV) (H : Heap) : L51_22 [v7, v8, v9] lo H = (
(bin .gtr .int v9 (I 1)).bind fun x1 =>
cond x1 (
(callA cfg O 117 [v7, v8, v9] lo H).bind fun r2 =>
(bin .quo .int v9 (I 2)).bind fun x3 =>
L51_22 [v7, r2.1, x3] lo r2.2) (
L51_200006 [v7, v8] lo H)) := by
  show O.lab _ _ _ _ _ _ = _
  rw [O_lab]
  kernel_rfl
theorem L51_200006_eq (lo : List Nat) (v7 v8 : AV) (H : Heap) : L51_200006 [v7, v8] lo H = (
(lenA .slice v8 H).bind fun x1 =>
(callA cfg O 117 [v7, v8, I 1] lo H).bind fun r2 =>
(lenA .slice r2.1 r2.2).bind fun x3 =>
(bin .eql .int x3 x1).bind fun x4 =>
cond x4 (
(nilCheckA v7).bind fun x5 =>
(fldA 1 x5).bind fun x6 =>
(ld false 1 x6 r2.2).bind fun x7 =>
leave 1 lo [r2.1, x7, I 0] r2.2) (
L51_200006 [v7, r2.1] lo r2.2)) := by
  show O.lab _ _ _ _ _ _ = _
  rw [O_lab]
  kernel_rfl
theorem f51_eq (a0 a1 : AV) (lo : List Nat) (H : Heap) : O.ent 51 [a0, a1] lo H = (
(lenA .slice a0 H).bind fun x1 =>
(bin .gtr .int x1 (I 200)).bind fun x2 =>
cond x2 (
leave 1 lo [.p nilS, I 0, I 2] H) (
(bin .eql .fn a1 (.p (.v .nilFunc))).bind fun x3 =>
cond x3 (
leave 1 lo [.p nilS, I 0, I 8] H) (
(buildA [(.p (.v .nilFunc)), (I 0)] [(0, 1, a1)]).bind fun x4 =>
(boxO [] (AV.cells x4) H).bind fun r5 =>
(callA cfg O 115 [r5.1, a0] lo r5.2).bind fun r6 =>
(un .not r6.1).bind fun x7 =>
cond x7 (
leave 1 lo [.p nilS, I 0, I 8] r6.2) (
(callA cfg O 116 [a0] lo r6.2).bind fun r8 =>
(lenA .slice a0 r8.2).bind fun x9 =>
(bin .quo .int x9 (I 2)).bind fun x10 =>
L51_22 [r5.1, r8.1, x10] lo r8.2)))) := by
  rw [O_ent]
  kernel_rfl
-- backstitch/small.without
theorem f114_eq (a0 a1 a2 : AV) : O.ent 114 [a0, a1, a2] [] [] = (
(cutA 1 a0 none (some a1) none []).bind fun x1 =>
(cutA 1 a0 (some a2) none none []).bind fun x2 =>
(litA false 1 [x1, x2] []).bind fun r3 =>
(callA cfg O 144 [r3.1] [] r3.2).bind fun r4 =>
leave 5 [] [r4.1] r4.2) := by
  rw [O_ent]
  kernel_rfl
-- (*backstitch/small.asker).ask
theorem f115_eq (a0 a1 : AV) (lo : List Nat) (H : Heap) : O.ent 115 [a0, a1] lo H = (
(nilCheckA a0).bind fun x1 =>
(fldA 1 x1).bind fun x2 =>
(ld false 1 x2 H).bind fun x3 =>
(bin .add .int x3 (I 1)).bind fun x4 =>
(nilCheckA a0).bind fun x5 =>
(fldA 1 x5).bind fun x6 =>
((stA 1 x6 x4 lo H).map fun H' => (undefA, H')).bind fun r7 =>
(nilCheckA a0).bind fun x8 =>
(fldA 0 x8).bind fun x9 =>
(ld false 1 x9 r7.2).bind fun x10 =>
(callA cfg O 116 [a1] lo r7.2).bind fun r11 =>
(callV cfg O x10 [r11.1] lo r11.2).bind fun r12 =>
leave 1 lo [r12.1] r12.2) := by
  rw [O_ent]
  kernel_rfl
-- slices.Clone[[]int,int]
theorem f116_eq (a0 : AV) (lo : List Nat) (H : Heap) : O.ent 116 [a0] lo H = (
(bin .eql .slice a0 (.p nilS)).bind fun x1 =>
cond x1 (
leave 4 lo [.p nilS] H) (
(litA false 1 [] H).bind fun r2 =>
(appA 1 8 r2.1 a0 r2.2).bind fun r3 =>
leave 4 lo [r3.1] r3.2)) := by
  rw [O_ent]
  kernel_rfl
-- (*backstitch/small.asker).pass
noncomputable def T117_6 : List It := labAt Try.prog cfg 117 6 (fun _ => none)
noncomputable def L117_6 (vals : List AV) (lo : List Nat) (H : Heap) : Res := O.lab 117 [0, 1, 2, 7] (T117_6) vals lo H
noncomputable def T117_9 : List It := labAt Try.prog cfg 117 9 (fun _ => none)
noncomputable def L117_9 (vals : List AV) (lo : List Nat) (H : Heap) : Res := O.lab 117 [0, 1, 2, 7] (T117_9) vals lo H
theorem L117_6_eq (lo : List Nat) (v0 v1 v2 v7 : AV) (H : Heap) : L117_6 [v0, v1, v2, v7] lo H = (
(bin .gtr .int v7 (I 0)).bind fun x1 =>
cond x1 (
(bin .sub .int v7 v2).bind fun x2 =>
(bests true (I 0) [x2]).bind fun x3 =>
(callA cfg O 114 [v1, x3, v7] lo H).bind fun r4 =>
(callA cfg O 115 [v0, r4.1] lo r4.2).bind fun r5 =>
cond r5.1 (
L117_9 [v0, r4.1, v2, v7] lo r5.2) (
L117_9 [v0, v1, v2, v7] lo r5.2)) (
leave 1 lo [v1] H)) := by
  show O.lab _ _ _ _ _ _ = _
  rw [O_lab]
  kernel_rfl
theorem L117_9_eq (lo : List Nat) (v0 v1 v2 v7 : AV) (H : Heap) : L117_9 [v0, v1, v2, v7] lo H = (
(bin .sub .int v7 v2).bind fun x1 =>
L117_6 [v0, v1, v2, x1] lo H) := by
  show O.lab _ _ _ _ _ _ = _
  rw [O_lab]
  kernel_rfl
theorem f117_eq (a0 a1 a2 : AV) (lo : List Nat) (H : Heap) : O.ent 117 [a0, a1, a2] lo H = (
(lenA .slice a1 H).bind fun x1 =>
L117_6 [a0, a1, a2, x1] lo H) := by
  rw [O_ent]
  kernel_rfl
-- slices.Concat[[]int,int]
noncomputable def T144_8 : List It := labAt Try.prog cfg 144 8 (fun _ => none)
noncomputable def L144_8 (vals : List AV) (lo : List Nat) (H : Heap) : Res := O.lab 144 [0, 3, 9, 10, 11] (T144_8) vals lo H
noncomputable def T144_19 : List It := labAt Try.prog cfg 144 19 (fun _ => none)
noncomputable def L144_19 (vals : List AV) (lo : List Nat) (H : Heap) : Res := O.lab 144 [0, 3, 9, 10, 11] (T144_19) vals lo H
noncomputable def T144_24 : List It := labAt Try.prog cfg 144 24 (fun _ => none)
noncomputable def L144_24 (vals : List AV) (lo : List Nat) (H : Heap) : Res := O.lab 144 [6, 25, 26, 27] (T144_24) vals lo H
theorem L144_8_eq (lo : List Nat) (v0 v3 v9 v10 v11 : AV) (H : Heap) : L144_8 [v0, v3, v9, v10, v11] lo H = (
(bin .lss .int v11 v10).bind fun x1 =>
cond x1 (
(idxA 1 v9 v11).bind fun x2 =>
(ld false 1 x2 H).bind fun x3 =>
(lenA .slice x3 H).bind fun x4 =>
(bin .add .int v3 x4).bind fun x5 =>
(bin .lss .int x5 (I 0)).bind fun x6 =>
cond x6 (
none) (
L144_19 [v0, x5, v9, v10, v11] lo H)) (
(callA cfg O 154 [.p nilS, v3] lo H).bind fun r7 =>
(lenA .slice v0 r7.2).bind fun x8 =>
L144_24 [r7.1, v0, x8, I 0] lo r7.2)) := by
  show O.lab _ _ _ _ _ _ = _
  rw [O_lab]
  kernel_rfl
theorem L144_19_eq (lo : List Nat) (v0 v3 v9 v10 v11 : AV) (H : Heap) : L144_19 [v0, v3, v9, v10, v11] lo H = (
(bin .add .int v11 (I 1)).bind fun x1 =>
L144_8 [v0, v3, v9, v10, x1] lo H) := by
  show O.lab _ _ _ _ _ _ = _
  rw [O_lab]
  kernel_rfl
theorem L144_24_eq (lo : List Nat) (v6 v25 v26 v27 : AV) (H : Heap) : L144_24 [v6, v25, v26, v27] lo H = (
(bin .lss .int v27 v26).bind fun x1 =>
cond x1 (
(idxA 1 v25 v27).bind fun x2 =>
(ld false 1 x2 H).bind fun x3 =>
(appA 1 8 v6 x3 H).bind fun r4 =>
(bin .add .int v27 (I 1)).bind fun x5 =>
L144_24 [r4.1, v25, v26, x5] lo r4.2) (
leave 0 lo [v6] H)) := by
  show O.lab _ _ _ _ _ _ = _
  rw [O_lab]
  kernel_rfl
theorem f144_eq (a0 : AV) : O.ent 144 [a0] [] [] = (
(lenA .slice a0 []).bind fun x1 =>
L144_8 [a0, I 0, a0, x1, I 0] [] []) := by
  rw [O_ent]
  kernel_rfl
-- slices.Grow[[]int,int]
noncomputable def T154_9 : List It := labAt Try.prog cfg 154 9 (fun _ => none)
noncomputable def L154_9 (vals : List AV) (lo : List Nat) (H : Heap) : Res := O.lab 154 [0, 1] (T154_9) vals lo H
noncomputable def T154_15 : List It := labAt Try.prog cfg 154 15 (fun _ => none)
noncomputable def L154_15 (vals : List AV) (lo : List Nat) (H : Heap) : Res := O.lab 154 [0] (T154_15) vals lo H
theorem L154_9_eq (lo : List Nat) (v0 v1 : AV) (H : Heap) : L154_9 [v0, v1] lo H = (
(capA v0).bind fun x1 =>
(lenA .slice v0 H).bind fun x2 =>
(bin .sub .int x1 x2).bind fun x3 =>
(bin .sub .int v1 x3).bind fun x4 =>
(bin .gtr .int x4 (I 0)).bind fun x5 =>
cond x5 (
(capA v0).bind fun x6 =>
(cutA 1 v0 none (some x6) none H).bind fun x7 =>
(appZ 1 8 [(.v (.int .i64 0))] x7 x4 H).bind fun r8 =>
(lenA .slice v0 r8.2).bind fun x9 =>
(cutA 1 r8.1 none (some x9) none r8.2).bind fun x10 =>
L154_15 [x10] lo r8.2) (
L154_15 [v0] lo H)) := by
  show O.lab _ _ _ _ _ _ = _
  rw [O_lab]
  kernel_rfl
theorem L154_15_eq (lo : List Nat) (v0 : AV) (H : Heap) : L154_15 [v0] lo H = (
leave 1 lo [v0] H) := by
  show O.lab _ _ _ _ _ _ = _
  rw [O_lab]
  kernel_rfl
theorem f154_eq (a0 a1 : AV) (lo : List Nat) (H : Heap) : O.ent 154 [a0, a1] lo H = (
(bin .lss .int a1 (I 0)).bind fun x1 =>
cond x1 (
none) (
L154_9 [a0, a1] lo H)) := by
  rw [O_ent]
  kernel_rfl
end Go.Proofs.Ytangmjeafnkfaaa
