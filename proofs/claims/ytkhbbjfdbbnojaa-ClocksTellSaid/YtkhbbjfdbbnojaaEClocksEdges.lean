import Derived.Test.YtkhbbjfdbbnojaaCf
set_option linter.unusedVariables false
set_option maxRecDepth 100000
namespace Go.Proofs.Ytkhbbjfdbbnojaa
open Go Go.AM
-- backstitch/backstitchlaw4.ClocksEdges
noncomputable def T12_20 : List It := labAt Try.prog cfg 12 20 (fun _ => none)
noncomputable def L12_20 (vals : List AV) (lo : List Nat) (H : Heap) : Res := O.lab 12 [0, 7, 8, 9, 10, 11] (T12_20) vals lo H
noncomputable def T12_26 : List It := labAt Try.prog cfg 12 26 (fun _ => none)
noncomputable def L12_26 (vals : List AV) (lo : List Nat) (H : Heap) : Res := O.lab 12 [0, 7, 8, 9, 10, 11, 12] (T12_26) vals lo H
noncomputable def T12_29 : List It := labAt Try.prog cfg 12 29 (fun _ => none)
noncomputable def L12_29 (vals : List AV) (lo : List Nat) (H : Heap) : Res := O.lab 12 [0, 7, 8, 9, 10, 11, 12] (T12_29) vals lo H
theorem L12_20_eq (lo : List Nat) (v0 v7 v8 v9 v10 v11 : AV) (H : Heap) : L12_20 [v0, v7, v8, v9, v10, v11] lo H = (
(lenA .slice v0 H).bind fun x1 =>
(bin .lss .int v11 x1).bind fun x2 =>
(gd x2 true (some v9)).bind fun x3 =>
(gd x2 true (bin .eql .int x3 (I 0))).bind fun x4 =>
(pickA x2 x4 (B false)).bind fun x5 =>
cond x5 (
L12_26 [v0, v7, v8, v9, v10, v11, I 0] lo H) (
(lenA .slice v7 H).bind fun x6 =>
(bin .eql .int v10 x6).bind fun x7 =>
(gd x7 true (some v8)).bind fun x8 =>
(gd x7 true (some v9)).bind fun x9 =>
(gd x7 true (bin .eql .int x8 x9)).bind fun x10 =>
(pickA x7 x10 (B false)).bind fun x11 =>
leave 0 lo [x11] H)) := by
  show O.lab _ _ _ _ _ _ = _
  rw [O_lab]
  kernel_rfl
theorem L12_26_eq (lo : List Nat) (v0 v7 v8 v9 v10 v11 v12 : AV) (H : Heap) : L12_26 [v0, v7, v8, v9, v10, v11, v12] lo H = (
(bin .lss .int v12 v11).bind fun x1 =>
cond x1 (
(callA cfg O 74 [v0, v12, v11] lo H).bind fun r2 =>
cond r2.1 (
(lenA .slice v7 r2.2).bind fun x3 =>
(bin .geq .int v10 x3).bind fun x4 =>
(gd x4 false (some v7)).bind fun x5 =>
(gd x4 false (some v10)).bind fun x6 =>
(gd x4 false (idxA 2 x5 x6)).bind fun x7 =>
(gd x4 false (ld true 2 x7 r2.2)).bind fun x8 =>
(gd x4 false (some v12)).bind fun x9 =>
(gd x4 false (some v11)).bind fun x10 =>
(gd x4 false (buildA [(I 0), (I 0)] [(0, 1, x9), (1, 1, x10)])).bind fun x11 =>
(gd x4 false (bin .neq (.agg 2 [(0, .int), (1, .int)]) x8 x11)).bind fun x12 =>
(pickA x4 (B true) x12).bind fun x13 =>
cond x13 (
leave 0 lo [B false] r2.2) (
(bin .add .int v10 (I 1)).bind fun x14 =>
L12_29 [v0, v7, v8, v9, x14, v11, v12] lo r2.2)) (
L12_29 [v0, v7, v8, v9, v10, v11, v12] lo r2.2)) (
(bin .add .int v11 (I 1)).bind fun x15 =>
L12_20 [v0, v7, v8, v9, v10, x15] lo H)) := by
  show O.lab _ _ _ _ _ _ = _
  rw [O_lab]
  kernel_rfl
theorem L12_29_eq (lo : List Nat) (v0 v7 v8 v9 v10 v11 v12 : AV) (H : Heap) : L12_29 [v0, v7, v8, v9, v10, v11, v12] lo H = (
(bin .add .int v12 (I 1)).bind fun x1 =>
L12_26 [v0, v7, v8, v9, v10, v11, x1] lo H) := by
  show O.lab _ _ _ _ _ _ = _
  rw [O_lab]
  kernel_rfl
theorem f12_eq (a0 a1 : AV) : O.ent 12 [a0, a1] [] [] = (
(lenA .slice a0 []).bind fun x1 =>
(bin .gtr .int x1 (I 200)).bind fun x2 =>
cond x2 (
(callA cfg O 72 [a0, a1] [] []).bind fun r3 =>
(extractA r3.1 0).bind fun x4 =>
(extractA r3.1 1).bind fun x5 =>
(bin .eql .int x5 (I 2)).bind fun x6 =>
leave 0 [] [x6] r3.2) (
(callA cfg O 64 [a0, I 40] [] []).bind fun r7 =>
(callA cfg O 72 [r7.1, a1] [] r7.2).bind fun r8 =>
(extractA r8.1 0).bind fun x9 =>
(extractA r8.1 1).bind fun x10 =>
(callA cfg O 73 [r7.1, a1] [] r8.2).bind fun r11 =>
L12_20 [r7.1, x9, x10, r11.1, I 0, I 0] [] r11.2)) := by
  rw [O_ent]
  kernel_rfl
-- backstitch/backstitchlaw4.soon
theorem f64_eq (a0 a1 : AV) : O.ent 64 [a0, a1] [] [] = (
(lenA .slice a0 []).bind fun x1 =>
(bests false x1 [a1]).bind fun x2 =>
(cutA 12 a0 none (some x2) none []).bind fun x3 =>
leave 0 [] [x3] []) := by
  rw [O_ent]
  kernel_rfl
-- backstitch/clocks.Edges
theorem f72_eq (a0 a1 : AV) : O.ent 72 [a0, a1] [] [] = (
(callA cfg O 127 [a0, a1] [] []).bind fun r1 =>
(bin .neq .int r1.1 (I 0)).bind fun x2 =>
cond x2 (
leave 0 [] [.p nilS, r1.1] r1.2) (
(callA cfg O 128 [a0] [] r1.2).bind fun r3 =>
leave 0 [] [r3.1, I 0] r3.2)) := by
  rw [O_ent]
  kernel_rfl
-- backstitch/backstitchref4.ClockErr
noncomputable def T73_14 : List It := labAt Try.prog cfg 73 14 (fun _ => none)
noncomputable def L73_14 (vals : List AV) (lo : List Nat) (H : Heap) : Res := O.lab 73 [0, 1, 5] (T73_14) vals lo H
theorem L73_14_eq (lo : List Nat) (v0 v1 v5 : AV) (H : Heap) : L73_14 [v0, v1, v5] lo H = (
(lenA .slice v0 H).bind fun x1 =>
(bin .lss .int v5 x1).bind fun x2 =>
cond x2 (
(idxA 12 v0 v5).bind fun x3 =>
(fldA 2 x3).bind fun x4 =>
(ld false 1 x4 H).bind fun x5 =>
(bin .sub .int v1 (I 1)).bind fun x6 =>
(callA cfg O 83 [x5, I 0, x6] lo H).bind fun r7 =>
(un .not r7.1).bind fun x8 =>
cond x8 (
leave 0 lo [I 1] r7.2) (
(bin .add .int v5 (I 1)).bind fun x9 =>
L73_14 [v0, v1, x9] lo r7.2)) (
leave 0 lo [I 0] H)) := by
  show O.lab _ _ _ _ _ _ = _
  rw [O_lab]
  kernel_rfl
theorem f73_eq (a0 a1 : AV) : O.ent 73 [a0, a1] [] [] = (
(lenA .slice a0 []).bind fun x1 =>
(bin .gtr .int x1 (I 200)).bind fun x2 =>
cond x2 (
leave 0 [] [I 2] []) (
(callA cfg O 83 [a1, I 0, I 8] [] []).bind fun r3 =>
(un .not r3.1).bind fun x4 =>
cond x4 (
leave 0 [] [I 1] r3.2) (
L73_14 [a0, a1, I 0] [] r3.2))) := by
  rw [O_ent]
  kernel_rfl
-- backstitch/backstitchref4.IsEdge
noncomputable def T74_20 : List It := labAt Try.prog cfg 74 20 (fun _ => none)
noncomputable def L74_20 (vals : List AV) (lo : List Nat) (H : Heap) : Res := O.lab 74 [0, 2, 7, 8, 9, 10, 11, 12, 13] (T74_20) vals lo H
noncomputable def T74_23 : List It := labAt Try.prog cfg 74 23 (fun _ => none)
noncomputable def L74_23 (vals : List AV) (lo : List Nat) (H : Heap) : Res := O.lab 74 [0, 2, 7, 8, 9, 10, 11, 12, 13] (T74_23) vals lo H
noncomputable def T74_29 : List It := labAt Try.prog cfg 74 29 (fun _ => none)
noncomputable def L74_29 (vals : List AV) (lo : List Nat) (H : Heap) : Res := O.lab 74 [0, 2, 7, 8, 9, 10, 11, 12, 13] (T74_29) vals lo H
noncomputable def T74_33 : List It := labAt Try.prog cfg 74 33 (fun _ => none)
noncomputable def L74_33 (vals : List AV) (lo : List Nat) (H : Heap) : Res := O.lab 74 [0, 2, 7, 8, 9, 10, 11, 12, 13] (T74_33) vals lo H
theorem L74_20_eq (lo : List Nat) (v0 v2 v7 v8 v9 v10 v11 v12 v13 : AV) (H : Heap) : L74_20 [v0, v2, v7, v8, v9, v10, v11, v12, v13] lo H = (
(bin .lss .int v13 v2).bind fun x1 =>
cond x1 (
(idxA 12 v0 v13).bind fun x2 =>
(fldA 2 x2).bind fun x3 =>
(ld false 1 x3 H).bind fun x4 =>
(fldA 2 v8).bind fun x5 =>
(ld false 1 x5 H).bind fun x6 =>
(bin .eql .int x4 x6).bind fun x7 =>
cond x7 (
L74_29 [v0, v2, v7, v8, B false, B false, v11, v12, v13] lo H) (
L74_29 [v0, v2, v7, v8, v9, v10, v11, v12, v13] lo H)) (
(gd v9 false (some v10)).bind fun x8 =>
(pickA v9 (B true) x8).bind fun x9 =>
(gd x9 false (some v11)).bind fun x10 =>
(pickA x9 (B true) x10).bind fun x11 =>
(gd x11 false (some v12)).bind fun x12 =>
(pickA x11 (B true) x12).bind fun x13 =>
leave 0 lo [x13] H)) := by
  show O.lab _ _ _ _ _ _ = _
  rw [O_lab]
  kernel_rfl
theorem L74_23_eq (lo : List Nat) (v0 v2 v7 v8 v9 v10 v11 v12 v13 : AV) (H : Heap) : L74_23 [v0, v2, v7, v8, v9, v10, v11, v12, v13] lo H = (
(bin .add .int v13 (I 1)).bind fun x1 =>
L74_20 [v0, v2, v7, v8, v9, v10, v11, v12, x1] lo H) := by
  show O.lab _ _ _ _ _ _ = _
  rw [O_lab]
  kernel_rfl
theorem L74_29_eq (lo : List Nat) (v0 v2 v7 v8 v9 v10 v11 v12 v13 : AV) (H : Heap) : L74_29 [v0, v2, v7, v8, v9, v10, v11, v12, v13] lo H = (
(idxA 12 v0 v13).bind fun x1 =>
(fldA 0 x1).bind fun x2 =>
(ld false 1 x2 H).bind fun x3 =>
(bin .eql .int x3 (I 17)).bind fun x4 =>
(gd x4 true (some v0)).bind fun x5 =>
(gd x4 true (some v13)).bind fun x6 =>
(gd x4 true (idxA 12 x5 x6)).bind fun x7 =>
(gd x4 true (fldA 2 x7)).bind fun x8 =>
(gd x4 true (ld false 1 x8 H)).bind fun x9 =>
(gd x4 true (fldA 2 v7)).bind fun x10 =>
(gd x4 true (ld false 1 x10 H)).bind fun x11 =>
(gd x4 true (bin .eql .int x9 x11)).bind fun x12 =>
(pickA x4 x12 (B false)).bind fun x13 =>
cond x13 (
L74_33 [v0, v2, v7, v8, v9, v10, B false, v12, v13] lo H) (
L74_33 [v0, v2, v7, v8, v9, v10, v11, v12, v13] lo H)) := by
  show O.lab _ _ _ _ _ _ = _
  rw [O_lab]
  kernel_rfl
theorem L74_33_eq (lo : List Nat) (v0 v2 v7 v8 v9 v10 v11 v12 v13 : AV) (H : Heap) : L74_33 [v0, v2, v7, v8, v9, v10, v11, v12, v13] lo H = (
(idxA 12 v0 v13).bind fun x1 =>
(fldA 0 x1).bind fun x2 =>
(ld false 1 x2 H).bind fun x3 =>
(bin .eql .int x3 (I 13)).bind fun x4 =>
(gd x4 true (some v0)).bind fun x5 =>
(gd x4 true (some v13)).bind fun x6 =>
(gd x4 true (idxA 12 x5 x6)).bind fun x7 =>
(gd x4 true (fldA 6 x7)).bind fun x8 =>
(gd x4 true (ld false 1 x8 H)).bind fun x9 =>
(gd x4 true (fldA 6 v7)).bind fun x10 =>
(gd x4 true (ld false 1 x10 H)).bind fun x11 =>
(gd x4 true (bin .eql .int x9 x11)).bind fun x12 =>
(pickA x4 x12 (B false)).bind fun x13 =>
cond x13 (
L74_23 [v0, v2, v7, v8, v9, v10, v11, B false, v13] lo H) (
L74_23 [v0, v2, v7, v8, v9, v10, v11, v12, v13] lo H)) := by
  show O.lab _ _ _ _ _ _ = _
  rw [O_lab]
  kernel_rfl
theorem f74_eq (a0 a1 a2 : AV) : O.ent 74 [a0, a1, a2] [] [] = (
(bin .geq .int a1 a2).bind fun x1 =>
cond x1 (
leave 0 [] [B false] []) (
(idxA 12 a0 a1).bind fun x2 =>
(ldF true 12 x2).bind fun x3 =>
(idxA 12 a0 a2).bind fun x4 =>
(ldF true 12 x4).bind fun x5 =>
(fillA 2 0 [(I 0), (I 0), (I 0), (I 0), (I 0), (I 0), (I 0), (I 0), (I 0), (I 0), (I 0), (I 0)] ([] ++ List.replicate 2 AObj.hole)).bind fun r6 =>
(fillA 2 1 [(I 0), (I 0), (I 0), (I 0), (I 0), (I 0), (I 0), (I 0), (I 0), (I 0), (I 0), (I 0)] r6.2).bind fun r7 =>
((stA 12 r6.1 x3 [] r7.2).map fun H' => (undefA, H')).bind fun r8 =>
((stA 12 r7.1 x5 [] r8.2).map fun H' => (undefA, H')).bind fun r9 =>
(fldA 2 r6.1).bind fun x10 =>
(ld false 1 x10 r9.2).bind fun x11 =>
(fldA 2 r7.1).bind fun x12 =>
(ld false 1 x12 r9.2).bind fun x13 =>
(bin .eql .int x11 x13).bind fun x14 =>
(fldA 0 r6.1).bind fun x15 =>
(ld false 1 x15 r9.2).bind fun x16 =>
(bin .eql .int x16 (I 11)).bind fun x17 =>
(gd x17 true (fldA 6 r6.1)).bind fun x18 =>
(gd x17 true (ld false 1 x18 r9.2)).bind fun x19 =>
(gd x17 true (fldA 2 r7.1)).bind fun x20 =>
(gd x17 true (ld false 1 x20 r9.2)).bind fun x21 =>
(gd x17 true (bin .eql .int x19 x21)).bind fun x22 =>
(pickA x17 x22 (B false)).bind fun x23 =>
(fldA 0 r6.1).bind fun x24 =>
(ld false 1 x24 r9.2).bind fun x25 =>
(bin .eql .int x25 (I 17)).bind fun x26 =>
(gd x26 true (fldA 0 r7.1)).bind fun x27 =>
(gd x26 true (ld false 1 x27 r9.2)).bind fun x28 =>
(gd x26 true (bin .eql .int x28 (I 12))).bind fun x29 =>
(pickA x26 x29 (B false)).bind fun x30 =>
(gd x30 true (fldA 6 r7.1)).bind fun x31 =>
(gd x30 true (ld false 1 x31 r9.2)).bind fun x32 =>
(gd x30 true (fldA 2 r6.1)).bind fun x33 =>
(gd x30 true (ld false 1 x33 r9.2)).bind fun x34 =>
(gd x30 true (bin .eql .int x32 x34)).bind fun x35 =>
(pickA x30 x35 (B false)).bind fun x36 =>
(fldA 0 r6.1).bind fun x37 =>
(ld false 1 x37 r9.2).bind fun x38 =>
(bin .eql .int x38 (I 14)).bind fun x39 =>
(gd x39 true (fldA 0 r7.1)).bind fun x40 =>
(gd x39 true (ld false 1 x40 r9.2)).bind fun x41 =>
(gd x39 true (bin .eql .int x41 (I 13))).bind fun x42 =>
(pickA x39 x42 (B false)).bind fun x43 =>
(gd x43 true (fldA 6 r6.1)).bind fun x44 =>
(gd x43 true (ld false 1 x44 r9.2)).bind fun x45 =>
(gd x43 true (fldA 6 r7.1)).bind fun x46 =>
(gd x43 true (ld false 1 x46 r9.2)).bind fun x47 =>
(gd x43 true (bin .eql .int x45 x47)).bind fun x48 =>
(pickA x43 x48 (B false)).bind fun x49 =>
(bin .add .int a1 (I 1)).bind fun x50 =>
L74_20 [a0, a2, r6.1, r7.1, x14, x23, x36, x49, x50] [] r9.2)) := by
  rw [O_ent]
  kernel_rfl
-- backstitch/clocks.check
theorem f127_eq (a0 a1 : AV) : O.ent 127 [a0, a1] [] [] = (
(boxO [] (AV.cells a1) []).bind fun r1 =>
(lenA .slice a0 r1.2).bind fun x2 =>
(bin .gtr .int x2 (I 200)).bind fun x3 =>
cond x3 (
leave 0 [] [I 2] r1.2) (
(ld false 1 r1.1 r1.2).bind fun x4 =>
(bin .lss .int x4 (I 0)).bind fun x5 =>
(gd x5 false (ld false 1 r1.1 r1.2)).bind fun x6 =>
(gd x5 false (bin .gtr .int x6 (I 8))).bind fun x7 =>
(pickA x5 (B true) x7).bind fun x8 =>
cond x8 (
leave 0 [] [I 1] r1.2) (
(callA cfg O 154 [a0, .fn 155 [] [r1.1]] [] r1.2).bind fun r9 =>
cond r9.1 (
leave 0 [] [I 1] r9.2) (
leave 0 [] [I 0] r9.2)))) := by
  rw [O_ent]
  kernel_rfl
-- backstitch/clocks.edges
noncomputable def T128_8 : List It := labAt Try.prog cfg 128 8 (fun _ => none)
noncomputable def L128_8 (vals : List AV) (lo : List Nat) (H : Heap) : Res := O.lab 128 [3, 12, 13, 14] (T128_8) vals lo H
theorem L128_8_eq (lo : List Nat) (v3 v12 v13 v14 : AV) (H : Heap) : L128_8 [v3, v12, v13, v14] lo H = (
(bin .lss .int v14 v13).bind fun x1 =>
cond x1 (
(idxA 12 v12 v14).bind fun x2 =>
(ld true 12 x2 H).bind fun x3 =>
(boxO [] [(I 0), (I 0), (I 0), (I 0), (I 0), (I 0), (I 0), (I 0), (I 0), (I 0), (I 0), (I 0)] H).bind fun r4 =>
((stA 12 r4.1 x3 lo r4.2).map fun H' => (undefA, H')).bind fun r5 =>
(ld true 12 r4.1 r5.2).bind fun x6 =>
(callA cfg O 156 [v3, v14, x6] lo r5.2).bind fun r7 =>
(bin .add .int v14 (I 1)).bind fun x8 =>
L128_8 [v3, v12, v13, x8] lo r7.2) (
(nilCheckA v3).bind fun x9 =>
(fldA 4 x9).bind fun x10 =>
(ld false 1 x10 H).bind fun x11 =>
(callA cfg O 122 [x11, .fn 157 [] []] lo H).bind fun r12 =>
(nilCheckA v3).bind fun x13 =>
(fldA 4 x13).bind fun x14 =>
(ld false 1 x14 r12.2).bind fun x15 =>
(callA cfg O 124 [x15] lo r12.2).bind fun r16 =>
leave 0 lo [r16.1] r16.2)) := by
  show O.lab _ _ _ _ _ _ = _
  rw [O_lab]
  kernel_rfl
theorem f128_eq (a0 : AV) : O.ent 128 [a0] [] [] = (
(some (mkMap [])).bind fun r1 =>
(some (mkMap r1.2)).bind fun r2 =>
(some (mkMap r2.2)).bind fun r3 =>
(some (mkMap r3.2)).bind fun r4 =>
(buildA [(.p (.v (.map none))), (.p (.v (.map none))), (.p (.v (.map none))), (.p (.v (.map none))), (.p nilS)] [(0, 1, r1.1), (1, 1, r2.1), (2, 1, r3.1), (3, 1, r4.1)]).bind fun x5 =>
(boxO [] (AV.cells x5) r4.2).bind fun r6 =>
(lenA .slice a0 r6.2).bind fun x7 =>
L128_8 [r6.1, a0, x7, I 0] [] r6.2) := by
  rw [O_ent]
  kernel_rfl
-- backstitch/backstitchref4.between
theorem f83_eq (a0 a1 a2 : AV) : O.ent 83 [a0, a1, a2] [] [] = (
(bin .geq .int a0 a1).bind fun x1 =>
(gd x1 true (some a0)).bind fun x2 =>
(gd x1 true (some a2)).bind fun x3 =>
(gd x1 true (bin .leq .int x2 x3)).bind fun x4 =>
(pickA x1 x4 (B false)).bind fun x5 =>
leave 0 [] [x5] []) := by
  rw [O_ent]
  kernel_rfl
-- slices.ContainsFunc[[]backstitch/api.Event,backstitch/api.Event]
theorem f154_eq (a0 a1 : AV) (lo : List Nat) (H : Heap) : O.ent 154 [a0, a1] lo H = (
(callA cfg O 182 [a0, a1] lo H).bind fun r1 =>
(bin .geq .int r1.1 (I 0)).bind fun x2 =>
leave 1 lo [x2] r1.2) := by
  rw [O_ent]
  kernel_rfl
-- backstitch/clocks.check$1
theorem f155_eq (a0 a1 : AV) (lo : List Nat) (H : Heap) : O.ent 155 [a0, a1] lo H = (
(boxO [] (AV.cells a0) H).bind fun r1 =>
(fldA 2 r1.1).bind fun x2 =>
(ld false 1 x2 r1.2).bind fun x3 =>
(bin .lss .int x3 (I 0)).bind fun x4 =>
(gd x4 false (fldA 2 r1.1)).bind fun x5 =>
(gd x4 false (ld false 1 x5 r1.2)).bind fun x6 =>
(gd x4 false (ld false 1 a1 r1.2)).bind fun x7 =>
(gd x4 false (bin .geq .int x6 x7)).bind fun x8 =>
(pickA x4 (B true) x8).bind fun x9 =>
leave 3 (List.length H :: lo) [x9] r1.2) := by
  rw [O_ent]
  kernel_rfl
-- slices.Compact[[]backstitch/api.DPair,backstitch/api.DPair]
noncomputable def T124_10 : List It := labAt Try.prog cfg 124 10 (fun _ => none)
noncomputable def L124_10 (vals : List AV) (lo : List Nat) (H : Heap) : Res := O.lab 124 [0, 3] (T124_10) vals lo H
noncomputable def T124_20 : List It := labAt Try.prog cfg 124 20 (fun _ => none)
noncomputable def L124_20 (vals : List AV) (lo : List Nat) (H : Heap) : Res := O.lab 124 [0, 3, 4, 5] (T124_20) vals lo H
noncomputable def T124_23 : List It := labAt Try.prog cfg 124 23 (fun _ => none)
noncomputable def L124_23 (vals : List AV) (lo : List Nat) (H : Heap) : Res := O.lab 124 [0, 3, 4, 5] (T124_23) vals lo H
theorem L124_10_eq (lo : List Nat) (v0 v3 : AV) (H : Heap) : L124_10 [v0, v3] lo H = (
(lenA .slice v0 H).bind fun x1 =>
(bin .lss .int v3 x1).bind fun x2 =>
cond x2 (
(idxA 2 v0 v3).bind fun x3 =>
(ld true 2 x3 H).bind fun x4 =>
(bin .sub .int v3 (I 1)).bind fun x5 =>
(idxA 2 v0 x5).bind fun x6 =>
(ld true 2 x6 H).bind fun x7 =>
(bin .eql (.agg 2 [(0, .int), (1, .int)]) x4 x7).bind fun x8 =>
cond x8 (
(cutA 2 v0 (some v3) none none H).bind fun x9 =>
L124_20 [v0, v3, x9, I 1] lo H) (
(bin .add .int v3 (I 1)).bind fun x10 =>
L124_10 [v0, x10] lo H)) (
leave 1 lo [v0] H)) := by
  show O.lab _ _ _ _ _ _ = _
  rw [O_lab]
  kernel_rfl
theorem L124_20_eq (lo : List Nat) (v0 v3 v4 v5 : AV) (H : Heap) : L124_20 [v0, v3, v4, v5] lo H = (
(lenA .slice v4 H).bind fun x1 =>
(bin .lss .int v5 x1).bind fun x2 =>
cond x2 (
(idxA 2 v4 v5).bind fun x3 =>
(ld true 2 x3 H).bind fun x4 =>
(bin .sub .int v5 (I 1)).bind fun x5 =>
(idxA 2 v4 x5).bind fun x6 =>
(ld true 2 x6 H).bind fun x7 =>
(bin .neq (.agg 2 [(0, .int), (1, .int)]) x4 x7).bind fun x8 =>
cond x8 (
(idxA 2 v4 v5).bind fun x9 =>
(ld true 2 x9 H).bind fun x10 =>
(idxA 2 v0 v3).bind fun x11 =>
((stA 2 x11 x10 lo H).map fun H' => (undefA, H')).bind fun r12 =>
(bin .add .int v3 (I 1)).bind fun x13 =>
L124_23 [v0, x13, v4, v5] lo r12.2) (
L124_23 [v0, v3, v4, v5] lo H)) (
(cutA 2 v0 (some v3) none none H).bind fun x14 =>
((clearA 2 [(.v (.int .i64 0)), (.v (.int .i64 0))] x14 H).map fun H' => (undefA, H')).bind fun r15 =>
(cutA 2 v0 none (some v3) none r15.2).bind fun x16 =>
leave 1 lo [x16] r15.2)) := by
  show O.lab _ _ _ _ _ _ = _
  rw [O_lab]
  kernel_rfl
theorem L124_23_eq (lo : List Nat) (v0 v3 v4 v5 : AV) (H : Heap) : L124_23 [v0, v3, v4, v5] lo H = (
(bin .add .int v5 (I 1)).bind fun x1 =>
L124_20 [v0, v3, v4, x1] lo H) := by
  show O.lab _ _ _ _ _ _ = _
  rw [O_lab]
  kernel_rfl
theorem f124_eq (a0 : AV) (lo : List Nat) (H : Heap) : O.ent 124 [a0] lo H = (
(lenA .slice a0 H).bind fun x1 =>
(bin .lss .int x1 (I 2)).bind fun x2 =>
cond x2 (
leave 1 lo [a0] H) (
L124_10 [a0, I 1] lo H)) := by
  rw [O_ent]
  kernel_rfl
-- (*backstitch/clocks.weaver).event
noncomputable def T156_11 : List It := labAt Try.prog cfg 156 11 (fun _ => none)
noncomputable def L156_11 (vals : List AV) (lo : List Nat) (H : Heap) : Res := O.lab 156 [0, 1, 5] (T156_11) vals lo H
theorem L156_11_eq (lo : List Nat) (v0 v1 v5 : AV) (H : Heap) : L156_11 [v0, v1, v5] lo H = (
(nilCheckA v0).bind fun x1 =>
(fldA 1 x1).bind fun x2 =>
(ld false 1 x2 H).bind fun x3 =>
(fldA 2 v5).bind fun x4 =>
(ld false 1 x4 H).bind fun x5 =>
(lookA .int (.p nilS) false x3 x5 H).bind fun x6 =>
(callA cfg O 184 [v0, x6, v1] lo H).bind fun r7 =>
(nilCheckA v0).bind fun x8 =>
(fldA 1 x8).bind fun x9 =>
(ld false 1 x9 r7.2).bind fun x10 =>
(fldA 2 v5).bind fun x11 =>
(ld false 1 x11 r7.2).bind fun x12 =>
((delA .int x10 x12 r7.2).map fun H' => (undefA, H')).bind fun r13 =>
(nilCheckA v0).bind fun x14 =>
(fldA 0 x14).bind fun x15 =>
(ld false 1 x15 r13.2).bind fun x16 =>
(fldA 2 v5).bind fun x17 =>
(ld false 1 x17 r13.2).bind fun x18 =>
((mapUpdA .int x16 x18 v1 lo r13.2).map fun H' => (undefA, H')).bind fun r19 =>
(fldA 0 v5).bind fun x20 =>
(ld false 1 x20 r19.2).bind fun x21 =>
(bin .eql .int x21 (I 11)).bind fun x22 =>
cond x22 (
(nilCheckA v0).bind fun x23 =>
(fldA 1 x23).bind fun x24 =>
(ldS false 1 x24 r19.2).bind fun x25 =>
(fldA 6 v5).bind fun x26 =>
(ldS false 1 x26 r19.2).bind fun x27 =>
(nilCheckA v0).bind fun x28 =>
(fldA 1 x28).bind fun x29 =>
(ld false 1 x29 r19.2).bind fun x30 =>
(fldA 6 v5).bind fun x31 =>
(ld false 1 x31 r19.2).bind fun x32 =>
(lookA .int (.p nilS) false x30 x32 r19.2).bind fun x33 =>
(litP 1 [v1]).bind fun x34 =>
(appA 1 8 x33 x34 r19.2).bind fun r35 =>
((mapUpdA .int x25 x27 r35.1 lo r35.2).map fun H' => (undefA, H')).bind fun r36 =>
leave 1 lo [] r36.2) (
(bin .eql .int x21 (I 17)).bind fun x37 =>
cond x37 (
(nilCheckA v0).bind fun x38 =>
(fldA 2 x38).bind fun x39 =>
(ld false 1 x39 r19.2).bind fun x40 =>
(fldA 2 v5).bind fun x41 =>
(ld false 1 x41 r19.2).bind fun x42 =>
((mapUpdA .int x40 x42 v1 lo r19.2).map fun H' => (undefA, H')).bind fun r43 =>
leave 1 lo [] r43.2) (
(bin .eql .int x21 (I 12)).bind fun x44 =>
cond x44 (
(nilCheckA v0).bind fun x45 =>
(fldA 2 x45).bind fun x46 =>
(ld false 1 x46 r19.2).bind fun x47 =>
(fldA 6 v5).bind fun x48 =>
(ld false 1 x48 r19.2).bind fun x49 =>
(lookA .int (I 0) true x47 x49 r19.2).bind fun x50 =>
(extractA x50 0).bind fun x51 =>
(extractA x50 1).bind fun x52 =>
cond x52 (
(callA cfg O 183 [v0, x51, v1] lo r19.2).bind fun r53 =>
leave 1 lo [] r53.2) (
leave 1 lo [] r19.2)) (
(bin .eql .int x21 (I 14)).bind fun x54 =>
cond x54 (
(nilCheckA v0).bind fun x55 =>
(fldA 3 x55).bind fun x56 =>
(ldS false 1 x56 r19.2).bind fun x57 =>
(fldA 6 v5).bind fun x58 =>
(ldS false 1 x58 r19.2).bind fun x59 =>
(nilCheckA v0).bind fun x60 =>
(fldA 3 x60).bind fun x61 =>
(ld false 1 x61 r19.2).bind fun x62 =>
(fldA 6 v5).bind fun x63 =>
(ld false 1 x63 r19.2).bind fun x64 =>
(lookA .int (.p nilS) false x62 x64 r19.2).bind fun x65 =>
(litP 1 [v1]).bind fun x66 =>
(appA 1 8 x65 x66 r19.2).bind fun r67 =>
((mapUpdA .int x57 x59 r67.1 lo r67.2).map fun H' => (undefA, H')).bind fun r68 =>
leave 1 lo [] r68.2) (
(bin .eql .int x21 (I 13)).bind fun x69 =>
cond x69 (
(nilCheckA v0).bind fun x70 =>
(fldA 3 x70).bind fun x71 =>
(ld false 1 x71 r19.2).bind fun x72 =>
(fldA 6 v5).bind fun x73 =>
(ld false 1 x73 r19.2).bind fun x74 =>
(lookA .int (.p nilS) false x72 x74 r19.2).bind fun x75 =>
(callA cfg O 184 [v0, x75, v1] lo r19.2).bind fun r76 =>
(nilCheckA v0).bind fun x77 =>
(fldA 3 x77).bind fun x78 =>
(ld false 1 x78 r76.2).bind fun x79 =>
(fldA 6 v5).bind fun x80 =>
(ld false 1 x80 r76.2).bind fun x81 =>
((delA .int x79 x81 r76.2).map fun H' => (undefA, H')).bind fun r82 =>
leave 1 lo [] r82.2) (
leave 1 lo [] r19.2)))))) := by
  show O.lab _ _ _ _ _ _ = _
  rw [O_lab]
  kernel_rfl
theorem f156_eq (a0 a1 a2 : AV) (lo : List Nat) (H : Heap) : O.ent 156 [a0, a1, a2] lo H = (
(boxO [] (AV.cells a2) H).bind fun r1 =>
(nilCheckA a0).bind fun x2 =>
(fldA 0 x2).bind fun x3 =>
(ld false 1 x3 r1.2).bind fun x4 =>
(fldA 2 r1.1).bind fun x5 =>
(ld false 1 x5 r1.2).bind fun x6 =>
(lookA .int (I 0) true x4 x6 r1.2).bind fun x7 =>
(extractA x7 0).bind fun x8 =>
(extractA x7 1).bind fun x9 =>
cond x9 (
(callA cfg O 183 [a0, x8, a1] lo r1.2).bind fun r10 =>
L156_11 [a0, a1, r1.1] lo r10.2) (
L156_11 [a0, a1, r1.1] lo r1.2)) := by
  rw [O_ent]
  kernel_rfl
-- backstitch/clocks.edges$1
theorem f157_eq (a0 a1 : AV) : O.ent 157 [a0, a1] [] [] = (
(boxO [] (AV.cells a0) []).bind fun r1 =>
(boxO [] (AV.cells a1) r1.2).bind fun r2 =>
(fldA 1 r1.1).bind fun x3 =>
(ld false 1 x3 r2.2).bind fun x4 =>
(fldA 1 r2.1).bind fun x5 =>
(ld false 1 x5 r2.2).bind fun x6 =>
(callA cfg O 119 [x4, x6] [] r2.2).bind fun r7 =>
(fldA 0 r1.1).bind fun x8 =>
(ld false 1 x8 r7.2).bind fun x9 =>
(fldA 0 r2.1).bind fun x10 =>
(ld false 1 x10 r7.2).bind fun x11 =>
(callA cfg O 119 [x9, x11] [] r7.2).bind fun r12 =>
(litA false 1 [r7.1, r12.1] r12.2).bind fun r13 =>
(callA cfg O 118 [r13.1] [] r13.2).bind fun r14 =>
leave 0 [] [r14.1] r14.2) := by
  rw [O_ent]
  kernel_rfl
-- slices.IndexFunc[[]backstitch/api.Event,backstitch/api.Event]
noncomputable def T182_6 : List It := labAt Try.prog cfg 182 6 (fun _ => none)
noncomputable def L182_6 (vals : List AV) (lo : List Nat) (H : Heap) : Res := O.lab 182 [0, 1, 7, 8] (T182_6) vals lo H
theorem L182_6_eq (lo : List Nat) (v0 v1 v7 v8 : AV) (H : Heap) : L182_6 [v0, v1, v7, v8] lo H = (
(bin .lss .int v8 v7).bind fun x1 =>
cond x1 (
(idxA 12 v0 v8).bind fun x2 =>
(ld true 12 x2 H).bind fun x3 =>
(callV cfg O v1 [x3] lo H).bind fun r4 =>
cond r4.1 (
leave 1 lo [v8] r4.2) (
(bin .add .int v8 (I 1)).bind fun x5 =>
L182_6 [v0, v1, v7, x5] lo r4.2)) (
leave 1 lo [I (-1)] H)) := by
  show O.lab _ _ _ _ _ _ = _
  rw [O_lab]
  kernel_rfl
theorem f182_eq (a0 a1 : AV) (lo : List Nat) (H : Heap) : O.ent 182 [a0, a1] lo H = (
(lenA .slice a0 H).bind fun x1 =>
L182_6 [a0, a1, x1, I 0] lo H) := by
  rw [O_ent]
  kernel_rfl
-- (*backstitch/clocks.weaver).edge
theorem f183_eq (a0 a1 a2 : AV) (lo : List Nat) (H : Heap) : O.ent 183 [a0, a1, a2] lo H = (
(nilCheckA a0).bind fun x1 =>
(fldA 4 x1).bind fun x2 =>
(ld false 1 x2 H).bind fun x3 =>
(buildA [(I 0), (I 0)] [(0, 1, a1), (1, 1, a2)]).bind fun x4 =>
(litA false 2 [x4] H).bind fun r5 =>
(appA 2 16 x3 r5.1 r5.2).bind fun r6 =>
(nilCheckA a0).bind fun x7 =>
(fldA 4 x7).bind fun x8 =>
((stA 1 x8 r6.1 lo r6.2).map fun H' => (undefA, H')).bind fun r9 =>
leave 1 lo [] r9.2) := by
  rw [O_ent]
  kernel_rfl
-- (*backstitch/clocks.weaver).all
noncomputable def T184_4 : List It := labAt Try.prog cfg 184 4 (fun _ => none)
noncomputable def L184_4 (vals : List AV) (lo : List Nat) (H : Heap) : Res := O.lab 184 [0, 2, 8, 9, 10] (T184_4) vals lo H
theorem L184_4_eq (lo : List Nat) (v0 v2 v8 v9 v10 : AV) (H : Heap) : L184_4 [v0, v2, v8, v9, v10] lo H = (
(bin .lss .int v10 v9).bind fun x1 =>
cond x1 (
(idxA 1 v8 v10).bind fun x2 =>
(ld false 1 x2 H).bind fun x3 =>
(callA cfg O 183 [v0, x3, v2] lo H).bind fun r4 =>
(bin .add .int v10 (I 1)).bind fun x5 =>
L184_4 [v0, v2, v8, v9, x5] lo r4.2) (
leave 1 lo [] H)) := by
  show O.lab _ _ _ _ _ _ = _
  rw [O_lab]
  kernel_rfl
theorem f184_eq (a0 a1 a2 : AV) (lo : List Nat) (H : Heap) : O.ent 184 [a0, a1, a2] lo H = (
(lenA .slice a1 H).bind fun x1 =>
L184_4 [a0, a2, a1, x1, I 0] lo H) := by
  rw [O_ent]
  kernel_rfl
-- cmp.Or[int]
noncomputable def T118_8 : List It := labAt Try.prog cfg 118 8 (fun _ => none)
noncomputable def L118_8 (vals : List AV) (lo : List Nat) (H : Heap) : Res := O.lab 118 [3, 6, 7, 8] (T118_8) vals lo H
theorem L118_8_eq (lo : List Nat) (v3 v6 v7 v8 : AV) (H : Heap) : L118_8 [v3, v6, v7, v8] lo H = (
(bin .lss .int v8 v7).bind fun x1 =>
cond x1 (
(idxA 1 v6 v8).bind fun x2 =>
(ld false 1 x2 H).bind fun x3 =>
(bin .neq .int x3 v3).bind fun x4 =>
cond x4 (
leave 0 lo [x3] H) (
(bin .add .int v8 (I 1)).bind fun x5 =>
L118_8 [v3, v6, v7, x5] lo H)) (
leave 0 lo [v3] H)) := by
  show O.lab _ _ _ _ _ _ = _
  rw [O_lab]
  kernel_rfl
theorem f118_eq (a0 : AV) : O.ent 118 [a0] [] [] = (
(lenA .slice a0 []).bind fun x1 =>
L118_8 [I 0, a0, x1, I 0] [] []) := by
  rw [O_ent]
  kernel_rfl
-- cmp.Compare[int]
theorem f119_eq (a0 a1 : AV) : O.ent 119 [a0, a1] [] [] = (
(callA cfg O 150 [a0] [] []).bind fun r1 =>
(callA cfg O 150 [a1] [] r1.2).bind fun r2 =>
cond r1.1 (
cond r2.1 (
leave 0 [] [I 0] r2.2) (
leave 0 [] [I (-1)] r2.2)) (
cond r2.1 (
leave 0 [] [I 1] r2.2) (
(bin .lss .int a0 a1).bind fun x3 =>
cond x3 (
leave 0 [] [I (-1)] r2.2) (
(bin .gtr .int a0 a1).bind fun x4 =>
cond x4 (
leave 0 [] [I 1] r2.2) (
leave 0 [] [I 0] r2.2))))) := by
  rw [O_ent]
  kernel_rfl
-- cmp.isNaN[int]
theorem f150_eq (a0 : AV) : O.ent 150 [a0] [] [] = (
(bin .neq .int a0 a0).bind fun x1 =>
leave 0 [] [x1] []) := by
  rw [O_ent]
  kernel_rfl
end Go.Proofs.Ytkhbbjfdbbnojaa
