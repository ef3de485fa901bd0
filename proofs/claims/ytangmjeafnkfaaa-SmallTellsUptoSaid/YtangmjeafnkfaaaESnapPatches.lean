import Derived.Test.YtangmjeafnkfaaaCf
set_option linter.unusedVariables false
set_option maxRecDepth 100000
namespace Go.Proofs.Ytangmjeafnkfaaa
open Go Go.AM
-- backstitch/backstitchlaw4.SnapPatches
theorem f3_eq (a0 a1 a2 : AV) : O.ent 3 [a0, a1, a2] [] [] = (
(callA cfg O 15 [a0, a1, a2] [] []).bind fun r1 =>
(extractA r1.1 0).bind fun x2 =>
(extractA r1.1 1).bind fun x3 =>
(callA cfg O 16 [a0, a1, a2] [] r1.2).bind fun r4 =>
(extractA r4.1 0).bind fun x5 =>
(extractA r4.1 1).bind fun x6 =>
(callA cfg O 17 [x2, x5] [] r4.2).bind fun r7 =>
(gd r7.1 true (some x3)).bind fun x8 =>
(gd r7.1 true (some x6)).bind fun x9 =>
(gd r7.1 true (bin .eql .int x8 x9)).bind fun x10 =>
(pickA r7.1 x10 (B false)).bind fun x11 =>
leave 0 [] [x11] r7.2) := by
  rw [O_ent]
  kernel_rfl
-- backstitch/snap.Patched
noncomputable def T15_16 (b16 : Nat) : List It := labAt Try.prog cfg 15 16 (fun k => bif Nat.beq k 16 then some b16 else none)
noncomputable def L15_16 (b16 : Nat) (vals : List AV) (lo : List Nat) (H : Heap) : Res := O.lab 15 [1, 8, 9, 23, 24, 25] (T15_16 b16) vals lo H
theorem L15_16_eq (b16 : Nat) (lo : List Nat) (v1 v8 v9 v23 v24 v25 : AV) (H : Heap) : L15_16 b16 [v1, v8, v9, v23, v24, v25] lo H = (
(bin .lss .int v25 v24).bind fun x1 =>
cond x1 (
(idxA 2 v23 v25).bind fun x2 =>
(ld true 2 x2 H).bind fun x3 =>
(boxO [] [(I 0), (I 0)] H).bind fun r4 =>
((stA 2 r4.1 x3 (b16 :: lo) r4.2).map fun H' => (undefA, H')).bind fun r5 =>
(fldA 0 r4.1).bind fun x6 =>
(ld false 1 x6 r5.2).bind fun x7 =>
(bin .leq .int x7 v9).bind fun x8 =>
(gd x8 false (fldA 0 r4.1)).bind fun x9 =>
(gd x8 false (ld false 1 x9 r5.2)).bind fun x10 =>
(gd x8 false (some v1)).bind fun x11 =>
(gd x8 false (bin .geq .int x10 x11)).bind fun x12 =>
(pickA x8 (B true) x12).bind fun x13 =>
cond x13 (
leave 0 lo [.p nilS, I 3] r5.2) (
(fldA 0 r4.1).bind fun x14 =>
(ld false 1 x14 r5.2).bind fun x15 =>
(fldA 0 r4.1).bind fun x16 =>
(ld false 1 x16 r5.2).bind fun x17 =>
(fldA 1 r4.1).bind fun x18 =>
(ld false 1 x18 r5.2).bind fun x19 =>
(idxA 1 v8 x17).bind fun x20 =>
((stA 1 x20 x19 (b16 :: lo) r5.2).map fun H' => (undefA, H')).bind fun r21 =>
(bin .add .int v25 (I 1)).bind fun x22 =>
if (AV.ltd b16 v1 && (AV.ltd b16 v8 && (AV.ltd b16 x15 && (AV.ltd b16 v23 && (AV.ltd b16 v24 && (AV.ltd b16 x22 && true)))))) = true then L15_16 b16 [v1, v8, x15, v23, v24, x22] lo (List.take b16 r21.2) else none)) (
leave 0 lo [v8, I 0] H)) := by
  show O.lab _ _ _ _ _ _ = _
  rw [O_lab]
  kernel_rfl
theorem f15_eq (a0 a1 a2 : AV) : O.ent 15 [a0, a1, a2] [] [] = (
(bin .lss .int a1 (I 0)).bind fun x1 =>
(gd x1 false (some a1)).bind fun x2 =>
(gd x1 false (bin .gtr .int x2 (I 20000))).bind fun x3 =>
(pickA x1 (B true) x3).bind fun x4 =>
cond x4 (
leave 0 [] [.p nilS, I 1] []) (
(mkRow 1 8 [(.v (.int .i64 0))] a1 a1 []).bind fun r5 =>
(copyA 1 r5.1 a0 r5.2).bind fun r6 =>
(lenA .slice a2 r6.2).bind fun x7 =>
L15_16 (List.length r6.2) [a1, r5.1, I (-1), a2, x7, I 0] [] r6.2)) := by
  rw [O_ent]
  kernel_rfl
-- backstitch/backstitchref4.SnapPatched
noncomputable def T16_10 : List It := labAt Try.prog cfg 16 10 (fun _ => none)
noncomputable def L16_10 (vals : List AV) (lo : List Nat) (H : Heap) : Res := O.lab 16 [0, 1, 2, 8] (T16_10) vals lo H
noncomputable def T16_24 : List It := labAt Try.prog cfg 16 24 (fun _ => none)
noncomputable def L16_24 (vals : List AV) (lo : List Nat) (H : Heap) : Res := O.lab 16 [0, 1, 2, 9, 10, 11] (T16_24) vals lo H
noncomputable def T16_35 : List It := labAt Try.prog cfg 16 35 (fun _ => none)
noncomputable def L16_35 (vals : List AV) (lo : List Nat) (H : Heap) : Res := O.lab 16 [0, 1, 2, 9, 10, 11, 12] (T16_35) vals lo H
noncomputable def T16_41 : List It := labAt Try.prog cfg 16 41 (fun _ => none)
noncomputable def L16_41 (vals : List AV) (lo : List Nat) (H : Heap) : Res := O.lab 16 [0, 1, 2, 9, 10, 11, 12] (T16_41) vals lo H
theorem L16_10_eq (lo : List Nat) (v0 v1 v2 v8 : AV) (H : Heap) : L16_10 [v0, v1, v2, v8] lo H = (
(lenA .slice v2 H).bind fun x1 =>
(bin .lss .int v8 x1).bind fun x2 =>
cond x2 (
(idxA 2 v2 v8).bind fun x3 =>
(fldA 0 x3).bind fun x4 =>
(ld false 1 x4 H).bind fun x5 =>
(bin .sub .int v1 (I 1)).bind fun x6 =>
(callA cfg O 61 [x5, I 0, x6] lo H).bind fun r7 =>
(un .not r7.1).bind fun x8 =>
(gd x8 false (some v8)).bind fun x9 =>
(gd x8 false (bin .gtr .int x9 (I 0))).bind fun x10 =>
(gd x8 false (some x10)).bind fun x11 =>
(gd x11 true (some v2)).bind fun x12 =>
(gd x11 true (some v8)).bind fun x13 =>
(gd x11 true (idxA 2 x12 x13)).bind fun x14 =>
(gd x11 true (fldA 0 x14)).bind fun x15 =>
(gd x11 true (ld false 1 x15 r7.2)).bind fun x16 =>
(gd x11 true (some v2)).bind fun x17 =>
(gd x11 true (some v8)).bind fun x18 =>
(gd x11 true (bin .sub .int x18 (I 1))).bind fun x19 =>
(gd x11 true (idxA 2 x17 x19)).bind fun x20 =>
(gd x11 true (fldA 0 x20)).bind fun x21 =>
(gd x11 true (ld false 1 x21 r7.2)).bind fun x22 =>
(gd x11 true (bin .leq .int x16 x22)).bind fun x23 =>
(gd x8 false (pickA x11 x23 (B false))).bind fun x24 =>
(pickA x8 (B true) x24).bind fun x25 =>
cond x25 (
leave 0 lo [.p nilS, I 3] r7.2) (
(bin .add .int v8 (I 1)).bind fun x26 =>
L16_10 [v0, v1, v2, x26] lo r7.2)) (
L16_24 [v0, v1, v2, .p nilS, I 0, I 0] lo H)) := by
  show O.lab _ _ _ _ _ _ = _
  rw [O_lab]
  kernel_rfl
theorem L16_24_eq (lo : List Nat) (v0 v1 v2 v9 v10 v11 : AV) (H : Heap) : L16_24 [v0, v1, v2, v9, v10, v11] lo H = (
(bin .lss .int v11 v1).bind fun x1 =>
cond x1 (
(lenA .slice v0 H).bind fun x2 =>
(bin .lss .int v11 x2).bind fun x3 =>
cond x3 (
(idxA 1 v0 v11).bind fun x4 =>
(ld false 1 x4 H).bind fun x5 =>
L16_35 [v0, v1, v2, v9, v10, v11, x5] lo H) (
L16_35 [v0, v1, v2, v9, v10, v11, I 0] lo H)) (
leave 0 lo [v9, I 0] H)) := by
  show O.lab _ _ _ _ _ _ = _
  rw [O_lab]
  kernel_rfl
theorem L16_35_eq (lo : List Nat) (v0 v1 v2 v9 v10 v11 v12 : AV) (H : Heap) : L16_35 [v0, v1, v2, v9, v10, v11, v12] lo H = (
(lenA .slice v2 H).bind fun x1 =>
(bin .lss .int v10 x1).bind fun x2 =>
(gd x2 true (some v2)).bind fun x3 =>
(gd x2 true (some v10)).bind fun x4 =>
(gd x2 true (idxA 2 x3 x4)).bind fun x5 =>
(gd x2 true (fldA 0 x5)).bind fun x6 =>
(gd x2 true (ld false 1 x6 H)).bind fun x7 =>
(gd x2 true (some v11)).bind fun x8 =>
(gd x2 true (bin .eql .int x7 x8)).bind fun x9 =>
(pickA x2 x9 (B false)).bind fun x10 =>
cond x10 (
(idxA 2 v2 v10).bind fun x11 =>
(fldA 1 x11).bind fun x12 =>
(ld false 1 x12 H).bind fun x13 =>
(bin .add .int v10 (I 1)).bind fun x14 =>
L16_41 [v0, v1, v2, v9, x14, v11, x13] lo H) (
L16_41 [v0, v1, v2, v9, v10, v11, v12] lo H)) := by
  show O.lab _ _ _ _ _ _ = _
  rw [O_lab]
  kernel_rfl
theorem L16_41_eq (lo : List Nat) (v0 v1 v2 v9 v10 v11 v12 : AV) (H : Heap) : L16_41 [v0, v1, v2, v9, v10, v11, v12] lo H = (
(litA false 1 [v12] H).bind fun r1 =>
(appA 1 8 v9 r1.1 r1.2).bind fun r2 =>
(bin .add .int v11 (I 1)).bind fun x3 =>
L16_24 [v0, v1, v2, r2.1, v10, x3] lo r2.2) := by
  show O.lab _ _ _ _ _ _ = _
  rw [O_lab]
  kernel_rfl
theorem f16_eq (a0 a1 a2 : AV) : O.ent 16 [a0, a1, a2] [] [] = (
(callA cfg O 61 [a1, I 0, I 20000] [] []).bind fun r1 =>
(un .not r1.1).bind fun x2 =>
cond x2 (
leave 0 [] [.p nilS, I 1] r1.2) (
L16_10 [a0, a1, a2, I 0] [] r1.2)) := by
  rw [O_ent]
  kernel_rfl
-- backstitch/backstitchref4.SameInts
noncomputable def T17_10 : List It := labAt Try.prog cfg 17 10 (fun _ => none)
noncomputable def L17_10 (vals : List AV) (lo : List Nat) (H : Heap) : Res := O.lab 17 [0, 1, 5] (T17_10) vals lo H
theorem L17_10_eq (lo : List Nat) (v0 v1 v5 : AV) (H : Heap) : L17_10 [v0, v1, v5] lo H = (
(lenA .slice v0 H).bind fun x1 =>
(bin .lss .int v5 x1).bind fun x2 =>
cond x2 (
(idxA 1 v0 v5).bind fun x3 =>
(ld false 1 x3 H).bind fun x4 =>
(idxA 1 v1 v5).bind fun x5 =>
(ld false 1 x5 H).bind fun x6 =>
(bin .neq .int x4 x6).bind fun x7 =>
cond x7 (
leave 0 lo [B false] H) (
(bin .add .int v5 (I 1)).bind fun x8 =>
L17_10 [v0, v1, x8] lo H)) (
leave 0 lo [B true] H)) := by
  show O.lab _ _ _ _ _ _ = _
  rw [O_lab]
  kernel_rfl
theorem f17_eq (a0 a1 : AV) : O.ent 17 [a0, a1] [] [] = (
(lenA .slice a0 []).bind fun x1 =>
(lenA .slice a1 []).bind fun x2 =>
(bin .neq .int x1 x2).bind fun x3 =>
cond x3 (
leave 0 [] [B false] []) (
L17_10 [a0, a1, I 0] [] [])) := by
  rw [O_ent]
  kernel_rfl
-- backstitch/backstitchref4.between
theorem f61_eq (a0 a1 a2 : AV) : O.ent 61 [a0, a1, a2] [] [] = (
(bin .geq .int a0 a1).bind fun x1 =>
(gd x1 true (some a0)).bind fun x2 =>
(gd x1 true (some a2)).bind fun x3 =>
(gd x1 true (bin .leq .int x2 x3)).bind fun x4 =>
(pickA x1 x4 (B false)).bind fun x5 =>
leave 0 [] [x5] []) := by
  rw [O_ent]
  kernel_rfl
end Go.Proofs.Ytangmjeafnkfaaa
