import Derived.Test.YtjncpgcbgdkflaaCf
set_option linter.unusedVariables false
set_option maxRecDepth 100000
namespace Go.Proofs.Ytjncpgcbgdkflaa
open Go Go.AM
-- backstitch/backstitchlaw4.SpoolPuts
noncomputable def T4_18 : List It := labAt Try.prog cfg 4 18 (fun _ => none)
noncomputable def L4_18 (vals : List AV) (lo : List Nat) (H : Heap) : Res := O.lab 4 [2, 7, 8, 9, 10, 11, 12, 13, 14, 15] (T4_18) vals lo H
theorem L4_18_eq (lo : List Nat) (v2 v7 v8 v9 v10 v11 v12 v13 v14 v15 : AV) (H : Heap) : L4_18 [v2, v7, v8, v9, v10, v11, v12, v13, v14, v15] lo H = (
(lenA .slice v2 H).bind fun x1 =>
(bin .lss .int v15 x1).bind fun x2 =>
(gd x2 true (some v14)).bind fun x3 =>
(gd x2 true (bin .eql .int x3 (I 0))).bind fun x4 =>
(pickA x2 x4 (B false)).bind fun x5 =>
cond x5 (
(idxA 2 v2 v15).bind fun x6 =>
(ld true 2 x6 H).bind fun x7 =>
(callA cfg O 18 [v13, x7] lo H).bind fun r8 =>
(extractA r8.1 0).bind fun x9 =>
(extractA r8.1 1).bind fun x10 =>
(bin .add .int v15 (I 1)).bind fun x11 =>
L4_18 [v2, v7, v8, v9, v10, v11, v12, x9, x10, x11] lo r8.2) (
(callA cfg O 20 [v7, v9] lo H).bind fun r12 =>
(gd r12.1 true (some v8)).bind fun x13 =>
(gd r12.1 true (some v10)).bind fun x14 =>
(gd r12.1 true (bin .eql .int x13 x14)).bind fun x15 =>
(pickA r12.1 x15 (B false)).bind fun x16 =>
(gd x16 true (some v11)).bind fun x17 =>
(gd x16 true (some v13)).bind fun x18 =>
(gdH x16 true (callA cfg O 20 [x17, x18] lo r12.2) r12.2).bind fun r19 =>
(pickA x16 r19.1 (B false)).bind fun x20 =>
(gd x20 true (some v12)).bind fun x21 =>
(gd x20 true (some v14)).bind fun x22 =>
(gd x20 true (bin .eql .int x21 x22)).bind fun x23 =>
(pickA x20 x23 (B false)).bind fun x24 =>
leave 0 lo [x24] r19.2)) := by
  show O.lab _ _ _ _ _ _ = _
  rw [O_lab]
  kernel_rfl
theorem f4_eq (a0 a1 a2 : AV) : O.ent 4 [a0, a1, a2] [] [] = (
(boxO [] (AV.cells a1) []).bind fun r1 =>
(lenA .slice a2 r1.2).bind fun x2 =>
(bests false x2 [I 320]).bind fun x3 =>
(cutA 2 a2 none (some x3) none r1.2).bind fun x4 =>
(ld true 2 r1.1 r1.2).bind fun x5 =>
(callA cfg O 17 [a0, x5] [] r1.2).bind fun r6 =>
(extractA r6.1 0).bind fun x7 =>
(extractA r6.1 1).bind fun x8 =>
(ld true 2 r1.1 r6.2).bind fun x9 =>
(callA cfg O 18 [a0, x9] [] r6.2).bind fun r10 =>
(extractA r10.1 0).bind fun x11 =>
(extractA r10.1 1).bind fun x12 =>
(callA cfg O 19 [x4] [] r10.2).bind fun r13 =>
(extractA r13.1 0).bind fun x14 =>
(extractA r13.1 1).bind fun x15 =>
L4_18 [x4, x7, x8, x11, x12, x14, x15, .p nilS, I 0, I 0] [] r13.2) := by
  rw [O_ent]
  kernel_rfl
-- backstitch/spool.Put
theorem f17_eq (a0 a1 : AV) : O.ent 17 [a0, a1] [] [] = (
(boxO [] (AV.cells a1) []).bind fun r1 =>
(lenA .slice a0 r1.2).bind fun x2 =>
(bin .add .int x2 (I 13)).bind fun x3 =>
(bin .gtr .int x3 (I 4000)).bind fun x4 =>
cond x4 (
leave 0 [] [.p nilS, I 2] r1.2) (
(ld true 2 r1.1 r1.2).bind fun x5 =>
(callA cfg O 39 [x5] [] r1.2).bind fun r6 =>
(bin .neq .int r6.1 (I 0)).bind fun x7 =>
cond x7 (
leave 0 [] [.p nilS, r6.1] r6.2) (
(fldA 0 r1.1).bind fun x8 =>
(ld false 1 x8 r6.2).bind fun x9 =>
(conv (.int .u8) x9).bind fun x10 =>
(litP 1 [x10]).bind fun x11 =>
(fldA 1 r1.1).bind fun x12 =>
(ldS false 1 x12 r6.2).bind fun x13 =>
(conv (.int .u64) x13).bind fun x14 =>
(callA cfg O 40 [x14, I 8] [] r6.2).bind fun r15 =>
(appA 1 1 x11 r15.1 r15.2).bind fun r16 =>
(callA cfg O 42 [r16.1] [] r16.2).bind fun r17 =>
(conv (.int .u64) r17.1).bind fun x18 =>
(callA cfg O 40 [x18, I 4] [] r17.2).bind fun r19 =>
(litA false 1 [a0, r16.1, r19.1] r19.2).bind fun r20 =>
(callA cfg O 41 [r20.1] [] r20.2).bind fun r21 =>
leave 0 [] [r21.1, I 0] r21.2))) := by
  rw [O_ent]
  kernel_rfl
-- backstitch/backstitchref4.SpoolPut
theorem f18_eq (a0 a1 : AV) : O.ent 18 [a0, a1] [] [] = (
(boxO [] (AV.cells a1) []).bind fun r1 =>
(lenA .slice a0 r1.2).bind fun x2 =>
(bin .gtr .int x2 (I 3987)).bind fun x3 =>
cond x3 (
leave 0 [] [.p nilS, I 2] r1.2) (
(ld true 2 r1.1 r1.2).bind fun x4 =>
(callA cfg O 43 [x4] [] r1.2).bind fun r5 =>
(bin .neq .int r5.1 (I 0)).bind fun x6 =>
cond x6 (
leave 0 [] [.p nilS, r5.1] r5.2) (
(litA false 1 [] r5.2).bind fun r7 =>
(appA 1 1 r7.1 a0 r7.2).bind fun r8 =>
(ldS true 2 r1.1 r8.2).bind fun x9 =>
(callA cfg O 44 [x9] [] r8.2).bind fun r10 =>
(appA 1 1 r8.1 r10.1 r10.2).bind fun r11 =>
leave 0 [] [r11.1, I 0] r11.2))) := by
  rw [O_ent]
  kernel_rfl
-- backstitch/spool.All
noncomputable def T19_8 : List It := labAt Try.prog cfg 19 8 (fun _ => none)
noncomputable def L19_8 (vals : List AV) (lo : List Nat) (H : Heap) : Res := O.lab 19 [4, 9, 10, 11] (T19_8) vals lo H
theorem L19_8_eq (lo : List Nat) (v4 v9 v10 v11 : AV) (H : Heap) : L19_8 [v4, v9, v10, v11] lo H = (
(bin .lss .int v11 v10).bind fun x1 =>
cond x1 (
(idxA 2 v9 v11).bind fun x2 =>
(ld true 2 x2 H).bind fun x3 =>
(boxO [] [(I 0), (I 0)] H).bind fun r4 =>
((stA 2 r4.1 x3 lo r4.2).map fun H' => (undefA, H')).bind fun r5 =>
(ld true 2 r4.1 r5.2).bind fun x6 =>
(callA cfg O 17 [v4, x6] lo r5.2).bind fun r7 =>
(extractA r7.1 0).bind fun x8 =>
(extractA r7.1 1).bind fun x9 =>
(bin .neq .int x9 (I 0)).bind fun x10 =>
cond x10 (
leave 0 lo [.p nilS, x9] r7.2) (
(bin .add .int v11 (I 1)).bind fun x11 =>
L19_8 [x8, v9, v10, x11] lo r7.2)) (
leave 0 lo [v4, I 0] H)) := by
  show O.lab _ _ _ _ _ _ = _
  rw [O_lab]
  kernel_rfl
theorem f19_eq (a0 : AV) : O.ent 19 [a0] [] [] = (
(lenA .slice a0 []).bind fun x1 =>
L19_8 [.p nilS, a0, x1, I 0] [] []) := by
  rw [O_ent]
  kernel_rfl
-- backstitch/backstitchref4.SameBytes
noncomputable def T20_10 : List It := labAt Try.prog cfg 20 10 (fun _ => none)
noncomputable def L20_10 (vals : List AV) (lo : List Nat) (H : Heap) : Res := O.lab 20 [0, 1, 5] (T20_10) vals lo H
theorem L20_10_eq (lo : List Nat) (v0 v1 v5 : AV) (H : Heap) : L20_10 [v0, v1, v5] lo H = (
(lenA .slice v0 H).bind fun x1 =>
(bin .lss .int v5 x1).bind fun x2 =>
cond x2 (
(idxA 1 v0 v5).bind fun x3 =>
(ld false 1 x3 H).bind fun x4 =>
(idxA 1 v1 v5).bind fun x5 =>
(ld false 1 x5 H).bind fun x6 =>
(bin .neq .int x4 x6).bind fun x7 =>
cond x7 (
leave 0 lo [B false] H) (
(bin .add .int v5 (I 1)).bind fun x8 =>
L20_10 [v0, v1, x8] lo H)) (
leave 0 lo [B true] H)) := by
  show O.lab _ _ _ _ _ _ = _
  rw [O_lab]
  kernel_rfl
theorem f20_eq (a0 a1 : AV) : O.ent 20 [a0, a1] [] [] = (
(lenA .slice a0 []).bind fun x1 =>
(lenA .slice a1 []).bind fun x2 =>
(bin .neq .int x1 x2).bind fun x3 =>
cond x3 (
leave 0 [] [B false] []) (
L20_10 [a0, a1, I 0] [] [])) := by
  rw [O_ent]
  kernel_rfl
-- backstitch/spool.right
noncomputable def T39_29 : List It := labAt Try.prog cfg 39 29 (fun _ => none)
noncomputable def L39_29 (vals : List AV) (lo : List Nat) (H : Heap) : Res := O.lab 39 [1, 3, 4] (T39_29) vals lo H
theorem L39_29_eq (lo : List Nat) (v1 v3 v4 : AV) (H : Heap) : L39_29 [v1, v3, v4] lo H = (
(fldA 1 v1).bind fun x1 =>
(ld false 1 x1 H).bind fun x2 =>
(bin .lss .int x2 v3).bind fun x3 =>
(gd x3 false (fldA 1 v1)).bind fun x4 =>
(gd x3 false (ld false 1 x4 H)).bind fun x5 =>
(gd x3 false (some v4)).bind fun x6 =>
(gd x3 false (bin .gtr .int x5 x6)).bind fun x7 =>
(pickA x3 (B true) x7).bind fun x8 =>
cond x8 (
leave 0 lo [I 1] H) (
leave 0 lo [I 0] H)) := by
  show O.lab _ _ _ _ _ _ = _
  rw [O_lab]
  kernel_rfl
theorem f39_eq (a0 : AV) : O.ent 39 [a0] [] [] = (
(boxO [] (AV.cells a0) []).bind fun r1 =>
(fldA 0 r1.1).bind fun x2 =>
(ld false 1 x2 r1.2).bind fun x3 =>
(bin .eql .int x3 (I 0)).bind fun x4 =>
cond x4 (
L39_29 [r1.1, I 0, I 0] [] r1.2) (
(bin .eql .int x3 (I 1)).bind fun x5 =>
cond x5 (
L39_29 [r1.1, I 0, I 1] [] r1.2) (
(bin .eql .int x3 (I 2)).bind fun x6 =>
cond x6 (
L39_29 [r1.1, I (-2147483648), I 2147483647] [] r1.2) (
(bin .eql .int x3 (I 3)).bind fun x7 =>
cond x7 (
leave 0 [] [I 0] r1.2) (
(bin .eql .int x3 (I 4)).bind fun x8 =>
cond x8 (
L39_29 [r1.1, I 0, I 299] [] r1.2) (
leave 0 [] [I 7] r1.2)))))) := by
  rw [O_ent]
  kernel_rfl
-- backstitch/spool.big
noncomputable def T40_200002 : List It := labAt Try.prog cfg 40 200002 (fun _ => none)
noncomputable def L40_200002 (vals : List AV) (lo : List Nat) (H : Heap) : Res := O.lab 40 [0, 0, 2, 5] (T40_200002) vals lo H
theorem L40_200002_eq (lo : List Nat) (vi vq v2 v5 : AV) (H : Heap) : L40_200002 [vi, vq, v2, v5] lo H = (
(bin .lss .int vi (I 0)).bind fun x2 =>
cond x2 (
(ld false 1 v5 H).bind fun x1 =>
leave 0 lo [x1] H) (
(ld false 1 vq H).bind fun x3 =>
(idxA 1 x3 vi).bind fun x4 =>
(ld false 1 x4 H).bind fun x5 =>
(ld false 1 v5 H).bind fun x6 =>
(ld false 1 v2 H).bind fun x7 =>
(conv (.int .u8) x7).bind fun x8 =>
(idxA 1 x6 vi).bind fun x9 =>
((stA 1 x9 x8 lo H).map fun H' => (undefA, H')).bind fun r10 =>
(ld false 1 v2 r10.2).bind fun x11 =>
(bin .shr .int x11 (.p (.v (.int .u64 8)))).bind fun x12 =>
((stA 1 v2 x12 lo r10.2).map fun H' => (undefA, H')).bind fun r13 =>
(bin .sub .int vi (I 1)).bind fun x14 =>
L40_200002 [x14, vq, v2, v5] lo r13.2)) := by
  show O.lab _ _ _ _ _ _ = _
  rw [O_lab]
  kernel_rfl
theorem f40_eq (a0 a1 : AV) : O.ent 40 [a0, a1] [] [] = (
(boxO [] (AV.cells a0) []).bind fun r1 =>
(mkRow 1 1 [(.v (.int .u8 0))] a1 a1 r1.2).bind fun r2 =>
(boxO [] [(.p nilS)] r2.2).bind fun r3 =>
((stA 1 r3.1 r2.1 [] r3.2).map fun H' => (undefA, H')).bind fun r4 =>
(ld false 1 r3.1 r4.2).bind fun x5 =>
(callA cfg O 57 [x5] [] r4.2).bind fun r6 =>
(rngIn r6.1 67).bind fun x7 =>
(ld false 1 x7 r6.2).bind fun x8 =>
(lenA .slice x8 r6.2).bind fun x9 =>
(bin .sub .int x9 (I 1)).bind fun x10 =>
L40_200002 [x10, x7, r1.1, r3.1] [] r6.2) := by
  rw [O_ent]
  kernel_rfl
-- slices.Concat[[]byte,byte]
noncomputable def T41_8 : List It := labAt Try.prog cfg 41 8 (fun _ => none)
noncomputable def L41_8 (vals : List AV) (lo : List Nat) (H : Heap) : Res := O.lab 41 [0, 3, 9, 10, 11] (T41_8) vals lo H
noncomputable def T41_19 : List It := labAt Try.prog cfg 41 19 (fun _ => none)
noncomputable def L41_19 (vals : List AV) (lo : List Nat) (H : Heap) : Res := O.lab 41 [0, 3, 9, 10, 11] (T41_19) vals lo H
noncomputable def T41_24 : List It := labAt Try.prog cfg 41 24 (fun _ => none)
noncomputable def L41_24 (vals : List AV) (lo : List Nat) (H : Heap) : Res := O.lab 41 [6, 25, 26, 27] (T41_24) vals lo H
theorem L41_8_eq (lo : List Nat) (v0 v3 v9 v10 v11 : AV) (H : Heap) : L41_8 [v0, v3, v9, v10, v11] lo H = (
(bin .lss .int v11 v10).bind fun x1 =>
cond x1 (
(idxA 1 v9 v11).bind fun x2 =>
(ld false 1 x2 H).bind fun x3 =>
(lenA .slice x3 H).bind fun x4 =>
(bin .add .int v3 x4).bind fun x5 =>
(bin .lss .int x5 (I 0)).bind fun x6 =>
cond x6 (
none) (
L41_19 [v0, x5, v9, v10, v11] lo H)) (
(callA cfg O 58 [.p nilS, v3] lo H).bind fun r7 =>
(lenA .slice v0 r7.2).bind fun x8 =>
L41_24 [r7.1, v0, x8, I 0] lo r7.2)) := by
  show O.lab _ _ _ _ _ _ = _
  rw [O_lab]
  kernel_rfl
theorem L41_19_eq (lo : List Nat) (v0 v3 v9 v10 v11 : AV) (H : Heap) : L41_19 [v0, v3, v9, v10, v11] lo H = (
(bin .add .int v11 (I 1)).bind fun x1 =>
L41_8 [v0, v3, v9, v10, x1] lo H) := by
  show O.lab _ _ _ _ _ _ = _
  rw [O_lab]
  kernel_rfl
theorem L41_24_eq (lo : List Nat) (v6 v25 v26 v27 : AV) (H : Heap) : L41_24 [v6, v25, v26, v27] lo H = (
(bin .lss .int v27 v26).bind fun x1 =>
cond x1 (
(idxA 1 v25 v27).bind fun x2 =>
(ld false 1 x2 H).bind fun x3 =>
(appA 1 1 v6 x3 H).bind fun r4 =>
(bin .add .int v27 (I 1)).bind fun x5 =>
L41_24 [r4.1, v25, v26, x5] lo r4.2) (
leave 0 lo [v6] H)) := by
  show O.lab _ _ _ _ _ _ = _
  rw [O_lab]
  kernel_rfl
theorem f41_eq (a0 : AV) : O.ent 41 [a0] [] [] = (
(lenA .slice a0 []).bind fun x1 =>
L41_8 [a0, I 0, a0, x1, I 0] [] []) := by
  rw [O_ent]
  kernel_rfl
-- backstitch/spool.sum
noncomputable def T42_8 : List It := labAt Try.prog cfg 42 8 (fun _ => none)
noncomputable def L42_8 (vals : List AV) (lo : List Nat) (H : Heap) : Res := O.lab 42 [3, 6, 7, 8] (T42_8) vals lo H
theorem L42_8_eq (lo : List Nat) (v3 v6 v7 v8 : AV) (H : Heap) : L42_8 [v3, v6, v7, v8] lo H = (
(bin .lss .int v8 v7).bind fun x1 =>
cond x1 (
(idxA 1 v6 v8).bind fun x2 =>
(ld false 1 x2 H).bind fun x3 =>
(conv (.int .u32) x3).bind fun x4 =>
(bin .xor .int v3 x4).bind fun x5 =>
(bin .mul .int x5 (.p (.v (.int .u32 16777619)))).bind fun x6 =>
(bin .add .int v8 (I 1)).bind fun x7 =>
L42_8 [x6, v6, v7, x7] lo H) (
leave 0 lo [v3] H)) := by
  show O.lab _ _ _ _ _ _ = _
  rw [O_lab]
  kernel_rfl
theorem f42_eq (a0 : AV) : O.ent 42 [a0] [] [] = (
(lenA .slice a0 []).bind fun x1 =>
L42_8 [.p (.v (.int .u32 2166136261)), a0, x1, I 0] [] []) := by
  rw [O_ent]
  kernel_rfl
-- backstitch/backstitchref4.SpoolErr
theorem f43_eq (a0 : AV) : O.ent 43 [a0] [] [] = (
(boxO [] (AV.cells a0) []).bind fun r1 =>
(fldA 0 r1.1).bind fun x2 =>
(ld false 1 x2 r1.2).bind fun x3 =>
(bin .lss .int x3 (I 0)).bind fun x4 =>
(gd x4 false (fldA 0 r1.1)).bind fun x5 =>
(gd x4 false (ld false 1 x5 r1.2)).bind fun x6 =>
(gd x4 false (bin .gtr .int x6 (I 4))).bind fun x7 =>
(pickA x4 (B true) x7).bind fun x8 =>
cond x8 (
leave 0 [] [I 7] r1.2) (
(fldA 0 r1.1).bind fun x9 =>
(ld false 1 x9 r1.2).bind fun x10 =>
(bin .eql .int x10 (I 0)).bind fun x11 =>
(gd x11 true (fldA 1 r1.1)).bind fun x12 =>
(gd x11 true (ld false 1 x12 r1.2)).bind fun x13 =>
(gd x11 true (bin .neq .int x13 (I 0))).bind fun x14 =>
(pickA x11 x14 (B false)).bind fun x15 =>
(gd x15 false (fldA 0 r1.1)).bind fun x16 =>
(gd x15 false (ld false 1 x16 r1.2)).bind fun x17 =>
(gd x15 false (bin .eql .int x17 (I 1))).bind fun x18 =>
(gd x15 false (some x18)).bind fun x19 =>
(gd x19 true (fldA 1 r1.1)).bind fun x20 =>
(gd x19 true (ld false 1 x20 r1.2)).bind fun x21 =>
(gdH x19 true (callA cfg O 37 [x21, I 0, I 1] [] r1.2) r1.2).bind fun r22 =>
(gd x19 true (un .not r22.1)).bind fun x23 =>
(gd x15 false (pickA x19 x23 (B false))).bind fun x24 =>
(pickA x15 (B true) x24).bind fun x25 =>
(gd x25 false (fldA 0 r1.1)).bind fun x26 =>
(gd x25 false (ld false 1 x26 r22.2)).bind fun x27 =>
(gd x25 false (bin .eql .int x27 (I 2))).bind fun x28 =>
(gd x25 false (some x28)).bind fun x29 =>
(gd x29 true (fldA 1 r1.1)).bind fun x30 =>
(gd x29 true (ld false 1 x30 r22.2)).bind fun x31 =>
(gdH x29 true (callA cfg O 37 [x31, I (-2147483648), I 2147483647] [] r22.2) r22.2).bind fun r32 =>
(gd x29 true (un .not r32.1)).bind fun x33 =>
(gd x25 false (pickA x29 x33 (B false))).bind fun x34 =>
(pickA x25 (B true) x34).bind fun x35 =>
(gd x35 false (fldA 0 r1.1)).bind fun x36 =>
(gd x35 false (ld false 1 x36 r32.2)).bind fun x37 =>
(gd x35 false (bin .eql .int x37 (I 4))).bind fun x38 =>
(gd x35 false (some x38)).bind fun x39 =>
(gd x39 true (fldA 1 r1.1)).bind fun x40 =>
(gd x39 true (ld false 1 x40 r32.2)).bind fun x41 =>
(gdH x39 true (callA cfg O 37 [x41, I 0, I 299] [] r32.2) r32.2).bind fun r42 =>
(gd x39 true (un .not r42.1)).bind fun x43 =>
(gd x35 false (pickA x39 x43 (B false))).bind fun x44 =>
(pickA x35 (B true) x44).bind fun x45 =>
cond x45 (
leave 0 [] [I 1] r42.2) (
leave 0 [] [I 0] r42.2))) := by
  rw [O_ent]
  kernel_rfl
-- backstitch/backstitchref4.SpoolRecord
noncomputable def T44_12 : List It := labAt Try.prog cfg 44 12 (fun _ => none)
noncomputable def L44_12 (vals : List AV) (lo : List Nat) (H : Heap) : Res := O.lab 44 [3, 4, 5] (T44_12) vals lo H
noncomputable def T44_24 : List It := labAt Try.prog cfg 44 24 (fun _ => none)
noncomputable def L44_24 (vals : List AV) (lo : List Nat) (H : Heap) : Res := O.lab 44 [3, 6, 7] (T44_24) vals lo H
theorem L44_12_eq (lo : List Nat) (v3 v4 v5 : AV) (H : Heap) : L44_12 [v3, v4, v5] lo H = (
(bin .gtr .int v5 (I 0)).bind fun x1 =>
cond x1 (
(bin .rem .int v4 (.p (.v (.int .u64 256)))).bind fun x2 =>
(conv (.int .u8) x2).bind fun x3 =>
(idxA 1 v3 v5).bind fun x4 =>
((stA 1 x4 x3 lo H).map fun H' => (undefA, H')).bind fun r5 =>
(bin .quo .int v4 (.p (.v (.int .u64 256)))).bind fun x6 =>
(bin .sub .int v5 (I 1)).bind fun x7 =>
L44_12 [v3, x6, x7] lo r5.2) (
(cutA 1 v3 none (some (I 9)) none H).bind fun x8 =>
(callA cfg O 59 [x8] lo H).bind fun r9 =>
L44_24 [v3, r9.1, I 12] lo r9.2)) := by
  show O.lab _ _ _ _ _ _ = _
  rw [O_lab]
  kernel_rfl
theorem L44_24_eq (lo : List Nat) (v3 v6 v7 : AV) (H : Heap) : L44_24 [v3, v6, v7] lo H = (
(bin .gtr .int v7 (I 8)).bind fun x1 =>
cond x1 (
(bin .rem .int v6 (I 256)).bind fun x2 =>
(conv (.int .u8) x2).bind fun x3 =>
(idxA 1 v3 v7).bind fun x4 =>
((stA 1 x4 x3 lo H).map fun H' => (undefA, H')).bind fun r5 =>
(bin .quo .int v6 (I 256)).bind fun x6 =>
(bin .sub .int v7 (I 1)).bind fun x7 =>
L44_24 [v3, x6, x7] lo r5.2) (
leave 0 lo [v3] H)) := by
  show O.lab _ _ _ _ _ _ = _
  rw [O_lab]
  kernel_rfl
theorem f44_eq (a0 : AV) : O.ent 44 [a0] [] [] = (
(boxO [] (AV.cells a0) []).bind fun r1 =>
(mkRow 1 1 [(.v (.int .u8 0))] (I 13) (I 13) r1.2).bind fun r2 =>
(fldA 0 r1.1).bind fun x3 =>
(ld false 1 x3 r2.2).bind fun x4 =>
(conv (.int .u8) x4).bind fun x5 =>
(idxA 1 r2.1 (I 0)).bind fun x6 =>
((stA 1 x6 x5 [] r2.2).map fun H' => (undefA, H')).bind fun r7 =>
(fldA 1 r1.1).bind fun x8 =>
(ld false 1 x8 r7.2).bind fun x9 =>
(conv (.int .u64) x9).bind fun x10 =>
L44_12 [r2.1, x10, I 8] [] r7.2) := by
  rw [O_ent]
  kernel_rfl
-- slices.Backward[[]byte,byte]
theorem f57_eq (a0 : AV) (lo : List Nat) (H : Heap) : O.ent 57 [a0] lo H = (
(boxO [] (AV.cells a0) H).bind fun r1 =>
leave 4 lo [.fn 67 [] [r1.1]] r1.2) := by
  rw [O_ent]
  kernel_rfl
-- slices.Grow[[]byte,byte]
noncomputable def T58_9 : List It := labAt Try.prog cfg 58 9 (fun _ => none)
noncomputable def L58_9 (vals : List AV) (lo : List Nat) (H : Heap) : Res := O.lab 58 [0, 1] (T58_9) vals lo H
noncomputable def T58_15 : List It := labAt Try.prog cfg 58 15 (fun _ => none)
noncomputable def L58_15 (vals : List AV) (lo : List Nat) (H : Heap) : Res := O.lab 58 [0] (T58_15) vals lo H
theorem L58_9_eq (lo : List Nat) (v0 v1 : AV) (H : Heap) : L58_9 [v0, v1] lo H = (
(capA v0).bind fun x1 =>
(lenA .slice v0 H).bind fun x2 =>
(bin .sub .int x1 x2).bind fun x3 =>
(bin .sub .int v1 x3).bind fun x4 =>
(bin .gtr .int x4 (I 0)).bind fun x5 =>
cond x5 (
(capA v0).bind fun x6 =>
(cutA 1 v0 none (some x6) none H).bind fun x7 =>
(appZ 1 1 [(.v (.int .u8 0))] x7 x4 H).bind fun r8 =>
(lenA .slice v0 r8.2).bind fun x9 =>
(cutA 1 r8.1 none (some x9) none r8.2).bind fun x10 =>
L58_15 [x10] lo r8.2) (
L58_15 [v0] lo H)) := by
  show O.lab _ _ _ _ _ _ = _
  rw [O_lab]
  kernel_rfl
theorem L58_15_eq (lo : List Nat) (v0 : AV) (H : Heap) : L58_15 [v0] lo H = (
leave 1 lo [v0] H) := by
  show O.lab _ _ _ _ _ _ = _
  rw [O_lab]
  kernel_rfl
theorem f58_eq (a0 a1 : AV) (lo : List Nat) (H : Heap) : O.ent 58 [a0, a1] lo H = (
(bin .lss .int a1 (I 0)).bind fun x1 =>
cond x1 (
none) (
L58_9 [a0, a1] lo H)) := by
  rw [O_ent]
  kernel_rfl
-- backstitch/backstitchref4.SpoolSum
noncomputable def T59_8 : List It := labAt Try.prog cfg 59 8 (fun _ => none)
noncomputable def L59_8 (vals : List AV) (lo : List Nat) (H : Heap) : Res := O.lab 59 [0, 3, 4] (T59_8) vals lo H
theorem L59_8_eq (lo : List Nat) (v0 v3 v4 : AV) (H : Heap) : L59_8 [v0, v3, v4] lo H = (
(lenA .slice v0 H).bind fun x1 =>
(bin .lss .int v4 x1).bind fun x2 =>
cond x2 (
(bin .rem .int v3 (I 256)).bind fun x3 =>
(bin .sub .int v3 x3).bind fun x4 =>
(idxA 1 v0 v4).bind fun x5 =>
(ld false 1 x5 H).bind fun x6 =>
(conv (.int .i64) x6).bind fun x7 =>
(bin .xor .int x3 x7).bind fun x8 =>
(bin .add .int x4 x8).bind fun x9 =>
(bin .mul .int x9 (I 16777619)).bind fun x10 =>
(bin .rem .int x10 (I 4294967296)).bind fun x11 =>
(bin .add .int v4 (I 1)).bind fun x12 =>
L59_8 [v0, x11, x12] lo H) (
leave 0 lo [v3] H)) := by
  show O.lab _ _ _ _ _ _ = _
  rw [O_lab]
  kernel_rfl
theorem f59_eq (a0 : AV) : O.ent 59 [a0] [] [] = (
L59_8 [a0, I 2166136261, I 0] [] []) := by
  rw [O_ent]
  kernel_rfl
-- slices.Backward[[]byte,byte]$1
noncomputable def T67_4 : List It := labAt Try.prog cfg 67 4 (fun _ => none)
noncomputable def L67_4 (vals : List AV) (lo : List Nat) (H : Heap) : Res := O.lab 67 [0, 1, 3] (T67_4) vals lo H
theorem L67_4_eq (lo : List Nat) (v0 v1 v3 : AV) (H : Heap) : L67_4 [v0, v1, v3] lo H = (
(bin .geq .int v3 (I 0)).bind fun x1 =>
cond x1 (
(ld false 1 v1 H).bind fun x2 =>
(idxA 1 x2 v3).bind fun x3 =>
(ld false 1 x3 H).bind fun x4 =>
(callV cfg O v0 [v3, x4] lo H).bind fun r5 =>
(un .not r5.1).bind fun x6 =>
cond x6 (
leave 0 lo [] r5.2) (
(bin .sub .int v3 (I 1)).bind fun x7 =>
L67_4 [v0, v1, x7] lo r5.2)) (
leave 0 lo [] H)) := by
  show O.lab _ _ _ _ _ _ = _
  rw [O_lab]
  kernel_rfl
theorem f67_eq (a0 a1 : AV) : O.ent 67 [a0, a1] [] [] = (
(ld false 1 a1 []).bind fun x1 =>
(lenA .slice x1 []).bind fun x2 =>
(bin .sub .int x2 (I 1)).bind fun x3 =>
L67_4 [a0, a1, x3] [] []) := by
  rw [O_ent]
  kernel_rfl
end Go.Proofs.Ytjncpgcbgdkflaa
