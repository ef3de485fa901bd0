import Derived.Test.YtangmjeafnkfaaaCf
set_option linter.unusedVariables false
set_option maxRecDepth 100000
namespace Go.Proofs.Ytangmjeafnkfaaa
open Go Go.AM
-- backstitch/backstitchlaw4.SpoolReads
theorem f6_eq (a0 : AV) : O.ent 6 [a0] [] [] = (
(callA cfg O 26 [a0] [] []).bind fun r1 =>
(extractA r1.1 0).bind fun x2 =>
(extractA r1.1 1).bind fun x3 =>
(extractA r1.1 2).bind fun x4 =>
(callA cfg O 27 [a0] [] r1.2).bind fun r5 =>
(extractA r5.1 0).bind fun x6 =>
(extractA r5.1 1).bind fun x7 =>
(callA cfg O 28 [x2, x6] [] r5.2).bind fun r8 =>
(gd r8.1 true (some x3)).bind fun x9 =>
(gd r8.1 true (some x6)).bind fun x10 =>
(gd r8.1 true (lenA .slice x10 r8.2)).bind fun x11 =>
(gd r8.1 true (bin .mul .int (I 13) x11)).bind fun x12 =>
(gd r8.1 true (bin .eql .int x9 x12)).bind fun x13 =>
(pickA r8.1 x13 (B false)).bind fun x14 =>
(gd x14 true (some x4)).bind fun x15 =>
(gd x14 true (some x7)).bind fun x16 =>
(gd x14 true (bin .eql .int x15 x16)).bind fun x17 =>
(pickA x14 x17 (B false)).bind fun x18 =>
leave 0 [] [x18] r8.2) := by
  rw [O_ent]
  kernel_rfl
-- backstitch/spool.Read
noncomputable def T26_12 : List It := labAt Try.prog cfg 26 12 (fun _ => none)
noncomputable def L26_12 (vals : List AV) (lo : List Nat) (H : Heap) : Res := O.lab 26 [0, 5, 6] (T26_12) vals lo H
theorem L26_12_eq (lo : List Nat) (v0 v5 v6 : AV) (H : Heap) : L26_12 [v0, v5, v6] lo H = (
(bin .add .int v6 (I 13)).bind fun x1 =>
(lenA .slice v0 H).bind fun x2 =>
(bin .leq .int x1 x2).bind fun x3 =>
cond x3 (
(bin .add .int v6 (I 13)).bind fun x4 =>
(cutA 1 v0 (some v6) (some x4) none H).bind fun x5 =>
(callA cfg O 80 [x5] lo H).bind fun r6 =>
(extractA r6.1 0).bind fun x7 =>
(extractA r6.1 1).bind fun x8 =>
(boxO [] [(I 0), (I 0)] r6.2).bind fun r9 =>
((stA 2 r9.1 x7 lo r9.2).map fun H' => (undefA, H')).bind fun r10 =>
(bin .neq .int x8 (I 0)).bind fun x11 =>
cond x11 (
leave 0 lo [.p nilS, I 0, x8] r10.2) (
(ld true 2 r9.1 r10.2).bind fun x12 =>
(litA false 2 [x12] r10.2).bind fun r13 =>
(appA 2 16 v5 r13.1 r13.2).bind fun r14 =>
(bin .add .int v6 (I 13)).bind fun x15 =>
L26_12 [v0, r14.1, x15] lo r14.2)) (
(lenA .slice v5 H).bind fun x16 =>
(bin .mul .int (I 13) x16).bind fun x17 =>
leave 0 lo [v5, x17, I 0] H)) := by
  show O.lab _ _ _ _ _ _ = _
  rw [O_lab]
  kernel_rfl
theorem f26_eq (a0 : AV) : O.ent 26 [a0] [] [] = (
(lenA .slice a0 []).bind fun x1 =>
(bin .gtr .int x1 (I 4000)).bind fun x2 =>
cond x2 (
leave 0 [] [.p nilS, I 0, I 2] []) (
L26_12 [a0, .p nilS, I 0] [] [])) := by
  rw [O_ent]
  kernel_rfl
-- backstitch/backstitchref4.SpoolRead
noncomputable def T27_10 : List It := labAt Try.prog cfg 27 10 (fun _ => none)
noncomputable def L27_10 (vals : List AV) (lo : List Nat) (H : Heap) : Res := O.lab 27 [0, 4] (T27_10) vals lo H
noncomputable def T27_16 : List It := labAt Try.prog cfg 27 16 (fun _ => none)
noncomputable def L27_16 (vals : List AV) (lo : List Nat) (H : Heap) : Res := O.lab 27 [0, 4, 5, 6] (T27_16) vals lo H
theorem L27_10_eq (lo : List Nat) (v0 v4 : AV) (H : Heap) : L27_10 [v0, v4] lo H = (
(lenA .slice v0 H).bind fun x1 =>
(bin .geq .int x1 (I 13)).bind fun x2 =>
cond x2 (
L27_16 [v0, v4, .p (.v (.int .u64 0)), I 1] lo H) (
leave 0 lo [v4, I 0] H)) := by
  show O.lab _ _ _ _ _ _ = _
  rw [O_lab]
  kernel_rfl
theorem L27_16_eq (lo : List Nat) (v0 v4 v5 v6 : AV) (H : Heap) : L27_16 [v0, v4, v5, v6] lo H = (
(bin .lss .int v6 (I 9)).bind fun x1 =>
cond x1 (
(bin .mul .int v5 (.p (.v (.int .u64 256)))).bind fun x2 =>
(idxA 1 v0 v6).bind fun x3 =>
(ld false 1 x3 H).bind fun x4 =>
(conv (.int .u64) x4).bind fun x5 =>
(bin .add .int x2 x5).bind fun x6 =>
(bin .add .int v6 (I 1)).bind fun x7 =>
L27_16 [v0, v4, x6, x7] lo H) (
(idxA 1 v0 (I 0)).bind fun x8 =>
(ld false 1 x8 H).bind fun x9 =>
(conv (.int .i64) x9).bind fun x10 =>
(conv (.int .i64) v5).bind fun x11 =>
(buildA [(I 0), (I 0)] [(0, 1, x10), (1, 1, x11)]).bind fun x12 =>
(boxO [] [(I 0), (I 0)] H).bind fun r13 =>
((stA 2 r13.1 x12 lo r13.2).map fun H' => (undefA, H')).bind fun r14 =>
(ld true 2 r13.1 r14.2).bind fun x15 =>
(callA cfg O 82 [x15] lo r14.2).bind fun r16 =>
(cutA 1 v0 none (some (I 13)) none r16.2).bind fun x17 =>
(callA cfg O 81 [r16.1, x17] lo r16.2).bind fun r18 =>
(un .not r18.1).bind fun x19 =>
cond x19 (
leave 0 lo [.p nilS, I 11] r18.2) (
(ld true 2 r13.1 r18.2).bind fun x20 =>
(callA cfg O 83 [x20] lo r18.2).bind fun r21 =>
(bin .neq .int r21.1 (I 0)).bind fun x22 =>
cond x22 (
leave 0 lo [.p nilS, I 3] r21.2) (
(ld true 2 r13.1 r21.2).bind fun x23 =>
(litA false 2 [x23] r21.2).bind fun r24 =>
(appA 2 16 v4 r24.1 r24.2).bind fun r25 =>
(cutA 1 v0 (some (I 13)) none none r25.2).bind fun x26 =>
L27_10 [x26, r25.1] lo r25.2)))) := by
  show O.lab _ _ _ _ _ _ = _
  rw [O_lab]
  kernel_rfl
theorem f27_eq (a0 : AV) : O.ent 27 [a0] [] [] = (
(lenA .slice a0 []).bind fun x1 =>
(bin .gtr .int x1 (I 4000)).bind fun x2 =>
cond x2 (
leave 0 [] [.p nilS, I 2] []) (
L27_10 [a0, .p nilS] [] [])) := by
  rw [O_ent]
  kernel_rfl
-- backstitch/backstitchref4.SameVals
noncomputable def T28_10 : List It := labAt Try.prog cfg 28 10 (fun _ => none)
noncomputable def L28_10 (vals : List AV) (lo : List Nat) (H : Heap) : Res := O.lab 28 [0, 1, 5] (T28_10) vals lo H
theorem L28_10_eq (lo : List Nat) (v0 v1 v5 : AV) (H : Heap) : L28_10 [v0, v1, v5] lo H = (
(lenA .slice v0 H).bind fun x1 =>
(bin .lss .int v5 x1).bind fun x2 =>
cond x2 (
(idxA 2 v0 v5).bind fun x3 =>
(ld true 2 x3 H).bind fun x4 =>
(idxA 2 v1 v5).bind fun x5 =>
(ld true 2 x5 H).bind fun x6 =>
(bin .neq (.agg 2 [(0, .int), (1, .int)]) x4 x6).bind fun x7 =>
cond x7 (
leave 0 lo [B false] H) (
(bin .add .int v5 (I 1)).bind fun x8 =>
L28_10 [v0, v1, x8] lo H)) (
leave 0 lo [B true] H)) := by
  show O.lab _ _ _ _ _ _ = _
  rw [O_lab]
  kernel_rfl
theorem f28_eq (a0 a1 : AV) : O.ent 28 [a0, a1] [] [] = (
(lenA .slice a0 []).bind fun x1 =>
(lenA .slice a1 []).bind fun x2 =>
(bin .neq .int x1 x2).bind fun x3 =>
cond x3 (
leave 0 [] [B false] []) (
L28_10 [a0, a1, I 0] [] [])) := by
  rw [O_ent]
  kernel_rfl
-- backstitch/spool.one
theorem f80_eq (a0 : AV) : O.ent 80 [a0] [] [] = (
(boxO [] [(I 0), (I 0)] []).bind fun r1 =>
(cutA 1 a0 (some (I 9)) none none r1.2).bind fun x2 =>
(callA cfg O 130 [x2] [] r1.2).bind fun r3 =>
(cutA 1 a0 none (some (I 9)) none r3.2).bind fun x4 =>
(callA cfg O 131 [x4] [] r3.2).bind fun r5 =>
(conv (.int .u64) r5.1).bind fun x6 =>
(bin .neq .int r3.1 x6).bind fun x7 =>
cond x7 (
(buildA [(I 0), (I 0)] []).bind fun x8 =>
((stA 2 r1.1 x8 [] r5.2).map fun H' => (undefA, H')).bind fun r9 =>
((ld true 2 r1.1 r9.2).bind fun x11 => ((some []).map fun q13 => I 11 :: q13).map fun q12 => x11 :: q12).bind fun xs10 => leave 0 [] xs10 r9.2) (
(idxA 1 a0 (I 0)).bind fun x14 =>
(ld false 1 x14 r5.2).bind fun x15 =>
(conv (.int .i64) x15).bind fun x16 =>
(cutA 1 a0 (some (I 1)) (some (I 9)) none r5.2).bind fun x17 =>
(callA cfg O 130 [x17] [] r5.2).bind fun r18 =>
(conv (.int .i64) r18.1).bind fun x19 =>
(buildA [(I 0), (I 0)] [(0, 1, x16), (1, 1, x19)]).bind fun x20 =>
(boxO [] [(I 0), (I 0)] r18.2).bind fun r21 =>
((stA 2 r21.1 x20 [] r21.2).map fun H' => (undefA, H')).bind fun r22 =>
(ld true 2 r21.1 r22.2).bind fun x23 =>
(callA cfg O 132 [x23] [] r22.2).bind fun r24 =>
(bin .neq .int r24.1 (I 0)).bind fun x25 =>
cond x25 (
(buildA [(I 0), (I 0)] []).bind fun x26 =>
((stA 2 r1.1 x26 [] r24.2).map fun H' => (undefA, H')).bind fun r27 =>
((ld true 2 r1.1 r27.2).bind fun x29 => ((some []).map fun q31 => I 3 :: q31).map fun q30 => x29 :: q30).bind fun xs28 => leave 0 [] xs28 r27.2) (
(ld true 2 r21.1 r24.2).bind fun x32 =>
((stA 2 r1.1 x32 [] r24.2).map fun H' => (undefA, H')).bind fun r33 =>
((ld true 2 r1.1 r33.2).bind fun x35 => ((some []).map fun q37 => I 0 :: q37).map fun q36 => x35 :: q36).bind fun xs34 => leave 0 [] xs34 r33.2))) := by
  rw [O_ent]
  kernel_rfl
-- backstitch/backstitchref4.SameBytes
noncomputable def T81_10 : List It := labAt Try.prog cfg 81 10 (fun _ => none)
noncomputable def L81_10 (vals : List AV) (lo : List Nat) (H : Heap) : Res := O.lab 81 [0, 1, 5] (T81_10) vals lo H
theorem L81_10_eq (lo : List Nat) (v0 v1 v5 : AV) (H : Heap) : L81_10 [v0, v1, v5] lo H = (
(lenA .slice v0 H).bind fun x1 =>
(bin .lss .int v5 x1).bind fun x2 =>
cond x2 (
(idxA 1 v0 v5).bind fun x3 =>
(ld false 1 x3 H).bind fun x4 =>
(idxA 1 v1 v5).bind fun x5 =>
(ld false 1 x5 H).bind fun x6 =>
(bin .neq .int x4 x6).bind fun x7 =>
cond x7 (
leave 0 lo [B false] H) (
(bin .add .int v5 (I 1)).bind fun x8 =>
L81_10 [v0, v1, x8] lo H)) (
leave 0 lo [B true] H)) := by
  show O.lab _ _ _ _ _ _ = _
  rw [O_lab]
  kernel_rfl
theorem f81_eq (a0 a1 : AV) : O.ent 81 [a0, a1] [] [] = (
(lenA .slice a0 []).bind fun x1 =>
(lenA .slice a1 []).bind fun x2 =>
(bin .neq .int x1 x2).bind fun x3 =>
cond x3 (
leave 0 [] [B false] []) (
L81_10 [a0, a1, I 0] [] [])) := by
  rw [O_ent]
  kernel_rfl
-- backstitch/backstitchref4.SpoolRecord
noncomputable def T82_12 : List It := labAt Try.prog cfg 82 12 (fun _ => none)
noncomputable def L82_12 (vals : List AV) (lo : List Nat) (H : Heap) : Res := O.lab 82 [3, 4, 5] (T82_12) vals lo H
noncomputable def T82_24 : List It := labAt Try.prog cfg 82 24 (fun _ => none)
noncomputable def L82_24 (vals : List AV) (lo : List Nat) (H : Heap) : Res := O.lab 82 [3, 6, 7] (T82_24) vals lo H
theorem L82_12_eq (lo : List Nat) (v3 v4 v5 : AV) (H : Heap) : L82_12 [v3, v4, v5] lo H = (
(bin .gtr .int v5 (I 0)).bind fun x1 =>
cond x1 (
(bin .rem .int v4 (.p (.v (.int .u64 256)))).bind fun x2 =>
(conv (.int .u8) x2).bind fun x3 =>
(idxA 1 v3 v5).bind fun x4 =>
((stA 1 x4 x3 lo H).map fun H' => (undefA, H')).bind fun r5 =>
(bin .quo .int v4 (.p (.v (.int .u64 256)))).bind fun x6 =>
(bin .sub .int v5 (I 1)).bind fun x7 =>
L82_12 [v3, x6, x7] lo r5.2) (
(cutA 1 v3 none (some (I 9)) none H).bind fun x8 =>
(callA cfg O 133 [x8] lo H).bind fun r9 =>
L82_24 [v3, r9.1, I 12] lo r9.2)) := by
  show O.lab _ _ _ _ _ _ = _
  rw [O_lab]
  kernel_rfl
theorem L82_24_eq (lo : List Nat) (v3 v6 v7 : AV) (H : Heap) : L82_24 [v3, v6, v7] lo H = (
(bin .gtr .int v7 (I 8)).bind fun x1 =>
cond x1 (
(bin .rem .int v6 (I 256)).bind fun x2 =>
(conv (.int .u8) x2).bind fun x3 =>
(idxA 1 v3 v7).bind fun x4 =>
((stA 1 x4 x3 lo H).map fun H' => (undefA, H')).bind fun r5 =>
(bin .quo .int v6 (I 256)).bind fun x6 =>
(bin .sub .int v7 (I 1)).bind fun x7 =>
L82_24 [v3, x6, x7] lo r5.2) (
leave 0 lo [v3] H)) := by
  show O.lab _ _ _ _ _ _ = _
  rw [O_lab]
  kernel_rfl
theorem f82_eq (a0 : AV) : O.ent 82 [a0] [] [] = (
(boxO [] (AV.cells a0) []).bind fun r1 =>
(mkRow 1 1 [(.v (.int .u8 0))] (I 13) (I 13) r1.2).bind fun r2 =>
(fldA 0 r1.1).bind fun x3 =>
(ld false 1 x3 r2.2).bind fun x4 =>
(conv (.int .u8) x4).bind fun x5 =>
(idxA 1 r2.1 (I 0)).bind fun x6 =>
((stA 1 x6 x5 [] r2.2).map fun H' => (undefA, H')).bind fun r7 =>
(fldA 1 r1.1).bind fun x8 =>
(ld false 1 x8 r7.2).bind fun x9 =>
(conv (.int .u64) x9).bind fun x10 =>
L82_12 [r2.1, x10, I 8] [] r7.2) := by
  rw [O_ent]
  kernel_rfl
-- backstitch/backstitchref4.SpoolErr
theorem f83_eq (a0 : AV) : O.ent 83 [a0] [] [] = (
(boxO [] (AV.cells a0) []).bind fun r1 =>
(fldA 0 r1.1).bind fun x2 =>
(ld false 1 x2 r1.2).bind fun x3 =>
(bin .lss .int x3 (I 0)).bind fun x4 =>
(gd x4 false (fldA 0 r1.1)).bind fun x5 =>
(gd x4 false (ld false 1 x5 r1.2)).bind fun x6 =>
(gd x4 false (bin .gtr .int x6 (I 4))).bind fun x7 =>
(pickA x4 (B true) x7).bind fun x8 =>
cond x8 (
leave 0 [] [I 7] r1.2) (
(fldA 0 r1.1).bind fun x9 =>
(ld false 1 x9 r1.2).bind fun x10 =>
(bin .eql .int x10 (I 0)).bind fun x11 =>
(gd x11 true (fldA 1 r1.1)).bind fun x12 =>
(gd x11 true (ld false 1 x12 r1.2)).bind fun x13 =>
(gd x11 true (bin .neq .int x13 (I 0))).bind fun x14 =>
(pickA x11 x14 (B false)).bind fun x15 =>
(gd x15 false (fldA 0 r1.1)).bind fun x16 =>
(gd x15 false (ld false 1 x16 r1.2)).bind fun x17 =>
(gd x15 false (bin .eql .int x17 (I 1))).bind fun x18 =>
(gd x15 false (some x18)).bind fun x19 =>
(gd x19 true (fldA 1 r1.1)).bind fun x20 =>
(gd x19 true (ld false 1 x20 r1.2)).bind fun x21 =>
(gdH x19 true (callA cfg O 61 [x21, I 0, I 1] [] r1.2) r1.2).bind fun r22 =>
(gd x19 true (un .not r22.1)).bind fun x23 =>
(gd x15 false (pickA x19 x23 (B false))).bind fun x24 =>
(pickA x15 (B true) x24).bind fun x25 =>
(gd x25 false (fldA 0 r1.1)).bind fun x26 =>
(gd x25 false (ld false 1 x26 r22.2)).bind fun x27 =>
(gd x25 false (bin .eql .int x27 (I 2))).bind fun x28 =>
(gd x25 false (some x28)).bind fun x29 =>
(gd x29 true (fldA 1 r1.1)).bind fun x30 =>
(gd x29 true (ld false 1 x30 r22.2)).bind fun x31 =>
(gdH x29 true (callA cfg O 61 [x31, I (-2147483648), I 2147483647] [] r22.2) r22.2).bind fun r32 =>
(gd x29 true (un .not r32.1)).bind fun x33 =>
(gd x25 false (pickA x29 x33 (B false))).bind fun x34 =>
(pickA x25 (B true) x34).bind fun x35 =>
(gd x35 false (fldA 0 r1.1)).bind fun x36 =>
(gd x35 false (ld false 1 x36 r32.2)).bind fun x37 =>
(gd x35 false (bin .eql .int x37 (I 4))).bind fun x38 =>
(gd x35 false (some x38)).bind fun x39 =>
(gd x39 true (fldA 1 r1.1)).bind fun x40 =>
(gd x39 true (ld false 1 x40 r32.2)).bind fun x41 =>
(gdH x39 true (callA cfg O 61 [x41, I 0, I 299] [] r32.2) r32.2).bind fun r42 =>
(gd x39 true (un .not r42.1)).bind fun x43 =>
(gd x35 false (pickA x39 x43 (B false))).bind fun x44 =>
(pickA x35 (B true) x44).bind fun x45 =>
cond x45 (
leave 0 [] [I 1] r42.2) (
leave 0 [] [I 0] r42.2))) := by
  rw [O_ent]
  kernel_rfl
-- backstitch/spool.number
noncomputable def T130_6 : List It := labAt Try.prog cfg 130 6 (fun _ => none)
noncomputable def L130_6 (vals : List AV) (lo : List Nat) (H : Heap) : Res := O.lab 130 [2, 5, 6, 7] (T130_6) vals lo H
theorem L130_6_eq (lo : List Nat) (v2 v5 v6 v7 : AV) (H : Heap) : L130_6 [v2, v5, v6, v7] lo H = (
(bin .lss .int v7 v6).bind fun x1 =>
cond x1 (
(idxA 1 v5 v7).bind fun x2 =>
(ld false 1 x2 H).bind fun x3 =>
(bin .shl .int v2 (.p (.v (.int .u64 8)))).bind fun x4 =>
(conv (.int .u64) x3).bind fun x5 =>
(bin .or .int x4 x5).bind fun x6 =>
(bin .add .int v7 (I 1)).bind fun x7 =>
L130_6 [x6, v5, v6, x7] lo H) (
leave 0 lo [v2] H)) := by
  show O.lab _ _ _ _ _ _ = _
  rw [O_lab]
  kernel_rfl
theorem f130_eq (a0 : AV) : O.ent 130 [a0] [] [] = (
(lenA .slice a0 []).bind fun x1 =>
L130_6 [.p (.v (.int .u64 0)), a0, x1, I 0] [] []) := by
  rw [O_ent]
  kernel_rfl
-- backstitch/spool.sum
noncomputable def T131_8 : List It := labAt Try.prog cfg 131 8 (fun _ => none)
noncomputable def L131_8 (vals : List AV) (lo : List Nat) (H : Heap) : Res := O.lab 131 [3, 6, 7, 8] (T131_8) vals lo H
theorem L131_8_eq (lo : List Nat) (v3 v6 v7 v8 : AV) (H : Heap) : L131_8 [v3, v6, v7, v8] lo H = (
(bin .lss .int v8 v7).bind fun x1 =>
cond x1 (
(idxA 1 v6 v8).bind fun x2 =>
(ld false 1 x2 H).bind fun x3 =>
(conv (.int .u32) x3).bind fun x4 =>
(bin .xor .int v3 x4).bind fun x5 =>
(bin .mul .int x5 (.p (.v (.int .u32 16777619)))).bind fun x6 =>
(bin .add .int v8 (I 1)).bind fun x7 =>
L131_8 [x6, v6, v7, x7] lo H) (
leave 0 lo [v3] H)) := by
  show O.lab _ _ _ _ _ _ = _
  rw [O_lab]
  kernel_rfl
theorem f131_eq (a0 : AV) : O.ent 131 [a0] [] [] = (
(lenA .slice a0 []).bind fun x1 =>
L131_8 [.p (.v (.int .u32 2166136261)), a0, x1, I 0] [] []) := by
  rw [O_ent]
  kernel_rfl
-- backstitch/spool.right
noncomputable def T132_29 : List It := labAt Try.prog cfg 132 29 (fun _ => none)
noncomputable def L132_29 (vals : List AV) (lo : List Nat) (H : Heap) : Res := O.lab 132 [1, 3, 4] (T132_29) vals lo H
theorem L132_29_eq (lo : List Nat) (v1 v3 v4 : AV) (H : Heap) : L132_29 [v1, v3, v4] lo H = (
(fldA 1 v1).bind fun x1 =>
(ld false 1 x1 H).bind fun x2 =>
(bin .lss .int x2 v3).bind fun x3 =>
(gd x3 false (fldA 1 v1)).bind fun x4 =>
(gd x3 false (ld false 1 x4 H)).bind fun x5 =>
(gd x3 false (some v4)).bind fun x6 =>
(gd x3 false (bin .gtr .int x5 x6)).bind fun x7 =>
(pickA x3 (B true) x7).bind fun x8 =>
cond x8 (
leave 0 lo [I 1] H) (
leave 0 lo [I 0] H)) := by
  show O.lab _ _ _ _ _ _ = _
  rw [O_lab]
  kernel_rfl
theorem f132_eq (a0 : AV) : O.ent 132 [a0] [] [] = (
(boxO [] (AV.cells a0) []).bind fun r1 =>
(fldA 0 r1.1).bind fun x2 =>
(ld false 1 x2 r1.2).bind fun x3 =>
(bin .eql .int x3 (I 0)).bind fun x4 =>
cond x4 (
L132_29 [r1.1, I 0, I 0] [] r1.2) (
(bin .eql .int x3 (I 1)).bind fun x5 =>
cond x5 (
L132_29 [r1.1, I 0, I 1] [] r1.2) (
(bin .eql .int x3 (I 2)).bind fun x6 =>
cond x6 (
L132_29 [r1.1, I (-2147483648), I 2147483647] [] r1.2) (
(bin .eql .int x3 (I 3)).bind fun x7 =>
cond x7 (
leave 0 [] [I 0] r1.2) (
(bin .eql .int x3 (I 4)).bind fun x8 =>
cond x8 (
L132_29 [r1.1, I 0, I 299] [] r1.2) (
leave 0 [] [I 7] r1.2)))))) := by
  rw [O_ent]
  kernel_rfl
-- backstitch/backstitchref4.SpoolSum
noncomputable def T133_8 : List It := labAt Try.prog cfg 133 8 (fun _ => none)
noncomputable def L133_8 (vals : List AV) (lo : List Nat) (H : Heap) : Res := O.lab 133 [0, 3, 4] (T133_8) vals lo H
theorem L133_8_eq (lo : List Nat) (v0 v3 v4 : AV) (H : Heap) : L133_8 [v0, v3, v4] lo H = (
(lenA .slice v0 H).bind fun x1 =>
(bin .lss .int v4 x1).bind fun x2 =>
cond x2 (
(bin .rem .int v3 (I 256)).bind fun x3 =>
(bin .sub .int v3 x3).bind fun x4 =>
(idxA 1 v0 v4).bind fun x5 =>
(ld false 1 x5 H).bind fun x6 =>
(conv (.int .i64) x6).bind fun x7 =>
(bin .xor .int x3 x7).bind fun x8 =>
(bin .add .int x4 x8).bind fun x9 =>
(bin .mul .int x9 (I 16777619)).bind fun x10 =>
(bin .rem .int x10 (I 4294967296)).bind fun x11 =>
(bin .add .int v4 (I 1)).bind fun x12 =>
L133_8 [v0, x11, x12] lo H) (
leave 0 lo [v3] H)) := by
  show O.lab _ _ _ _ _ _ = _
  rw [O_lab]
  kernel_rfl
theorem f133_eq (a0 : AV) : O.ent 133 [a0] [] [] = (
L133_8 [a0, I 2166136261, I 0] [] []) := by
  rw [O_ent]
  kernel_rfl
end Go.Proofs.Ytangmjeafnkfaaa
