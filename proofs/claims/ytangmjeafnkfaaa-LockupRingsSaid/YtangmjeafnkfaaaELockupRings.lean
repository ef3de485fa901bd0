import Derived.Test.YtangmjeafnkfaaaCf
set_option linter.unusedVariables false
set_option maxRecDepth 100000
namespace Go.Proofs.Ytangmjeafnkfaaa
open Go Go.AM
-- backstitch/backstitchlaw4.LockupRings
noncomputable def T9_19 : List It := labAt Try.prog cfg 9 19 (fun _ => none)
noncomputable def L9_19 (vals : List AV) (lo : List Nat) (H : Heap) : Res := O.lab 9 [1, 5, 6, 7, 8, 9, 10, 11, 12, 13, 14, 15] (T9_19) vals lo H
noncomputable def T9_25 : List It := labAt Try.prog cfg 9 25 (fun _ => none)
noncomputable def L9_25 (vals : List AV) (lo : List Nat) (H : Heap) : Res := O.lab 9 [5, 6, 7, 8, 9, 10, 11, 12, 13, 14, 15] (T9_25) vals lo H
theorem L9_19_eq (lo : List Nat) (v1 v5 v6 v7 v8 v9 v10 v11 v12 v13 v14 v15 : AV) (H : Heap) : L9_19 [v1, v5, v6, v7, v8, v9, v10, v11, v12, v13, v14, v15] lo H = (
(lenA .slice v1 H).bind fun x1 =>
(bin .gtr .int x1 (I 200)).bind fun x2 =>
cond x2 (
L9_25 [v5, v6, v7, v8, v9, v10, v11, I 2, v13, v14, v15] lo H) (
(callA cfg O 42 [v1] lo H).bind fun r3 =>
(extractA r3.1 0).bind fun x4 =>
(extractA r3.1 1).bind fun x5 =>
L9_25 [v5, v6, v7, v8, v9, v10, v11, v12, v13, x4, x5] lo r3.2)) := by
  show O.lab _ _ _ _ _ _ = _
  rw [O_lab]
  kernel_rfl
theorem L9_25_eq (lo : List Nat) (v5 v6 v7 v8 v9 v10 v11 v12 v13 v14 v15 : AV) (H : Heap) : L9_25 [v5, v6, v7, v8, v9, v10, v11, v12, v13, v14, v15] lo H = (
(callA cfg O 17 [v5, v13] lo H).bind fun r1 =>
(gd r1.1 true (some v6)).bind fun x2 =>
(gd r1.1 true (some v13)).bind fun x3 =>
(gd r1.1 true (lenA .slice x3 r1.2)).bind fun x4 =>
(gd r1.1 true (bin .gtr .int x4 (I 0))).bind fun x5 =>
(gd r1.1 true (bin .eql .bool x2 x5)).bind fun x6 =>
(pickA r1.1 x6 (B false)).bind fun x7 =>
(gd x7 true (some v7)).bind fun x8 =>
(gd x7 true (some v11)).bind fun x9 =>
(gd x7 true (bin .eql .int x8 x9)).bind fun x10 =>
(pickA x7 x10 (B false)).bind fun x11 =>
(gd x11 true (some v8)).bind fun x12 =>
(gd x11 true (some v14)).bind fun x13 =>
(gdH x11 true (callA cfg O 17 [x12, x13] lo r1.2) r1.2).bind fun r14 =>
(pickA x11 r14.1 (B false)).bind fun x15 =>
(gd x15 true (some v9)).bind fun x16 =>
(gd x15 true (some v15)).bind fun x17 =>
(gd x15 true (bin .eql .bool x16 x17)).bind fun x18 =>
(pickA x15 x18 (B false)).bind fun x19 =>
(gd x19 true (some v10)).bind fun x20 =>
(gd x19 true (some v12)).bind fun x21 =>
(gd x19 true (bin .eql .int x20 x21)).bind fun x22 =>
(pickA x19 x22 (B false)).bind fun x23 =>
leave 0 lo [x23] r14.2) := by
  show O.lab _ _ _ _ _ _ = _
  rw [O_lab]
  kernel_rfl
theorem f9_eq (a0 a1 : AV) : O.ent 9 [a0, a1] [] [] = (
(callA cfg O 38 [a0] [] []).bind fun r1 =>
(extractA r1.1 0).bind fun x2 =>
(extractA r1.1 1).bind fun x3 =>
(extractA r1.1 2).bind fun x4 =>
(callA cfg O 39 [a1] [] r1.2).bind fun r5 =>
(extractA r5.1 0).bind fun x6 =>
(extractA r5.1 1).bind fun x7 =>
(extractA r5.1 2).bind fun x8 =>
(callA cfg O 40 [a0] [] r5.2).bind fun r9 =>
(bin .eql .int r9.1 (I 0)).bind fun x10 =>
cond x10 (
(callA cfg O 41 [a0] [] r9.2).bind fun r11 =>
L9_19 [a1, x2, x3, x4, x6, x7, x8, r9.1, I 0, r11.1, .p nilS, B false] [] r11.2) (
L9_19 [a1, x2, x3, x4, x6, x7, x8, r9.1, I 0, .p nilS, .p nilS, B false] [] r9.2)) := by
  rw [O_ent]
  kernel_rfl
-- backstitch/lockup.Ring
noncomputable def T38_12 : List It := labAt Try.prog cfg 38 12 (fun _ => none)
noncomputable def L38_12 (vals : List AV) (lo : List Nat) (H : Heap) : Res := O.lab 38 [5, 18, 19, 20] (T38_12) vals lo H
noncomputable def T38_32 : List It := labAt Try.prog cfg 38 32 (fun _ => none)
noncomputable def L38_32 (vals : List AV) (lo : List Nat) (H : Heap) : Res := O.lab 38 [5, 48] (T38_32) vals lo H
noncomputable def T38_53 : List It := labAt Try.prog cfg 38 53 (fun _ => none)
noncomputable def L38_53 (vals : List AV) (lo : List Nat) (H : Heap) : Res := O.lab 38 [5, 48] (T38_53) vals lo H
noncomputable def T38_40 : List It := labAt Try.prog cfg 38 40 (fun _ => none)
noncomputable def L38_40 (vals : List AV) (lo : List Nat) (H : Heap) : Res := O.lab 38 [5, 10, 11, 12, 13, 48] (T38_40) vals lo H
theorem L38_12_eq (lo : List Nat) (v5 v18 v19 v20 : AV) (H : Heap) : L38_12 [v5, v18, v19, v20] lo H = (
(bin .lss .int v20 v19).bind fun x1 =>
cond x1 (
(idxA 3 v18 v20).bind fun x2 =>
(ld true 3 x2 H).bind fun x3 =>
(boxO [] [(I 0), (I 0), (I 0)] H).bind fun r4 =>
((stA 3 r4.1 x3 lo r4.2).map fun H' => (undefA, H')).bind fun r5 =>
(fldA 0 r4.1).bind fun x6 =>
(ld false 1 x6 r5.2).bind fun x7 =>
(callA cfg O 93 [x7] lo r5.2).bind fun r8 =>
(un .not r8.1).bind fun x9 =>
(gd x9 false (fldA 1 r4.1)).bind fun x10 =>
(gd x9 false (ld false 1 x10 r8.2)).bind fun x11 =>
(gdH x9 false (callA cfg O 93 [x11] lo r8.2) r8.2).bind fun r12 =>
(gd x9 false (un .not r12.1)).bind fun x13 =>
(pickA x9 (B true) x13).bind fun x14 =>
cond x14 (
leave 0 lo [.p nilS, B false, I 1] r12.2) (
(fldA 0 r4.1).bind fun x15 =>
(ld false 1 x15 r12.2).bind fun x16 =>
(lookA .int (I 0) true v5 x16 r12.2).bind fun x17 =>
(extractA x17 0).bind fun x18 =>
(extractA x17 1).bind fun x19 =>
cond x19 (
leave 0 lo [.p nilS, B false, I 6] r12.2) (
(fldA 0 r4.1).bind fun x20 =>
(ld false 1 x20 r12.2).bind fun x21 =>
(fldA 1 r4.1).bind fun x22 =>
(ld false 1 x22 r12.2).bind fun x23 =>
((mapUpdA .int v5 x21 x23 lo r12.2).map fun H' => (undefA, H')).bind fun r24 =>
(bin .add .int v20 (I 1)).bind fun x25 =>
L38_12 [v5, v18, v19, x25] lo r24.2))) (
L38_32 [v5, I 0] lo H)) := by
  show O.lab _ _ _ _ _ _ = _
  rw [O_lab]
  kernel_rfl
theorem L38_32_eq (lo : List Nat) (v5 v48 : AV) (H : Heap) : L38_32 [v5, v48] lo H = (
(bin .lss .int v48 (I 8)).bind fun x1 =>
cond x1 (
(litA false 1 [v48] H).bind fun r2 =>
(lookA .int (I 0) true v5 v48 r2.2).bind fun x3 =>
(extractA x3 0).bind fun x4 =>
(extractA x3 1).bind fun x5 =>
L38_40 [v5, v48, r2.1, x4, x5, v48] lo r2.2) (
leave 0 lo [.p nilS, B false, I 0] H)) := by
  show O.lab _ _ _ _ _ _ = _
  rw [O_lab]
  kernel_rfl
theorem L38_53_eq (lo : List Nat) (v5 v48 : AV) (H : Heap) : L38_53 [v5, v48] lo H = (
(bin .add .int v48 (I 1)).bind fun x1 =>
L38_32 [v5, x1] lo H) := by
  show O.lab _ _ _ _ _ _ = _
  rw [O_lab]
  kernel_rfl
theorem L38_40_eq (lo : List Nat) (v5 v10 v11 v12 v13 v48 : AV) (H : Heap) : L38_40 [v5, v10, v11, v12, v13, v48] lo H = (
cond v13 (
(bin .eql .int v12 v10).bind fun x1 =>
cond x1 (
leave 0 lo [v11, B true, I 0] H) (
(callA cfg O 94 [v11, v12] lo H).bind fun r2 =>
cond r2.1 (
L38_53 [v5, v48] lo r2.2) (
(litA false 1 [v12] r2.2).bind fun r3 =>
(appA 1 8 v11 r3.1 r3.2).bind fun r4 =>
(lookA .int (I 0) true v5 v12 r4.2).bind fun x5 =>
(extractA x5 0).bind fun x6 =>
(extractA x5 1).bind fun x7 =>
L38_40 [v5, v10, r4.1, x6, x7, v48] lo r4.2))) (
L38_53 [v5, v48] lo H)) := by
  show O.lab _ _ _ _ _ _ = _
  rw [O_lab]
  kernel_rfl
theorem f38_eq (a0 : AV) : O.ent 38 [a0] [] [] = (
(lenA .slice a0 []).bind fun x1 =>
(bin .gtr .int x1 (I 8)).bind fun x2 =>
cond x2 (
leave 0 [] [.p nilS, B false, I 2] []) (
(some (mkMap [])).bind fun r3 =>
(lenA .slice a0 r3.2).bind fun x4 =>
L38_12 [r3.1, a0, x4, I 0] [] r3.2)) := by
  rw [O_ent]
  kernel_rfl
-- backstitch/lockup.Rank
noncomputable def T39_12 : List It := labAt Try.prog cfg 39 12 (fun _ => none)
noncomputable def L39_12 (vals : List AV) (lo : List Nat) (H : Heap) : Res := O.lab 39 [0, 5, 19, 20, 21] (T39_12) vals lo H
noncomputable def T39_24 : List It := labAt Try.prog cfg 39 24 (fun _ => none)
noncomputable def L39_24 (vals : List AV) (lo : List Nat) (H : Heap) : Res := O.lab 39 [0, 5, 8] (T39_24) vals lo H
noncomputable def T39_30 : List It := labAt Try.prog cfg 39 30 (fun _ => none)
noncomputable def L39_30 (vals : List AV) (lo : List Nat) (H : Heap) : Res := O.lab 39 [0, 5, 8, 9, 10, 40] (T39_30) vals lo H
noncomputable def T39_48 : List It := labAt Try.prog cfg 39 48 (fun _ => none)
noncomputable def L39_48 (vals : List AV) (lo : List Nat) (H : Heap) : Res := O.lab 39 [0, 5, 8, 9, 66, 67, 68] (T39_48) vals lo H
noncomputable def T39_57 : List It := labAt Try.prog cfg 39 57 (fun _ => none)
noncomputable def L39_57 (vals : List AV) (lo : List Nat) (H : Heap) : Res := O.lab 39 [0, 5, 8, 9, 66, 67, 68] (T39_57) vals lo H
theorem L39_12_eq (lo : List Nat) (v0 v5 v19 v20 v21 : AV) (H : Heap) : L39_12 [v0, v5, v19, v20, v21] lo H = (
(bin .lss .int v21 v20).bind fun x1 =>
cond x1 (
(idxA 2 v19 v21).bind fun x2 =>
(ld true 2 x2 H).bind fun x3 =>
(boxO [] [(I 0), (I 0)] H).bind fun r4 =>
((stA 2 r4.1 x3 lo r4.2).map fun H' => (undefA, H')).bind fun r5 =>
(fldA 0 r4.1).bind fun x6 =>
(ld false 1 x6 r5.2).bind fun x7 =>
(lookA .int (I 0) false v5 x7 r5.2).bind fun x8 =>
(bin .add .int x8 (I 0)).bind fun x9 =>
((mapUpdA .int v5 x7 x9 lo r5.2).map fun H' => (undefA, H')).bind fun r10 =>
(fldA 1 r4.1).bind fun x11 =>
(ld false 1 x11 r10.2).bind fun x12 =>
(lookA .int (I 0) false v5 x12 r10.2).bind fun x13 =>
(bin .add .int x13 (I 1)).bind fun x14 =>
((mapUpdA .int v5 x12 x14 lo r10.2).map fun H' => (undefA, H')).bind fun r15 =>
(bin .add .int v21 (I 1)).bind fun x16 =>
L39_12 [v0, v5, v19, v20, x16] lo r15.2) (
L39_24 [v0, v5, .p nilS] lo H)) := by
  show O.lab _ _ _ _ _ _ = _
  rw [O_lab]
  kernel_rfl
theorem L39_24_eq (lo : List Nat) (v0 v5 v8 : AV) (H : Heap) : L39_24 [v0, v5, v8] lo H = (
(lenA .map v5 H).bind fun x1 =>
(bin .gtr .int x1 (I 0)).bind fun x2 =>
cond x2 (
(rangeA v5 H).bind fun r3 =>
L39_30 [v0, v5, v8, I 0, B false, r3.1] lo r3.2) (
leave 0 lo [v8, B true, I 0] H)) := by
  show O.lab _ _ _ _ _ _ = _
  rw [O_lab]
  kernel_rfl
theorem L39_30_eq (lo : List Nat) (v0 v5 v8 v9 v10 v40 : AV) (H : Heap) : L39_30 [v0, v5, v8, v9, v10, v40] lo H = (
(nextA v40 H).bind fun l1 =>
agree l1 fun x2 H3 =>
(extractA x2 0).bind fun x4 =>
cond x4 (
(entryA v40 H3).bind fun x5 =>
(extractA x5 0).bind fun x6 =>
(extractA x5 1).bind fun x7 =>
(bin .eql .int x7 (I 0)).bind fun x8 =>
(gd x8 true (some v10)).bind fun x9 =>
(gd x8 true (un .not x9)).bind fun x10 =>
(gd x8 true (some x10)).bind fun x11 =>
(gd x11 false (some x6)).bind fun x12 =>
(gd x11 false (some v9)).bind fun x13 =>
(gd x11 false (bin .lss .int x12 x13)).bind fun x14 =>
(gd x8 true (pickA x11 (B true) x14)).bind fun x15 =>
(pickA x8 x15 (B false)).bind fun x16 =>
cond x16 (
L39_30 [v0, v5, v8, x6, B true, v40] lo H3) (
L39_30 [v0, v5, v8, v9, v10, v40] lo H3)) (
(un .not v10).bind fun x17 =>
cond x17 (
leave 0 lo [.p nilS, B false, I 0] H3) (
(litA false 1 [v9] H3).bind fun r18 =>
(appA 1 8 v8 r18.1 r18.2).bind fun r19 =>
((delA .int v5 v9 r19.2).map fun H' => (undefA, H')).bind fun r20 =>
(lenA .slice v0 r20.2).bind fun x21 =>
L39_48 [v0, v5, r19.1, v9, v0, x21, I 0] lo r20.2))) := by
  show O.lab _ _ _ _ _ _ = _
  rw [O_lab]
  kernel_rfl
theorem L39_48_eq (lo : List Nat) (v0 v5 v8 v9 v66 v67 v68 : AV) (H : Heap) : L39_48 [v0, v5, v8, v9, v66, v67, v68] lo H = (
(bin .lss .int v68 v67).bind fun x1 =>
cond x1 (
(idxA 2 v66 v68).bind fun x2 =>
(ld true 2 x2 H).bind fun x3 =>
(boxO [] [(I 0), (I 0)] H).bind fun r4 =>
((stA 2 r4.1 x3 lo r4.2).map fun H' => (undefA, H')).bind fun r5 =>
(fldA 0 r4.1).bind fun x6 =>
(ld false 1 x6 r5.2).bind fun x7 =>
(bin .eql .int x7 v9).bind fun x8 =>
cond x8 (
(fldA 1 r4.1).bind fun x9 =>
(ld false 1 x9 r5.2).bind fun x10 =>
(lookA .int (I 0) false v5 x10 r5.2).bind fun x11 =>
(bin .sub .int x11 (I 1)).bind fun x12 =>
((mapUpdA .int v5 x10 x12 lo r5.2).map fun H' => (undefA, H')).bind fun r13 =>
L39_57 [v0, v5, v8, v9, v66, v67, v68] lo r13.2) (
L39_57 [v0, v5, v8, v9, v66, v67, v68] lo r5.2)) (
L39_24 [v0, v5, v8] lo H)) := by
  show O.lab _ _ _ _ _ _ = _
  rw [O_lab]
  kernel_rfl
theorem L39_57_eq (lo : List Nat) (v0 v5 v8 v9 v66 v67 v68 : AV) (H : Heap) : L39_57 [v0, v5, v8, v9, v66, v67, v68] lo H = (
(bin .add .int v68 (I 1)).bind fun x1 =>
L39_48 [v0, v5, v8, v9, v66, v67, x1] lo H) := by
  show O.lab _ _ _ _ _ _ = _
  rw [O_lab]
  kernel_rfl
theorem f39_eq (a0 : AV) : O.ent 39 [a0] [] [] = (
(lenA .slice a0 []).bind fun x1 =>
(bin .gtr .int x1 (I 200)).bind fun x2 =>
cond x2 (
leave 0 [] [.p nilS, B false, I 2] []) (
(some (mkMap [])).bind fun r3 =>
(lenA .slice a0 r3.2).bind fun x4 =>
L39_12 [a0, r3.1, a0, x4, I 0] [] r3.2)) := by
  rw [O_ent]
  kernel_rfl
-- backstitch/backstitchref4.RingErr
noncomputable def T40_10 : List It := labAt Try.prog cfg 40 10 (fun _ => none)
noncomputable def L40_10 (vals : List AV) (lo : List Nat) (H : Heap) : Res := O.lab 40 [0, 3] (T40_10) vals lo H
noncomputable def T40_20 : List It := labAt Try.prog cfg 40 20 (fun _ => none)
noncomputable def L40_20 (vals : List AV) (lo : List Nat) (H : Heap) : Res := O.lab 40 [0, 3, 4] (T40_20) vals lo H
theorem L40_10_eq (lo : List Nat) (v0 v3 : AV) (H : Heap) : L40_10 [v0, v3] lo H = (
(lenA .slice v0 H).bind fun x1 =>
(bin .lss .int v3 x1).bind fun x2 =>
cond x2 (
(idxA 3 v0 v3).bind fun x3 =>
(fldA 0 x3).bind fun x4 =>
(ld false 1 x4 H).bind fun x5 =>
(callA cfg O 61 [x5, I 0, I 7] lo H).bind fun r6 =>
(un .not r6.1).bind fun x7 =>
(gd x7 false (some v0)).bind fun x8 =>
(gd x7 false (some v3)).bind fun x9 =>
(gd x7 false (idxA 3 x8 x9)).bind fun x10 =>
(gd x7 false (fldA 1 x10)).bind fun x11 =>
(gd x7 false (ld false 1 x11 r6.2)).bind fun x12 =>
(gdH x7 false (callA cfg O 61 [x12, I 0, I 7] lo r6.2) r6.2).bind fun r13 =>
(gd x7 false (un .not r13.1)).bind fun x14 =>
(pickA x7 (B true) x14).bind fun x15 =>
cond x15 (
leave 0 lo [I 1] r13.2) (
L40_20 [v0, v3, I 0] lo r13.2)) (
leave 0 lo [I 0] H)) := by
  show O.lab _ _ _ _ _ _ = _
  rw [O_lab]
  kernel_rfl
theorem L40_20_eq (lo : List Nat) (v0 v3 v4 : AV) (H : Heap) : L40_20 [v0, v3, v4] lo H = (
(bin .lss .int v4 v3).bind fun x1 =>
cond x1 (
(idxA 3 v0 v4).bind fun x2 =>
(fldA 0 x2).bind fun x3 =>
(ld false 1 x3 H).bind fun x4 =>
(idxA 3 v0 v3).bind fun x5 =>
(fldA 0 x5).bind fun x6 =>
(ld false 1 x6 H).bind fun x7 =>
(bin .eql .int x4 x7).bind fun x8 =>
cond x8 (
leave 0 lo [I 6] H) (
(bin .add .int v4 (I 1)).bind fun x9 =>
L40_20 [v0, v3, x9] lo H)) (
(bin .add .int v3 (I 1)).bind fun x10 =>
L40_10 [v0, x10] lo H)) := by
  show O.lab _ _ _ _ _ _ = _
  rw [O_lab]
  kernel_rfl
theorem f40_eq (a0 : AV) : O.ent 40 [a0] [] [] = (
(lenA .slice a0 []).bind fun x1 =>
(bin .gtr .int x1 (I 8)).bind fun x2 =>
cond x2 (
leave 0 [] [I 2] []) (
L40_10 [a0, I 0] [] [])) := by
  rw [O_ent]
  kernel_rfl
-- backstitch/backstitchref4.LockRing
noncomputable def T41_6 : List It := labAt Try.prog cfg 41 6 (fun _ => none)
noncomputable def L41_6 (vals : List AV) (lo : List Nat) (H : Heap) : Res := O.lab 41 [0, 3] (T41_6) vals lo H
noncomputable def T41_16 : List It := labAt Try.prog cfg 41 16 (fun _ => none)
noncomputable def L41_16 (vals : List AV) (lo : List Nat) (H : Heap) : Res := O.lab 41 [0, 3, 4, 5, 6] (T41_16) vals lo H
theorem L41_6_eq (lo : List Nat) (v0 v3 : AV) (H : Heap) : L41_6 [v0, v3] lo H = (
(bin .lss .int v3 (I 8)).bind fun x1 =>
cond x1 (
L41_16 [v0, v3, .p nilS, v3, I 0] lo H) (
leave 0 lo [.p nilS] H)) := by
  show O.lab _ _ _ _ _ _ = _
  rw [O_lab]
  kernel_rfl
theorem L41_16_eq (lo : List Nat) (v0 v3 v4 v5 v6 : AV) (H : Heap) : L41_16 [v0, v3, v4, v5, v6] lo H = (
(bin .lss .int v6 (I 9)).bind fun x1 =>
(gd x1 true (some v5)).bind fun x2 =>
(gd x1 true (bin .geq .int x2 (I 0))).bind fun x3 =>
(pickA x1 x3 (B false)).bind fun x4 =>
cond x4 (
(litA false 1 [v5] H).bind fun r5 =>
(appA 1 8 v4 r5.1 r5.2).bind fun r6 =>
(callA cfg O 95 [v0, v5] lo r6.2).bind fun r7 =>
(bin .eql .int r7.1 v3).bind fun x8 =>
cond x8 (
leave 0 lo [r6.1] r7.2) (
(bin .add .int v6 (I 1)).bind fun x9 =>
L41_16 [v0, v3, r6.1, r7.1, x9] lo r7.2)) (
(bin .add .int v3 (I 1)).bind fun x10 =>
L41_6 [v0, x10] lo H)) := by
  show O.lab _ _ _ _ _ _ = _
  rw [O_lab]
  kernel_rfl
theorem f41_eq (a0 : AV) : O.ent 41 [a0] [] [] = (
L41_6 [a0, I 0] [] []) := by
  rw [O_ent]
  kernel_rfl
-- backstitch/backstitchref4.LockRank
noncomputable def T42_8 : List It := labAt Try.prog cfg 42 8 (fun _ => none)
noncomputable def L42_8 (vals : List AV) (lo : List Nat) (H : Heap) : Res := O.lab 42 [0, 4, 5, 6] (T42_8) vals lo H
noncomputable def T42_11 : List It := labAt Try.prog cfg 42 11 (fun _ => none)
noncomputable def L42_11 (vals : List AV) (lo : List Nat) (H : Heap) : Res := O.lab 42 [0, 4, 5, 6] (T42_11) vals lo H
noncomputable def T42_17 : List It := labAt Try.prog cfg 42 17 (fun _ => none)
noncomputable def L42_17 (vals : List AV) (lo : List Nat) (H : Heap) : Res := O.lab 42 [0, 4, 5, 6] (T42_17) vals lo H
noncomputable def T42_20 : List It := labAt Try.prog cfg 42 20 (fun _ => none)
noncomputable def L42_20 (vals : List AV) (lo : List Nat) (H : Heap) : Res := O.lab 42 [0, 4, 5] (T42_20) vals lo H
noncomputable def T42_26 : List It := labAt Try.prog cfg 42 26 (fun _ => none)
noncomputable def L42_26 (vals : List AV) (lo : List Nat) (H : Heap) : Res := O.lab 42 [0, 4, 5, 7, 8, 9] (T42_26) vals lo H
noncomputable def T42_29 : List It := labAt Try.prog cfg 42 29 (fun _ => none)
noncomputable def L42_29 (vals : List AV) (lo : List Nat) (H : Heap) : Res := O.lab 42 [0, 4, 5, 7, 8, 9] (T42_29) vals lo H
noncomputable def T42_34 : List It := labAt Try.prog cfg 42 34 (fun _ => none)
noncomputable def L42_34 (vals : List AV) (lo : List Nat) (H : Heap) : Res := O.lab 42 [0, 4, 5, 7, 8, 9, 10, 11] (T42_34) vals lo H
noncomputable def T42_37 : List It := labAt Try.prog cfg 42 37 (fun _ => none)
noncomputable def L42_37 (vals : List AV) (lo : List Nat) (H : Heap) : Res := O.lab 42 [0, 4, 5, 7, 8, 9, 10, 11] (T42_37) vals lo H
theorem L42_8_eq (lo : List Nat) (v0 v4 v5 v6 : AV) (H : Heap) : L42_8 [v0, v4, v5, v6] lo H = (
(lenA .slice v0 H).bind fun x1 =>
(bin .lss .int v6 x1).bind fun x2 =>
cond x2 (
(idxA 2 v0 v6).bind fun x3 =>
(fldA 0 x3).bind fun x4 =>
(ld false 1 x4 H).bind fun x5 =>
(callA cfg O 96 [v4, x5] lo H).bind fun r6 =>
(un .not r6.1).bind fun x7 =>
cond x7 (
(idxA 2 v0 v6).bind fun x8 =>
(fldA 0 x8).bind fun x9 =>
(ld false 1 x9 r6.2).bind fun x10 =>
(litA false 1 [x10] r6.2).bind fun r11 =>
(appA 1 8 v4 r11.1 r11.2).bind fun r12 =>
L42_17 [v0, r12.1, v5, v6] lo r12.2) (
L42_17 [v0, v4, v5, v6] lo r6.2)) (
L42_20 [v0, v4, v5] lo H)) := by
  show O.lab _ _ _ _ _ _ = _
  rw [O_lab]
  kernel_rfl
theorem L42_11_eq (lo : List Nat) (v0 v4 v5 v6 : AV) (H : Heap) : L42_11 [v0, v4, v5, v6] lo H = (
(bin .add .int v6 (I 1)).bind fun x1 =>
L42_8 [v0, v4, v5, x1] lo H) := by
  show O.lab _ _ _ _ _ _ = _
  rw [O_lab]
  kernel_rfl
theorem L42_17_eq (lo : List Nat) (v0 v4 v5 v6 : AV) (H : Heap) : L42_17 [v0, v4, v5, v6] lo H = (
(idxA 2 v0 v6).bind fun x1 =>
(fldA 1 x1).bind fun x2 =>
(ld false 1 x2 H).bind fun x3 =>
(callA cfg O 96 [v4, x3] lo H).bind fun r4 =>
(un .not r4.1).bind fun x5 =>
cond x5 (
(idxA 2 v0 v6).bind fun x6 =>
(fldA 1 x6).bind fun x7 =>
(ld false 1 x7 r4.2).bind fun x8 =>
(litA false 1 [x8] r4.2).bind fun r9 =>
(appA 1 8 v4 r9.1 r9.2).bind fun r10 =>
L42_11 [v0, r10.1, v5, v6] lo r10.2) (
L42_11 [v0, v4, v5, v6] lo r4.2)) := by
  show O.lab _ _ _ _ _ _ = _
  rw [O_lab]
  kernel_rfl
theorem L42_20_eq (lo : List Nat) (v0 v4 v5 : AV) (H : Heap) : L42_20 [v0, v4, v5] lo H = (
(lenA .slice v5 H).bind fun x1 =>
(lenA .slice v4 H).bind fun x2 =>
(bin .lss .int x1 x2).bind fun x3 =>
cond x3 (
L42_26 [v0, v4, v5, I 0, B false, I 0] lo H) (
leave 0 lo [v5, B true] H)) := by
  show O.lab _ _ _ _ _ _ = _
  rw [O_lab]
  kernel_rfl
theorem L42_26_eq (lo : List Nat) (v0 v4 v5 v7 v8 v9 : AV) (H : Heap) : L42_26 [v0, v4, v5, v7, v8, v9] lo H = (
(lenA .slice v4 H).bind fun x1 =>
(bin .lss .int v9 x1).bind fun x2 =>
cond x2 (
(idxA 1 v4 v9).bind fun x3 =>
(ld false 1 x3 H).bind fun x4 =>
(callA cfg O 96 [v5, x4] lo H).bind fun r5 =>
(un .not r5.1).bind fun x6 =>
L42_34 [v0, v4, v5, v7, v8, v9, x6, I 0] lo r5.2) (
(un .not v8).bind fun x7 =>
cond x7 (
leave 0 lo [.p nilS, B false] H) (
(litA false 1 [v7] H).bind fun r8 =>
(appA 1 8 v5 r8.1 r8.2).bind fun r9 =>
L42_20 [v0, v4, r9.1] lo r9.2))) := by
  show O.lab _ _ _ _ _ _ = _
  rw [O_lab]
  kernel_rfl
theorem L42_29_eq (lo : List Nat) (v0 v4 v5 v7 v8 v9 : AV) (H : Heap) : L42_29 [v0, v4, v5, v7, v8, v9] lo H = (
(bin .add .int v9 (I 1)).bind fun x1 =>
L42_26 [v0, v4, v5, v7, v8, x1] lo H) := by
  show O.lab _ _ _ _ _ _ = _
  rw [O_lab]
  kernel_rfl
theorem L42_34_eq (lo : List Nat) (v0 v4 v5 v7 v8 v9 v10 v11 : AV) (H : Heap) : L42_34 [v0, v4, v5, v7, v8, v9, v10, v11] lo H = (
(lenA .slice v0 H).bind fun x1 =>
(bin .lss .int v11 x1).bind fun x2 =>
cond x2 (
(idxA 2 v0 v11).bind fun x3 =>
(fldA 1 x3).bind fun x4 =>
(ld false 1 x4 H).bind fun x5 =>
(idxA 1 v4 v9).bind fun x6 =>
(ld false 1 x6 H).bind fun x7 =>
(bin .eql .int x5 x7).bind fun x8 =>
(gd x8 true (some v5)).bind fun x9 =>
(gd x8 true (some v0)).bind fun x10 =>
(gd x8 true (some v11)).bind fun x11 =>
(gd x8 true (idxA 2 x10 x11)).bind fun x12 =>
(gd x8 true (fldA 0 x12)).bind fun x13 =>
(gd x8 true (ld false 1 x13 H)).bind fun x14 =>
(gdH x8 true (callA cfg O 96 [x9, x14] lo H) H).bind fun r15 =>
(gd x8 true (un .not r15.1)).bind fun x16 =>
(pickA x8 x16 (B false)).bind fun x17 =>
cond x17 (
L42_37 [v0, v4, v5, v7, v8, v9, B false, v11] lo r15.2) (
L42_37 [v0, v4, v5, v7, v8, v9, v10, v11] lo r15.2)) (
(gd v10 true (some v8)).bind fun x18 =>
(gd v10 true (un .not x18)).bind fun x19 =>
(gd v10 true (some x19)).bind fun x20 =>
(gd x20 false (some v4)).bind fun x21 =>
(gd x20 false (some v9)).bind fun x22 =>
(gd x20 false (idxA 1 x21 x22)).bind fun x23 =>
(gd x20 false (ld false 1 x23 H)).bind fun x24 =>
(gd x20 false (some v7)).bind fun x25 =>
(gd x20 false (bin .lss .int x24 x25)).bind fun x26 =>
(gd v10 true (pickA x20 (B true) x26)).bind fun x27 =>
(pickA v10 x27 (B false)).bind fun x28 =>
cond x28 (
(idxA 1 v4 v9).bind fun x29 =>
(ld false 1 x29 H).bind fun x30 =>
L42_29 [v0, v4, v5, x30, B true, v9] lo H) (
L42_29 [v0, v4, v5, v7, v8, v9] lo H))) := by
  show O.lab _ _ _ _ _ _ = _
  rw [O_lab]
  kernel_rfl
theorem L42_37_eq (lo : List Nat) (v0 v4 v5 v7 v8 v9 v10 v11 : AV) (H : Heap) : L42_37 [v0, v4, v5, v7, v8, v9, v10, v11] lo H = (
(bin .add .int v11 (I 1)).bind fun x1 =>
L42_34 [v0, v4, v5, v7, v8, v9, v10, x1] lo H) := by
  show O.lab _ _ _ _ _ _ = _
  rw [O_lab]
  kernel_rfl
theorem f42_eq (a0 : AV) : O.ent 42 [a0] [] [] = (
L42_8 [a0, .p nilS, .p nilS, I 0] [] []) := by
  rw [O_ent]
  kernel_rfl
-- backstitch/lockup.thread
theorem f93_eq (a0 : AV) : O.ent 93 [a0] [] [] = (
(bin .geq .int a0 (I 0)).bind fun x1 =>
(gd x1 true (some a0)).bind fun x2 =>
(gd x1 true (bin .lss .int x2 (I 8))).bind fun x3 =>
(pickA x1 x3 (B false)).bind fun x4 =>
leave 0 [] [x4] []) := by
  rw [O_ent]
  kernel_rfl
-- slices.Contains[[]int,int]
theorem f94_eq (a0 a1 : AV) : O.ent 94 [a0, a1] [] [] = (
(callA cfg O 135 [a0, a1] [] []).bind fun r1 =>
(bin .geq .int r1.1 (I 0)).bind fun x2 =>
leave 0 [] [x2] r1.2) := by
  rw [O_ent]
  kernel_rfl
-- backstitch/backstitchref4.waitsFor
noncomputable def T95_6 : List It := labAt Try.prog cfg 95 6 (fun _ => none)
noncomputable def L95_6 (vals : List AV) (lo : List Nat) (H : Heap) : Res := O.lab 95 [0, 1, 5] (T95_6) vals lo H
theorem L95_6_eq (lo : List Nat) (v0 v1 v5 : AV) (H : Heap) : L95_6 [v0, v1, v5] lo H = (
(lenA .slice v0 H).bind fun x1 =>
(bin .lss .int v5 x1).bind fun x2 =>
cond x2 (
(idxA 3 v0 v5).bind fun x3 =>
(fldA 0 x3).bind fun x4 =>
(ld false 1 x4 H).bind fun x5 =>
(bin .eql .int x5 v1).bind fun x6 =>
cond x6 (
(idxA 3 v0 v5).bind fun x7 =>
(fldA 1 x7).bind fun x8 =>
(ld false 1 x8 H).bind fun x9 =>
leave 0 lo [x9] H) (
(bin .add .int v5 (I 1)).bind fun x10 =>
L95_6 [v0, v1, x10] lo H)) (
leave 0 lo [I (-1)] H)) := by
  show O.lab _ _ _ _ _ _ = _
  rw [O_lab]
  kernel_rfl
theorem f95_eq (a0 a1 : AV) : O.ent 95 [a0, a1] [] [] = (
L95_6 [a0, a1, I 0] [] []) := by
  rw [O_ent]
  kernel_rfl
-- backstitch/backstitchref4.HasInt
noncomputable def T96_6 : List It := labAt Try.prog cfg 96 6 (fun _ => none)
noncomputable def L96_6 (vals : List AV) (lo : List Nat) (H : Heap) : Res := O.lab 96 [0, 1, 5] (T96_6) vals lo H
theorem L96_6_eq (lo : List Nat) (v0 v1 v5 : AV) (H : Heap) : L96_6 [v0, v1, v5] lo H = (
(lenA .slice v0 H).bind fun x1 =>
(bin .lss .int v5 x1).bind fun x2 =>
cond x2 (
(idxA 1 v0 v5).bind fun x3 =>
(ld false 1 x3 H).bind fun x4 =>
(bin .eql .int x4 v1).bind fun x5 =>
cond x5 (
leave 0 lo [B true] H) (
(bin .add .int v5 (I 1)).bind fun x6 =>
L96_6 [v0, v1, x6] lo H)) (
leave 0 lo [B false] H)) := by
  show O.lab _ _ _ _ _ _ = _
  rw [O_lab]
  kernel_rfl
theorem f96_eq (a0 a1 : AV) : O.ent 96 [a0, a1] [] [] = (
L96_6 [a0, a1, I 0] [] []) := by
  rw [O_ent]
  kernel_rfl
-- slices.Index[[]int,int]
noncomputable def T135_6 : List It := labAt Try.prog cfg 135 6 (fun _ => none)
noncomputable def L135_6 (vals : List AV) (lo : List Nat) (H : Heap) : Res := O.lab 135 [0, 1, 7, 8] (T135_6) vals lo H
theorem L135_6_eq (lo : List Nat) (v0 v1 v7 v8 : AV) (H : Heap) : L135_6 [v0, v1, v7, v8] lo H = (
(bin .lss .int v8 v7).bind fun x1 =>
cond x1 (
(idxA 1 v0 v8).bind fun x2 =>
(ld false 1 x2 H).bind fun x3 =>
(bin .eql .int v1 x3).bind fun x4 =>
cond x4 (
leave 0 lo [v8] H) (
(bin .add .int v8 (I 1)).bind fun x5 =>
L135_6 [v0, v1, v7, x5] lo H)) (
leave 0 lo [I (-1)] H)) := by
  show O.lab _ _ _ _ _ _ = _
  rw [O_lab]
  kernel_rfl
theorem f135_eq (a0 a1 : AV) : O.ent 135 [a0, a1] [] [] = (
(lenA .slice a0 []).bind fun x1 =>
L135_6 [a0, a1, x1, I 0] [] []) := by
  rw [O_ent]
  kernel_rfl
end Go.Proofs.Ytangmjeafnkfaaa
