import Derived.Test.YtfdnamedmjhcfaaCf
set_option linter.unusedVariables false
set_option maxRecDepth 100000
namespace Go.Proofs.Ytfdnamedmjhcfaa
open Go Go.AM
-- backstitch/backstitchlaw4.RaceTells
noncomputable def T3_21 : List It := labAt Try.prog cfg 3 21 (fun _ => none)
noncomputable def L3_21 (vals : List AV) (lo : List Nat) (H : Heap) : Res := O.lab 3 [0, 2, 3, 9, 11, 12, 13, 14, 15, 16, 17, 18] (T3_21) vals lo H
noncomputable def T3_28 : List It := labAt Try.prog cfg 3 28 (fun _ => none)
noncomputable def L3_28 (vals : List AV) (lo : List Nat) (H : Heap) : Res := O.lab 3 [0, 2, 3, 9, 11, 12, 13, 14, 15, 16, 17, 18, 19, 20, 21, 22, 23] (T3_28) vals lo H
noncomputable def T3_36 : List It := labAt Try.prog cfg 3 36 (fun _ => none)
noncomputable def L3_36 (vals : List AV) (lo : List Nat) (H : Heap) : Res := O.lab 3 [0, 2, 3, 9, 11, 12, 13, 14, 15, 16, 17, 18, 19, 20, 21, 22, 23, 24, 25] (T3_36) vals lo H
noncomputable def T3_39 : List It := labAt Try.prog cfg 3 39 (fun _ => none)
noncomputable def L3_39 (vals : List AV) (lo : List Nat) (H : Heap) : Res := O.lab 3 [0, 2, 3, 9, 11, 12, 13, 14, 15, 16, 17, 18, 19, 20, 21, 22, 23, 24, 25] (T3_39) vals lo H
noncomputable def T3_59 : List It := labAt Try.prog cfg 3 59 (fun _ => none)
noncomputable def L3_59 (vals : List AV) (lo : List Nat) (H : Heap) : Res := O.lab 3 [11, 12, 13, 14, 15, 16, 17, 18, 19, 20, 21, 22] (T3_59) vals lo H
theorem L3_21_eq (lo : List Nat) (v0 v2 v3 v9 v11 v12 v13 v14 v15 v16 v17 v18 : AV) (H : Heap) : L3_21 [v0, v2, v3, v9, v11, v12, v13, v14, v15, v16, v17, v18] lo H = (
(boxO [] [(.p nilS), (.p nilS)] H).bind fun r1 =>
L3_28 [v0, v2, v3, v9, v11, v12, v13, v14, v15, v16, v17, v18, v18, I 0, B false, r1.1, I 0] lo r1.2) := by
  show O.lab _ _ _ _ _ _ = _
  rw [O_lab]
  kernel_rfl
theorem L3_28_eq (lo : List Nat) (v0 v2 v3 v9 v11 v12 v13 v14 v15 v16 v17 v18 v19 v20 v21 v22 v23 : AV) (H : Heap) : L3_28 [v0, v2, v3, v9, v11, v12, v13, v14, v15, v16, v17, v18, v19, v20, v21, v22, v23] lo H = (
(lenA .slice v0 H).bind fun x1 =>
(bin .lss .int v23 x1).bind fun x2 =>
(gd x2 true (some v17)).bind fun x3 =>
(gd x2 true (bin .eql .int x3 (I 0))).bind fun x4 =>
(pickA x2 x4 (B false)).bind fun x5 =>
cond x5 (
(callA cfg O 9 [v0, v23] lo H).bind fun r6 =>
L3_36 [v0, v2, v3, v9, v11, v12, v13, v14, v15, v16, v17, v18, v19, v20, v21, v22, v23, r6.1, I 0] lo r6.2) (
(bin .eql .int v18 (I 0)).bind fun x7 =>
cond x7 (
(idxA 12 v0 v2).bind fun x8 =>
(ld true 12 x8 H).bind fun x9 =>
(idxA 12 v0 v3).bind fun x10 =>
(ld true 12 x10 H).bind fun x11 =>
(callA cfg O 10 [x9, x11] lo H).bind fun r12 =>
(gd r12.1 true (some v0)).bind fun x13 =>
(gd r12.1 true (fldA 0 v9)).bind fun x14 =>
(gd r12.1 true (ld false 1 x14 r12.2)).bind fun x15 =>
(gd r12.1 true (some v2)).bind fun x16 =>
(gd r12.1 true (some v3)).bind fun x17 =>
(gdH r12.1 true (callA cfg O 11 [x13, x15, x16, x17] lo r12.2) r12.2).bind fun r18 =>
(pickA r12.1 r18.1 (B false)).bind fun x19 =>
(gd x19 true (some v0)).bind fun x20 =>
(gd x19 true (fldA 1 v9)).bind fun x21 =>
(gd x19 true (ld false 1 x21 r18.2)).bind fun x22 =>
(gd x19 true (some v3)).bind fun x23 =>
(gd x19 true (some v2)).bind fun x24 =>
(gdH x19 true (callA cfg O 11 [x20, x22, x23, x24] lo r18.2) r18.2).bind fun r25 =>
(pickA x19 r25.1 (B false)).bind fun x26 =>
(idxA 12 v0 v2).bind fun x27 =>
(ld true 12 x27 r25.2).bind fun x28 =>
(idxA 12 v0 v3).bind fun x29 =>
(ld true 12 x29 r25.2).bind fun x30 =>
(callA cfg O 10 [x28, x30] lo r25.2).bind fun r31 =>
(un .not r31.1).bind fun x32 =>
(gd x32 false (some v0)).bind fun x33 =>
(gd x32 false (some v2)).bind fun x34 =>
(gdH x32 false (callA cfg O 9 [x33, x34] lo r31.2) r31.2).bind fun r35 =>
(gd x32 false (some v3)).bind fun x36 =>
(gd x32 false (idxA 1 r35.1 x36)).bind fun x37 =>
(gd x32 false (ld false 1 x37 r35.2)).bind fun x38 =>
(pickA x32 (B true) x38).bind fun x39 =>
(gd x39 false (some v0)).bind fun x40 =>
(gd x39 false (some v3)).bind fun x41 =>
(gdH x39 false (callA cfg O 9 [x40, x41] lo r35.2) r35.2).bind fun r42 =>
(gd x39 false (some v2)).bind fun x43 =>
(gd x39 false (idxA 1 r42.1 x43)).bind fun x44 =>
(gd x39 false (ld false 1 x44 r42.2)).bind fun x45 =>
(pickA x39 (B true) x45).bind fun x46 =>
cond x46 (
L3_59 [v11, v12, v13, v14, v15, v16, v17, v18, I 5, v20, x26, v22] lo r42.2) (
(callA cfg O 12 [v0, v2] lo r42.2).bind fun r47 =>
(callA cfg O 12 [v0, v3] lo r47.2).bind fun r48 =>
(buildA [(.p nilS), (.p nilS)] [(0, 1, r47.1), (1, 1, r48.1)]).bind fun x49 =>
((stA 2 v22 x49 lo r48.2).map fun H' => (undefA, H')).bind fun r50 =>
L3_59 [v11, v12, v13, v14, v15, v16, v17, v18, v19, v20, x26, v22] lo r50.2)) (
L3_59 [v11, v12, v13, v14, v15, v16, v17, v18, v19, v20, v21, v22] lo H))) := by
  show O.lab _ _ _ _ _ _ = _
  rw [O_lab]
  kernel_rfl
theorem L3_36_eq (lo : List Nat) (v0 v2 v3 v9 v11 v12 v13 v14 v15 v16 v17 v18 v19 v20 v21 v22 v23 v24 v25 : AV) (H : Heap) : L3_36 [v0, v2, v3, v9, v11, v12, v13, v14, v15, v16, v17, v18, v19, v20, v21, v22, v23, v24, v25] lo H = (
(bin .lss .int v25 v23).bind fun x1 =>
cond x1 (
(idxA 12 v0 v25).bind fun x2 =>
(ld true 12 x2 H).bind fun x3 =>
(idxA 12 v0 v23).bind fun x4 =>
(ld true 12 x4 H).bind fun x5 =>
(callA cfg O 10 [x3, x5] lo H).bind fun r6 =>
(gd r6.1 true (some v24)).bind fun x7 =>
(gd r6.1 true (some v25)).bind fun x8 =>
(gd r6.1 true (idxA 1 x7 x8)).bind fun x9 =>
(gd r6.1 true (ld false 1 x9 r6.2)).bind fun x10 =>
(gd r6.1 true (un .not x10)).bind fun x11 =>
(pickA r6.1 x11 (B false)).bind fun x12 =>
cond x12 (
(lenA .slice v11 r6.2).bind fun x13 =>
(bin .geq .int v20 x13).bind fun x14 =>
(gd x14 false (some v11)).bind fun x15 =>
(gd x14 false (some v20)).bind fun x16 =>
(gd x14 false (idxA 2 x15 x16)).bind fun x17 =>
(gd x14 false (ld true 2 x17 r6.2)).bind fun x18 =>
(gd x14 false (some v25)).bind fun x19 =>
(gd x14 false (some v23)).bind fun x20 =>
(gd x14 false (buildA [(I 0), (I 0)] [(0, 1, x19), (1, 1, x20)])).bind fun x21 =>
(gd x14 false (bin .neq (.agg 2 [(0, .int), (1, .int)]) x18 x21)).bind fun x22 =>
(pickA x14 (B true) x22).bind fun x23 =>
cond x23 (
leave 0 lo [B false] r6.2) (
(bin .add .int v20 (I 1)).bind fun x24 =>
L3_39 [v0, v2, v3, v9, v11, v12, v13, v14, v15, v16, v17, v18, v19, x24, v21, v22, v23, v24, v25] lo r6.2)) (
L3_39 [v0, v2, v3, v9, v11, v12, v13, v14, v15, v16, v17, v18, v19, v20, v21, v22, v23, v24, v25] lo r6.2)) (
(bin .add .int v23 (I 1)).bind fun x25 =>
L3_28 [v0, v2, v3, v9, v11, v12, v13, v14, v15, v16, v17, v18, v19, v20, v21, v22, x25] lo H)) := by
  show O.lab _ _ _ _ _ _ = _
  rw [O_lab]
  kernel_rfl
theorem L3_39_eq (lo : List Nat) (v0 v2 v3 v9 v11 v12 v13 v14 v15 v16 v17 v18 v19 v20 v21 v22 v23 v24 v25 : AV) (H : Heap) : L3_39 [v0, v2, v3, v9, v11, v12, v13, v14, v15, v16, v17, v18, v19, v20, v21, v22, v23, v24, v25] lo H = (
(bin .add .int v25 (I 1)).bind fun x1 =>
L3_36 [v0, v2, v3, v9, v11, v12, v13, v14, v15, v16, v17, v18, v19, v20, v21, v22, v23, v24, x1] lo H) := by
  show O.lab _ _ _ _ _ _ = _
  rw [O_lab]
  kernel_rfl
theorem L3_59_eq (lo : List Nat) (v11 v12 v13 v14 v15 v16 v17 v18 v19 v20 v21 v22 : AV) (H : Heap) : L3_59 [v11, v12, v13, v14, v15, v16, v17, v18, v19, v20, v21, v22] lo H = (
(lenA .slice v11 H).bind fun x1 =>
(bin .eql .int v20 x1).bind fun x2 =>
(gd x2 true (some v12)).bind fun x3 =>
(gd x2 true (some v17)).bind fun x4 =>
(gd x2 true (bin .eql .int x3 x4)).bind fun x5 =>
(pickA x2 x5 (B false)).bind fun x6 =>
(gd x6 true (fldA 0 v13)).bind fun x7 =>
(gd x6 true (ld false 1 x7 H)).bind fun x8 =>
(gd x6 true (fldA 0 v22)).bind fun x9 =>
(gd x6 true (ld false 1 x9 H)).bind fun x10 =>
(gdH x6 true (callA cfg O 13 [x8, x10] lo H) H).bind fun r11 =>
(pickA x6 r11.1 (B false)).bind fun x12 =>
(gd x12 true (fldA 1 v13)).bind fun x13 =>
(gd x12 true (ld false 1 x13 r11.2)).bind fun x14 =>
(gd x12 true (fldA 1 v22)).bind fun x15 =>
(gd x12 true (ld false 1 x15 r11.2)).bind fun x16 =>
(gdH x12 true (callA cfg O 13 [x14, x16] lo r11.2) r11.2).bind fun r17 =>
(pickA x12 r17.1 (B false)).bind fun x18 =>
(gd x18 true (some v14)).bind fun x19 =>
(gd x18 true (some v19)).bind fun x20 =>
(gd x18 true (bin .eql .int x19 x20)).bind fun x21 =>
(pickA x18 x21 (B false)).bind fun x22 =>
(gd x22 true (some v15)).bind fun x23 =>
(gd x22 true (some v21)).bind fun x24 =>
(gd x22 true (bin .eql .bool x23 x24)).bind fun x25 =>
(pickA x22 x25 (B false)).bind fun x26 =>
(gd x26 true (some v16)).bind fun x27 =>
(gd x26 true (some v18)).bind fun x28 =>
(gd x26 true (bin .eql .int x27 x28)).bind fun x29 =>
(pickA x26 x29 (B false)).bind fun x30 =>
leave 0 lo [x30] r17.2) := by
  show O.lab _ _ _ _ _ _ = _
  rw [O_lab]
  kernel_rfl
theorem f3_eq (a0 a1 a2 a3 a4 : AV) : O.ent 3 [a0, a1, a2, a3, a4] [] [] = (
(boxO [] (AV.cells a4) []).bind fun r1 =>
(callA cfg O 4 [a0, I 40] [] r1.2).bind fun r2 =>
(callA cfg O 5 [r2.1, a1] [] r2.2).bind fun r3 =>
(extractA r3.1 0).bind fun x4 =>
(extractA r3.1 1).bind fun x5 =>
(callA cfg O 6 [r2.1, a1, a2, a3] [] r3.2).bind fun r6 =>
(extractA r6.1 0).bind fun x7 =>
(extractA r6.1 1).bind fun x8 =>
(boxO [] [(.p nilS), (.p nilS)] r6.2).bind fun r9 =>
((stA 2 r9.1 x7 [] r9.2).map fun H' => (undefA, H')).bind fun r10 =>
(ld true 2 r1.1 r10.2).bind fun x11 =>
(callA cfg O 7 [r2.1, a1, a2, a3, x11] [] r10.2).bind fun r12 =>
(extractA r12.1 0).bind fun x13 =>
(extractA r12.1 1).bind fun x14 =>
(callA cfg O 8 [r2.1, a1] [] r12.2).bind fun r15 =>
(bin .eql .int r15.1 (I 0)).bind fun x16 =>
(gd x16 true (some a2)).bind fun x17 =>
(gd x16 true (bin .lss .int x17 (I 0))).bind fun x18 =>
(gd x16 true (some x18)).bind fun x19 =>
(gd x19 false (some a2)).bind fun x20 =>
(gd x19 false (some r2.1)).bind fun x21 =>
(gd x19 false (lenA .slice x21 r15.2)).bind fun x22 =>
(gd x19 false (bin .geq .int x20 x22)).bind fun x23 =>
(gd x16 true (pickA x19 (B true) x23)).bind fun x24 =>
(gd x16 true (some x24)).bind fun x25 =>
(gd x25 false (some a3)).bind fun x26 =>
(gd x25 false (bin .lss .int x26 (I 0))).bind fun x27 =>
(gd x16 true (pickA x25 (B true) x27)).bind fun x28 =>
(gd x16 true (some x28)).bind fun x29 =>
(gd x29 false (some a3)).bind fun x30 =>
(gd x29 false (some r2.1)).bind fun x31 =>
(gd x29 false (lenA .slice x31 r15.2)).bind fun x32 =>
(gd x29 false (bin .geq .int x30 x32)).bind fun x33 =>
(gd x16 true (pickA x29 (B true) x33)).bind fun x34 =>
(pickA x16 x34 (B false)).bind fun x35 =>
cond x35 (
L3_21 [r2.1, a2, a3, r1.1, x4, x5, r9.1, x8, x13, x14, r15.1, I 1] [] r15.2) (
L3_21 [r2.1, a2, a3, r1.1, x4, x5, r9.1, x8, x13, x14, r15.1, r15.1] [] r15.2)) := by
  rw [O_ent]
  kernel_rfl
-- backstitch/backstitchlaw4.soon
theorem f4_eq (a0 a1 : AV) : O.ent 4 [a0, a1] [] [] = (
(lenA .slice a0 []).bind fun x1 =>
(bests false x1 [a1]).bind fun x2 =>
(cutA 12 a0 none (some x2) none []).bind fun x3 =>
leave 0 [] [x3] []) := by
  rw [O_ent]
  kernel_rfl
-- backstitch/race.All
noncomputable def T5_14 : List It := labAt Try.prog cfg 5 14 (fun _ => none)
noncomputable def L5_14 (vals : List AV) (lo : List Nat) (H : Heap) : Res := O.lab 5 [0, 6, 8, 22, 23, 24] (T5_14) vals lo H
noncomputable def T5_20 : List It := labAt Try.prog cfg 5 20 (fun _ => none)
noncomputable def L5_20 (vals : List AV) (lo : List Nat) (H : Heap) : Res := O.lab 5 [0, 6, 8, 9, 10, 22, 23, 24, 31, 32, 33] (T5_20) vals lo H
noncomputable def T5_29 : List It := labAt Try.prog cfg 5 29 (fun _ => none)
noncomputable def L5_29 (vals : List AV) (lo : List Nat) (H : Heap) : Res := O.lab 5 [0, 6, 8, 9, 10, 22, 23, 24, 31, 32, 33] (T5_29) vals lo H
theorem L5_14_eq (lo : List Nat) (v0 v6 v8 v22 v23 v24 : AV) (H : Heap) : L5_14 [v0, v6, v8, v22, v23, v24] lo H = (
(bin .lss .int v24 v23).bind fun x1 =>
cond x1 (
(idxA 12 v22 v24).bind fun x2 =>
(ld true 12 x2 H).bind fun x3 =>
(boxO [] [(I 0), (I 0), (I 0), (I 0), (I 0), (I 0), (I 0), (I 0), (I 0), (I 0), (I 0), (I 0)] H).bind fun r4 =>
((stA 12 r4.1 x3 lo r4.2).map fun H' => (undefA, H')).bind fun r5 =>
(cutA 12 v0 none (some v24) none r5.2).bind fun x6 =>
(lenA .slice x6 r5.2).bind fun x7 =>
L5_20 [v0, v6, v8, v24, r4.1, v22, v23, v24, x6, x7, I 0] lo r5.2) (
leave 0 lo [v8, I 0] H)) := by
  show O.lab _ _ _ _ _ _ = _
  rw [O_lab]
  kernel_rfl
theorem L5_20_eq (lo : List Nat) (v0 v6 v8 v9 v10 v22 v23 v24 v31 v32 v33 : AV) (H : Heap) : L5_20 [v0, v6, v8, v9, v10, v22, v23, v24, v31, v32, v33] lo H = (
(bin .lss .int v33 v32).bind fun x1 =>
cond x1 (
(idxA 12 v31 v33).bind fun x2 =>
(ld true 12 x2 H).bind fun x3 =>
(boxO [] [(I 0), (I 0), (I 0), (I 0), (I 0), (I 0), (I 0), (I 0), (I 0), (I 0), (I 0), (I 0)] H).bind fun r4 =>
((stA 12 r4.1 x3 lo r4.2).map fun H' => (undefA, H')).bind fun r5 =>
(ld true 12 r4.1 r5.2).bind fun x6 =>
(ld true 12 v10 r5.2).bind fun x7 =>
(callA cfg O 15 [x6, x7] lo r5.2).bind fun r8 =>
(gd r8.1 true (some v6)).bind fun x9 =>
(gd r8.1 true (some v33)).bind fun x10 =>
(gd r8.1 true (idxA 1 x9 x10)).bind fun x11 =>
(gd r8.1 true (ld false 1 x11 r8.2)).bind fun x12 =>
(gd r8.1 true (fldA 2 r4.1)).bind fun x13 =>
(gd r8.1 true (ld false 1 x13 r8.2)).bind fun x14 =>
(gd r8.1 true (idxA 1 x12 x14)).bind fun x15 =>
(gd r8.1 true (ld false 1 x15 r8.2)).bind fun x16 =>
(gd r8.1 true (some v6)).bind fun x17 =>
(gd r8.1 true (some v9)).bind fun x18 =>
(gd r8.1 true (idxA 1 x17 x18)).bind fun x19 =>
(gd r8.1 true (ld false 1 x19 r8.2)).bind fun x20 =>
(gd r8.1 true (fldA 2 r4.1)).bind fun x21 =>
(gd r8.1 true (ld false 1 x21 r8.2)).bind fun x22 =>
(gd r8.1 true (idxA 1 x20 x22)).bind fun x23 =>
(gd r8.1 true (ld false 1 x23 r8.2)).bind fun x24 =>
(gd r8.1 true (bin .gtr .int x16 x24)).bind fun x25 =>
(pickA r8.1 x25 (B false)).bind fun x26 =>
cond x26 (
(buildA [(I 0), (I 0)] [(0, 1, v33), (1, 1, v9)]).bind fun x27 =>
(litA false 2 [x27] r8.2).bind fun r28 =>
(appA 2 16 v8 r28.1 r28.2).bind fun r29 =>
L5_29 [v0, v6, r29.1, v9, v10, v22, v23, v24, v31, v32, v33] lo r29.2) (
L5_29 [v0, v6, v8, v9, v10, v22, v23, v24, v31, v32, v33] lo r8.2)) (
(bin .add .int v24 (I 1)).bind fun x30 =>
L5_14 [v0, v6, v8, v22, v23, x30] lo H)) := by
  show O.lab _ _ _ _ _ _ = _
  rw [O_lab]
  kernel_rfl
theorem L5_29_eq (lo : List Nat) (v0 v6 v8 v9 v10 v22 v23 v24 v31 v32 v33 : AV) (H : Heap) : L5_29 [v0, v6, v8, v9, v10, v22, v23, v24, v31, v32, v33] lo H = (
(bin .add .int v33 (I 1)).bind fun x1 =>
L5_20 [v0, v6, v8, v9, v10, v22, v23, v24, v31, v32, x1] lo H) := by
  show O.lab _ _ _ _ _ _ = _
  rw [O_lab]
  kernel_rfl
theorem f5_eq (a0 a1 : AV) : O.ent 5 [a0, a1] [] [] = (
(callA cfg O 14 [a0, a1] [] []).bind fun r1 =>
(extractA r1.1 0).bind fun x2 =>
(extractA r1.1 1).bind fun x3 =>
(bin .neq .int x3 (I 0)).bind fun x4 =>
cond x4 (
leave 0 [] [.p nilS, x3] r1.2) (
(lenA .slice a0 r1.2).bind fun x5 =>
L5_14 [a0, x2, .p nilS, a0, x5, I 0] [] r1.2)) := by
  rw [O_ent]
  kernel_rfl
-- backstitch/race.Prove
noncomputable def T6_11 : List It := labAt Try.prog cfg 6 11 (fun _ => none)
noncomputable def L6_11 (vals : List AV) (lo : List Nat) (H : Heap) : Res := O.lab 6 [0, 1, 2, 3, 8, 11] (T6_11) vals lo H
theorem L6_11_eq (lo : List Nat) (v0 v1 v2 v3 v8 v11 : AV) (H : Heap) : L6_11 [v0, v1, v2, v3, v8, v11] lo H = (
(bin .neq .int v11 (I 0)).bind fun x1 =>
cond x1 (
(buildA [(.p nilS), (.p nilS)] []).bind fun x2 =>
((stA 2 v8 x2 lo H).map fun H' => (undefA, H')).bind fun r3 =>
((ld true 2 v8 r3.2).bind fun x5 => ((some []).map fun q7 => v11 :: q7).map fun q6 => x5 :: q6).bind fun xs4 => leave 0 lo xs4 r3.2) (
(callA cfg O 17 [v0, v1] lo H).bind fun r8 =>
(extractA r8.1 0).bind fun x9 =>
(extractA r8.1 1).bind fun x10 =>
(callA cfg O 18 [x9, v2] lo r8.2).bind fun r11 =>
(callA cfg O 18 [x9, v3] lo r11.2).bind fun r12 =>
(buildA [(.p nilS), (.p nilS)] [(0, 1, r11.1), (1, 1, r12.1)]).bind fun x13 =>
((stA 2 v8 x13 lo r12.2).map fun H' => (undefA, H')).bind fun r14 =>
((ld true 2 v8 r14.2).bind fun x16 => ((some []).map fun q18 => I 0 :: q18).map fun q17 => x16 :: q17).bind fun xs15 => leave 0 lo xs15 r14.2)) := by
  show O.lab _ _ _ _ _ _ = _
  rw [O_lab]
  kernel_rfl
theorem f6_eq (a0 a1 a2 a3 : AV) : O.ent 6 [a0, a1, a2, a3] [] [] = (
(boxO [] [(.p nilS), (.p nilS)] []).bind fun r1 =>
(callA cfg O 16 [a0, a1, a2, a3] [] r1.2).bind fun r2 =>
(extractA r2.1 0).bind fun x3 =>
(extractA r2.1 1).bind fun x4 =>
(bin .eql .int x4 (I 0)).bind fun x5 =>
(gd x5 true (some x3)).bind fun x6 =>
(gd x5 true (un .not x6)).bind fun x7 =>
(gd x5 true (some x7)).bind fun x8 =>
(gd x8 false (some a0)).bind fun x9 =>
(gd x8 false (some a2)).bind fun x10 =>
(gd x8 false (idxA 12 x9 x10)).bind fun x11 =>
(gd x8 false (ld true 12 x11 r2.2)).bind fun x12 =>
(gd x8 false (some a0)).bind fun x13 =>
(gd x8 false (some a3)).bind fun x14 =>
(gd x8 false (idxA 12 x13 x14)).bind fun x15 =>
(gd x8 false (ld true 12 x15 r2.2)).bind fun x16 =>
(gdH x8 false (callA cfg O 15 [x12, x16] [] r2.2) r2.2).bind fun r17 =>
(gd x8 false (un .not r17.1)).bind fun x18 =>
(gd x5 true (pickA x8 (B true) x18)).bind fun x19 =>
(pickA x5 x19 (B false)).bind fun x20 =>
cond x20 (
L6_11 [a0, a1, a2, a3, r1.1, I 5] [] r17.2) (
L6_11 [a0, a1, a2, a3, r1.1, x4] [] r17.2)) := by
  rw [O_ent]
  kernel_rfl
-- backstitch/race.Holds
theorem f7_eq (a0 a1 a2 a3 a4 : AV) : O.ent 7 [a0, a1, a2, a3, a4] [] [] = (
(boxO [] (AV.cells a4) []).bind fun r1 =>
(callA cfg O 19 [a0, a1, a2, a3] [] r1.2).bind fun r2 =>
(extractA r2.1 0).bind fun x3 =>
(extractA r2.1 1).bind fun x4 =>
(bin .neq .int x4 (I 0)).bind fun x5 =>
cond x5 (
leave 0 [] [B false, x4] r2.2) (
(callA cfg O 17 [a0, a1] [] r2.2).bind fun r6 =>
(extractA r6.1 0).bind fun x7 =>
(extractA r6.1 1).bind fun x8 =>
(idxA 12 a0 a2).bind fun x9 =>
(ld true 12 x9 r6.2).bind fun x10 =>
(idxA 12 a0 a3).bind fun x11 =>
(ld true 12 x11 r6.2).bind fun x12 =>
(callA cfg O 15 [x10, x12] [] r6.2).bind fun r13 =>
(gd r13.1 true (fldA 0 r1.1)).bind fun x14 =>
(gd r13.1 true (ld false 1 x14 r13.2)).bind fun x15 =>
(gd r13.1 true (some x7)).bind fun x16 =>
(gd r13.1 true (some a2)).bind fun x17 =>
(gd r13.1 true (some a3)).bind fun x18 =>
(gd r13.1 true (some a0)).bind fun x19 =>
(gd r13.1 true (lenA .slice x19 r13.2)).bind fun x20 =>
(gdH r13.1 true (callA cfg O 20 [x15, x16, x17, x18, x20] [] r13.2) r13.2).bind fun r21 =>
(pickA r13.1 r21.1 (B false)).bind fun x22 =>
(gd x22 true (fldA 1 r1.1)).bind fun x23 =>
(gd x22 true (ld false 1 x23 r21.2)).bind fun x24 =>
(gd x22 true (some x7)).bind fun x25 =>
(gd x22 true (some a3)).bind fun x26 =>
(gd x22 true (some a2)).bind fun x27 =>
(gd x22 true (some a0)).bind fun x28 =>
(gd x22 true (lenA .slice x28 r21.2)).bind fun x29 =>
(gdH x22 true (callA cfg O 20 [x24, x25, x26, x27, x29] [] r21.2) r21.2).bind fun r30 =>
(pickA x22 r30.1 (B false)).bind fun x31 =>
leave 0 [] [x31, I 0] r30.2)) := by
  rw [O_ent]
  kernel_rfl
-- backstitch/backstitchref4.ClockErr
noncomputable def T8_14 : List It := labAt Try.prog cfg 8 14 (fun _ => none)
noncomputable def L8_14 (vals : List AV) (lo : List Nat) (H : Heap) : Res := O.lab 8 [0, 1, 5] (T8_14) vals lo H
theorem L8_14_eq (lo : List Nat) (v0 v1 v5 : AV) (H : Heap) : L8_14 [v0, v1, v5] lo H = (
(lenA .slice v0 H).bind fun x1 =>
(bin .lss .int v5 x1).bind fun x2 =>
cond x2 (
(idxA 12 v0 v5).bind fun x3 =>
(fldA 2 x3).bind fun x4 =>
(ld false 1 x4 H).bind fun x5 =>
(bin .sub .int v1 (I 1)).bind fun x6 =>
(callA cfg O 21 [x5, I 0, x6] lo H).bind fun r7 =>
(un .not r7.1).bind fun x8 =>
cond x8 (
leave 0 lo [I 1] r7.2) (
(bin .add .int v5 (I 1)).bind fun x9 =>
L8_14 [v0, v1, x9] lo r7.2)) (
leave 0 lo [I 0] H)) := by
  show O.lab _ _ _ _ _ _ = _
  rw [O_lab]
  kernel_rfl
theorem f8_eq (a0 a1 : AV) : O.ent 8 [a0, a1] [] [] = (
(lenA .slice a0 []).bind fun x1 =>
(bin .gtr .int x1 (I 200)).bind fun x2 =>
cond x2 (
leave 0 [] [I 2] []) (
(callA cfg O 21 [a1, I 0, I 8] [] []).bind fun r3 =>
(un .not r3.1).bind fun x4 =>
cond x4 (
leave 0 [] [I 1] r3.2) (
L8_14 [a0, a1, I 0] [] r3.2))) := by
  rw [O_ent]
  kernel_rfl
-- backstitch/backstitchref4.ClockAhead
noncomputable def T9_12 : List It := labAt Try.prog cfg 9 12 (fun _ => none)
noncomputable def L9_12 (vals : List AV) (lo : List Nat) (H : Heap) : Res := O.lab 9 [0, 5, 6, 7] (T9_12) vals lo H
noncomputable def T9_15 : List It := labAt Try.prog cfg 9 15 (fun _ => none)
noncomputable def L9_15 (vals : List AV) (lo : List Nat) (H : Heap) : Res := O.lab 9 [0, 5, 6, 7] (T9_15) vals lo H
noncomputable def T9_20 : List It := labAt Try.prog cfg 9 20 (fun _ => none)
noncomputable def L9_20 (vals : List AV) (lo : List Nat) (H : Heap) : Res := O.lab 9 [0, 5, 6, 7, 8] (T9_20) vals lo H
noncomputable def T9_23 : List It := labAt Try.prog cfg 9 23 (fun _ => none)
noncomputable def L9_23 (vals : List AV) (lo : List Nat) (H : Heap) : Res := O.lab 9 [0, 5, 6, 7, 8] (T9_23) vals lo H
theorem L9_12_eq (lo : List Nat) (v0 v5 v6 v7 : AV) (H : Heap) : L9_12 [v0, v5, v6, v7] lo H = (
(bin .geq .int v7 (I 0)).bind fun x1 =>
cond x1 (
(idxA 1 v6 v7).bind fun x2 =>
(ld false 1 x2 H).bind fun x3 =>
(un .not x3).bind fun x4 =>
cond x4 (
L9_15 [v0, v5, v6, v7] lo H) (
L9_20 [v0, v5, v6, v7, I 0] lo H)) (
leave 0 lo [v5] H)) := by
  show O.lab _ _ _ _ _ _ = _
  rw [O_lab]
  kernel_rfl
theorem L9_15_eq (lo : List Nat) (v0 v5 v6 v7 : AV) (H : Heap) : L9_15 [v0, v5, v6, v7] lo H = (
(bin .sub .int v7 (I 1)).bind fun x1 =>
L9_12 [v0, v5, v6, x1] lo H) := by
  show O.lab _ _ _ _ _ _ = _
  rw [O_lab]
  kernel_rfl
theorem L9_20_eq (lo : List Nat) (v0 v5 v6 v7 v8 : AV) (H : Heap) : L9_20 [v0, v5, v6, v7, v8] lo H = (
(bin .lss .int v8 v7).bind fun x1 =>
cond x1 (
(callA cfg O 22 [v0, v8, v7] lo H).bind fun r2 =>
cond r2.1 (
(idxA 1 v6 v8).bind fun x3 =>
((stA 1 x3 (B true) lo r2.2).map fun H' => (undefA, H')).bind fun r4 =>
(idxA 1 v5 v8).bind fun x5 =>
((stA 1 x5 (B true) lo r4.2).map fun H' => (undefA, H')).bind fun r6 =>
L9_23 [v0, v5, v6, v7, v8] lo r6.2) (
L9_23 [v0, v5, v6, v7, v8] lo r2.2)) (
L9_15 [v0, v5, v6, v7] lo H)) := by
  show O.lab _ _ _ _ _ _ = _
  rw [O_lab]
  kernel_rfl
theorem L9_23_eq (lo : List Nat) (v0 v5 v6 v7 v8 : AV) (H : Heap) : L9_23 [v0, v5, v6, v7, v8] lo H = (
(bin .add .int v8 (I 1)).bind fun x1 =>
L9_20 [v0, v5, v6, v7, x1] lo H) := by
  show O.lab _ _ _ _ _ _ = _
  rw [O_lab]
  kernel_rfl
theorem f9_eq (a0 a1 : AV) : O.ent 9 [a0, a1] [] [] = (
(lenA .slice a0 []).bind fun x1 =>
(mkRow 1 1 [(.v (.bool false))] x1 x1 []).bind fun r2 =>
(lenA .slice a0 r2.2).bind fun x3 =>
(mkRow 1 1 [(.v (.bool false))] x3 x3 r2.2).bind fun r4 =>
(idxA 1 r4.1 a1).bind fun x5 =>
((stA 1 x5 (B true) [] r4.2).map fun H' => (undefA, H')).bind fun r6 =>
L9_12 [a0, r2.1, r4.1, a1] [] r6.2) := by
  rw [O_ent]
  kernel_rfl
-- backstitch/backstitchref4.RaceMeet
theorem f10_eq (a0 a1 : AV) : O.ent 10 [a0, a1] [] [] = (
(boxO [] (AV.cells a0) []).bind fun r1 =>
(boxO [] (AV.cells a1) r1.2).bind fun r2 =>
(fldA 2 r1.1).bind fun x3 =>
(ld false 1 x3 r2.2).bind fun x4 =>
(fldA 2 r2.1).bind fun x5 =>
(ld false 1 x5 r2.2).bind fun x6 =>
(bin .eql .int x4 x6).bind fun x7 =>
(gd x7 false (fldA 6 r1.1)).bind fun x8 =>
(gd x7 false (ld false 1 x8 r2.2)).bind fun x9 =>
(gd x7 false (fldA 6 r2.1)).bind fun x10 =>
(gd x7 false (ld false 1 x10 r2.2)).bind fun x11 =>
(gd x7 false (bin .neq .int x9 x11)).bind fun x12 =>
(pickA x7 (B true) x12).bind fun x13 =>
(gd x13 false (fldA 7 r1.1)).bind fun x14 =>
(gd x13 false (ld false 1 x14 r2.2)).bind fun x15 =>
(gd x13 false (fldA 7 r2.1)).bind fun x16 =>
(gd x13 false (ld false 1 x16 r2.2)).bind fun x17 =>
(gd x13 false (bin .neq .int x15 x17)).bind fun x18 =>
(pickA x13 (B true) x18).bind fun x19 =>
cond x19 (
leave 0 [] [B false] r2.2) (
(fldA 0 r1.1).bind fun x20 =>
(ld false 1 x20 r2.2).bind fun x21 =>
(bin .eql .int x21 (I 4)).bind fun x22 =>
(gd x22 true (fldA 0 r2.1)).bind fun x23 =>
(gd x22 true (ld false 1 x23 r2.2)).bind fun x24 =>
(gd x22 true (bin .eql .int x24 (I 3))).bind fun x25 =>
(gd x22 true (some x25)).bind fun x26 =>
(gd x26 false (fldA 0 r2.1)).bind fun x27 =>
(gd x26 false (ld false 1 x27 r2.2)).bind fun x28 =>
(gd x26 false (bin .eql .int x28 (I 4))).bind fun x29 =>
(gd x22 true (pickA x26 (B true) x29)).bind fun x30 =>
(pickA x22 x30 (B false)).bind fun x31 =>
(gd x31 false (fldA 0 r1.1)).bind fun x32 =>
(gd x31 false (ld false 1 x32 r2.2)).bind fun x33 =>
(gd x31 false (bin .eql .int x33 (I 3))).bind fun x34 =>
(gd x31 false (some x34)).bind fun x35 =>
(gd x35 true (fldA 0 r2.1)).bind fun x36 =>
(gd x35 true (ld false 1 x36 r2.2)).bind fun x37 =>
(gd x35 true (bin .eql .int x37 (I 4))).bind fun x38 =>
(gd x31 false (pickA x35 x38 (B false))).bind fun x39 =>
(pickA x31 (B true) x39).bind fun x40 =>
leave 0 [] [x40] r2.2)) := by
  rw [O_ent]
  kernel_rfl
-- backstitch/backstitchref4.RaceClosed
noncomputable def T11_6 : List It := labAt Try.prog cfg 11 6 (fun _ => none)
noncomputable def L11_6 (vals : List AV) (lo : List Nat) (H : Heap) : Res := O.lab 11 [0, 1, 2, 3, 9] (T11_6) vals lo H
noncomputable def T11_16 : List It := labAt Try.prog cfg 11 16 (fun _ => none)
noncomputable def L11_16 (vals : List AV) (lo : List Nat) (H : Heap) : Res := O.lab 11 [0, 1, 2, 3, 10] (T11_16) vals lo H
noncomputable def T11_22 : List It := labAt Try.prog cfg 11 22 (fun _ => none)
noncomputable def L11_22 (vals : List AV) (lo : List Nat) (H : Heap) : Res := O.lab 11 [0, 1, 2, 3, 10, 11] (T11_22) vals lo H
theorem L11_6_eq (lo : List Nat) (v0 v1 v2 v3 v9 : AV) (H : Heap) : L11_6 [v0, v1, v2, v3, v9] lo H = (
(lenA .slice v1 H).bind fun x1 =>
(bin .lss .int v9 x1).bind fun x2 =>
cond x2 (
(idxA 1 v1 v9).bind fun x3 =>
(ld false 1 x3 H).bind fun x4 =>
(lenA .slice v0 H).bind fun x5 =>
(bin .sub .int x5 (I 1)).bind fun x6 =>
(callA cfg O 21 [x4, I 0, x6] lo H).bind fun r7 =>
(un .not r7.1).bind fun x8 =>
(gd x8 false (some v9)).bind fun x9 =>
(gd x8 false (bin .gtr .int x9 (I 0))).bind fun x10 =>
(gd x8 false (some x10)).bind fun x11 =>
(gd x11 true (some v1)).bind fun x12 =>
(gd x11 true (some v9)).bind fun x13 =>
(gd x11 true (idxA 1 x12 x13)).bind fun x14 =>
(gd x11 true (ld false 1 x14 r7.2)).bind fun x15 =>
(gd x11 true (some v1)).bind fun x16 =>
(gd x11 true (some v9)).bind fun x17 =>
(gd x11 true (bin .sub .int x17 (I 1))).bind fun x18 =>
(gd x11 true (idxA 1 x16 x18)).bind fun x19 =>
(gd x11 true (ld false 1 x19 r7.2)).bind fun x20 =>
(gd x11 true (bin .leq .int x15 x20)).bind fun x21 =>
(gd x8 false (pickA x11 x21 (B false))).bind fun x22 =>
(pickA x8 (B true) x22).bind fun x23 =>
cond x23 (
leave 0 lo [B false] r7.2) (
(bin .add .int v9 (I 1)).bind fun x24 =>
L11_6 [v0, v1, v2, v3, x24] lo r7.2)) (
L11_16 [v0, v1, v2, v3, I 0] lo H)) := by
  show O.lab _ _ _ _ _ _ = _
  rw [O_lab]
  kernel_rfl
theorem L11_16_eq (lo : List Nat) (v0 v1 v2 v3 v10 : AV) (H : Heap) : L11_16 [v0, v1, v2, v3, v10] lo H = (
(lenA .slice v1 H).bind fun x1 =>
(bin .lss .int v10 x1).bind fun x2 =>
cond x2 (
L11_22 [v0, v1, v2, v3, v10, I 0] lo H) (
(callA cfg O 23 [v1, v2] lo H).bind fun r3 =>
(gd r3.1 true (some v1)).bind fun x4 =>
(gd r3.1 true (some v3)).bind fun x5 =>
(gdH r3.1 true (callA cfg O 23 [x4, x5] lo r3.2) r3.2).bind fun r6 =>
(gd r3.1 true (un .not r6.1)).bind fun x7 =>
(pickA r3.1 x7 (B false)).bind fun x8 =>
leave 0 lo [x8] r6.2)) := by
  show O.lab _ _ _ _ _ _ = _
  rw [O_lab]
  kernel_rfl
theorem L11_22_eq (lo : List Nat) (v0 v1 v2 v3 v10 v11 : AV) (H : Heap) : L11_22 [v0, v1, v2, v3, v10, v11] lo H = (
(idxA 1 v1 v10).bind fun x1 =>
(ld false 1 x1 H).bind fun x2 =>
(bin .lss .int v11 x2).bind fun x3 =>
cond x3 (
(idxA 1 v1 v10).bind fun x4 =>
(ld false 1 x4 H).bind fun x5 =>
(callA cfg O 22 [v0, v11, x5] lo H).bind fun r6 =>
(gd r6.1 true (some v1)).bind fun x7 =>
(gd r6.1 true (some v11)).bind fun x8 =>
(gdH r6.1 true (callA cfg O 23 [x7, x8] lo r6.2) r6.2).bind fun r9 =>
(gd r6.1 true (un .not r9.1)).bind fun x10 =>
(pickA r6.1 x10 (B false)).bind fun x11 =>
cond x11 (
leave 0 lo [B false] r9.2) (
(bin .add .int v11 (I 1)).bind fun x12 =>
L11_22 [v0, v1, v2, v3, v10, x12] lo r9.2)) (
(bin .add .int v10 (I 1)).bind fun x13 =>
L11_16 [v0, v1, v2, v3, x13] lo H)) := by
  show O.lab _ _ _ _ _ _ = _
  rw [O_lab]
  kernel_rfl
theorem f11_eq (a0 a1 a2 a3 : AV) : O.ent 11 [a0, a1, a2, a3] [] [] = (
L11_6 [a0, a1, a2, a3, I 0] [] []) := by
  rw [O_ent]
  kernel_rfl
-- backstitch/backstitchref4.RaceInto
noncomputable def T12_10 : List It := labAt Try.prog cfg 12 10 (fun _ => none)
noncomputable def L12_10 (vals : List AV) (lo : List Nat) (H : Heap) : Res := O.lab 12 [1, 5, 6, 7] (T12_10) vals lo H
noncomputable def T12_13 : List It := labAt Try.prog cfg 12 13 (fun _ => none)
noncomputable def L12_13 (vals : List AV) (lo : List Nat) (H : Heap) : Res := O.lab 12 [1, 5, 6, 7] (T12_13) vals lo H
theorem L12_10_eq (lo : List Nat) (v1 v5 v6 v7 : AV) (H : Heap) : L12_10 [v1, v5, v6, v7] lo H = (
(bin .leq .int v7 v1).bind fun x1 =>
cond x1 (
(idxA 1 v5 v7).bind fun x2 =>
(ld false 1 x2 H).bind fun x3 =>
(gd x3 false (some v7)).bind fun x4 =>
(gd x3 false (some v1)).bind fun x5 =>
(gd x3 false (bin .eql .int x4 x5)).bind fun x6 =>
(pickA x3 (B true) x6).bind fun x7 =>
cond x7 (
(litA false 1 [v7] H).bind fun r8 =>
(appA 1 8 v6 r8.1 r8.2).bind fun r9 =>
L12_13 [v1, v5, r9.1, v7] lo r9.2) (
L12_13 [v1, v5, v6, v7] lo H)) (
leave 0 lo [v6] H)) := by
  show O.lab _ _ _ _ _ _ = _
  rw [O_lab]
  kernel_rfl
theorem L12_13_eq (lo : List Nat) (v1 v5 v6 v7 : AV) (H : Heap) : L12_13 [v1, v5, v6, v7] lo H = (
(bin .add .int v7 (I 1)).bind fun x1 =>
L12_10 [v1, v5, v6, x1] lo H) := by
  show O.lab _ _ _ _ _ _ = _
  rw [O_lab]
  kernel_rfl
theorem f12_eq (a0 a1 : AV) : O.ent 12 [a0, a1] [] [] = (
(callA cfg O 9 [a0, a1] [] []).bind fun r1 =>
L12_10 [a1, r1.1, .p nilS, I 0] [] r1.2) := by
  rw [O_ent]
  kernel_rfl
-- backstitch/backstitchref4.SameInts
noncomputable def T13_10 : List It := labAt Try.prog cfg 13 10 (fun _ => none)
noncomputable def L13_10 (vals : List AV) (lo : List Nat) (H : Heap) : Res := O.lab 13 [0, 1, 5] (T13_10) vals lo H
theorem L13_10_eq (lo : List Nat) (v0 v1 v5 : AV) (H : Heap) : L13_10 [v0, v1, v5] lo H = (
(lenA .slice v0 H).bind fun x1 =>
(bin .lss .int v5 x1).bind fun x2 =>
cond x2 (
(idxA 1 v0 v5).bind fun x3 =>
(ld false 1 x3 H).bind fun x4 =>
(idxA 1 v1 v5).bind fun x5 =>
(ld false 1 x5 H).bind fun x6 =>
(bin .neq .int x4 x6).bind fun x7 =>
cond x7 (
leave 0 lo [B false] H) (
(bin .add .int v5 (I 1)).bind fun x8 =>
L13_10 [v0, v1, x8] lo H)) (
leave 0 lo [B true] H)) := by
  show O.lab _ _ _ _ _ _ = _
  rw [O_lab]
  kernel_rfl
theorem f13_eq (a0 a1 : AV) : O.ent 13 [a0, a1] [] [] = (
(lenA .slice a0 []).bind fun x1 =>
(lenA .slice a1 []).bind fun x2 =>
(bin .neq .int x1 x2).bind fun x3 =>
cond x3 (
leave 0 [] [B false] []) (
L13_10 [a0, a1, I 0] [] [])) := by
  rw [O_ent]
  kernel_rfl
-- backstitch/clocks.Of
theorem f14_eq (a0 a1 : AV) : O.ent 14 [a0, a1] [] [] = (
(callA cfg O 24 [a0, a1] [] []).bind fun r1 =>
(bin .neq .int r1.1 (I 0)).bind fun x2 =>
cond x2 (
leave 0 [] [.p nilS, r1.1] r1.2) (
(callA cfg O 25 [a0, a1] [] r1.2).bind fun r3 =>
leave 0 [] [r3.1, I 0] r3.2)) := by
  rw [O_ent]
  kernel_rfl
-- backstitch/race.meet
theorem f15_eq (a0 a1 : AV) : O.ent 15 [a0, a1] [] [] = (
(boxO [] (AV.cells a0) []).bind fun r1 =>
(boxO [] (AV.cells a1) r1.2).bind fun r2 =>
(ld true 12 r1.1 r2.2).bind fun x3 =>
(callA cfg O 26 [x3] [] r2.2).bind fun r4 =>
(gd r4.1 true (ld true 12 r2.1 r4.2)).bind fun x5 =>
(gdH r4.1 true (callA cfg O 26 [x5] [] r4.2) r4.2).bind fun r6 =>
(pickA r4.1 r6.1 (B false)).bind fun x7 =>
(gd x7 true (fldA 6 r1.1)).bind fun x8 =>
(gd x7 true (ld false 1 x8 r6.2)).bind fun x9 =>
(gd x7 true (fldA 6 r2.1)).bind fun x10 =>
(gd x7 true (ld false 1 x10 r6.2)).bind fun x11 =>
(gd x7 true (bin .eql .int x9 x11)).bind fun x12 =>
(pickA x7 x12 (B false)).bind fun x13 =>
(gd x13 true (fldA 7 r1.1)).bind fun x14 =>
(gd x13 true (ld false 1 x14 r6.2)).bind fun x15 =>
(gd x13 true (fldA 7 r2.1)).bind fun x16 =>
(gd x13 true (ld false 1 x16 r6.2)).bind fun x17 =>
(gd x13 true (bin .eql .int x15 x17)).bind fun x18 =>
(pickA x13 x18 (B false)).bind fun x19 =>
(gd x19 true (fldA 0 r1.1)).bind fun x20 =>
(gd x19 true (ld false 1 x20 r6.2)).bind fun x21 =>
(gd x19 true (bin .eql .int x21 (I 4))).bind fun x22 =>
(gd x19 true (some x22)).bind fun x23 =>
(gd x23 false (fldA 0 r2.1)).bind fun x24 =>
(gd x23 false (ld false 1 x24 r6.2)).bind fun x25 =>
(gd x23 false (bin .eql .int x25 (I 4))).bind fun x26 =>
(gd x19 true (pickA x23 (B true) x26)).bind fun x27 =>
(pickA x19 x27 (B false)).bind fun x28 =>
(gd x28 true (fldA 2 r1.1)).bind fun x29 =>
(gd x28 true (ld false 1 x29 r6.2)).bind fun x30 =>
(gd x28 true (fldA 2 r2.1)).bind fun x31 =>
(gd x28 true (ld false 1 x31 r6.2)).bind fun x32 =>
(gd x28 true (bin .neq .int x30 x32)).bind fun x33 =>
(pickA x28 x33 (B false)).bind fun x34 =>
leave 0 [] [x34] r6.2) := by
  rw [O_ent]
  kernel_rfl
-- backstitch/clocks.Apart
theorem f16_eq (a0 a1 a2 a3 : AV) : O.ent 16 [a0, a1, a2, a3] [] [] = (
(callA cfg O 27 [a0, a1, a2, a3] [] []).bind fun r1 =>
(bin .neq .int r1.1 (I 0)).bind fun x2 =>
cond x2 (
leave 0 [] [B false, r1.1] r1.2) (
(callA cfg O 25 [a0, a1] [] r1.2).bind fun r3 =>
(bin .neq .int a2 a3).bind fun x4 =>
(gd x4 true (some a0)).bind fun x5 =>
(gd x4 true (some r3.1)).bind fun x6 =>
(gd x4 true (some a2)).bind fun x7 =>
(gd x4 true (some a3)).bind fun x8 =>
(gdH x4 true (callA cfg O 28 [x5, x6, x7, x8] [] r3.2) r3.2).bind fun r9 =>
(gd x4 true (un .not r9.1)).bind fun x10 =>
(pickA x4 x10 (B false)).bind fun x11 =>
(gd x11 true (some a0)).bind fun x12 =>
(gd x11 true (some r3.1)).bind fun x13 =>
(gd x11 true (some a3)).bind fun x14 =>
(gd x11 true (some a2)).bind fun x15 =>
(gdH x11 true (callA cfg O 28 [x12, x13, x14, x15] [] r9.2) r9.2).bind fun r16 =>
(gd x11 true (un .not r16.1)).bind fun x17 =>
(pickA x11 x17 (B false)).bind fun x18 =>
leave 0 [] [x18, I 0] r16.2)) := by
  rw [O_ent]
  kernel_rfl
-- backstitch/clocks.Edges
theorem f17_eq (a0 a1 : AV) : O.ent 17 [a0, a1] [] [] = (
(callA cfg O 24 [a0, a1] [] []).bind fun r1 =>
(bin .neq .int r1.1 (I 0)).bind fun x2 =>
cond x2 (
leave 0 [] [.p nilS, r1.1] r1.2) (
(callA cfg O 29 [a0] [] r1.2).bind fun r3 =>
leave 0 [] [r3.1, I 0] r3.2)) := by
  rw [O_ent]
  kernel_rfl
-- backstitch/race.into
noncomputable def T18_200002 : List It := labAt Try.prog cfg 18 200002 (fun _ => none)
noncomputable def L18_200002 (vals : List AV) (lo : List Nat) (H : Heap) : Res := O.lab 18 [0, 0, 5] (T18_200002) vals lo H
theorem L18_200002_eq (lo : List Nat) (vi vq v5 : AV) (H : Heap) : L18_200002 [vi, vq, v5] lo H = (
(bin .lss .int vi (I 0)).bind fun x4 =>
cond x4 (
(ld false 1 v5 H).bind fun x1 =>
(callA cfg O 32 [x1] lo H).bind fun r2 =>
(ld false 1 v5 r2.2).bind fun x3 =>
leave 0 lo [x3] r2.2) (
(ld false 1 vq H).bind fun x5 =>
(idxA 2 x5 vi).bind fun x6 =>
(ld true 2 x6 H).bind fun x7 =>
(boxO [] [(I 0), (I 0)] H).bind fun r8 =>
((stA 2 r8.1 x7 lo r8.2).map fun H' => (undefA, H')).bind fun r9 =>
(ld false 1 v5 r9.2).bind fun x10 =>
(fldA 1 r8.1).bind fun x11 =>
(ld false 1 x11 r9.2).bind fun x12 =>
(callA cfg O 31 [x10, x12] lo r9.2).bind fun r13 =>
(gd r13.1 true (ld false 1 v5 r13.2)).bind fun x14 =>
(gd r13.1 true (fldA 0 r8.1)).bind fun x15 =>
(gd r13.1 true (ld false 1 x15 r13.2)).bind fun x16 =>
(gdH r13.1 true (callA cfg O 31 [x14, x16] lo r13.2) r13.2).bind fun r17 =>
(gd r13.1 true (un .not r17.1)).bind fun x18 =>
(pickA r13.1 x18 (B false)).bind fun x19 =>
cond x19 (
(ld false 1 v5 r17.2).bind fun x20 =>
(fldA 0 r8.1).bind fun x21 =>
(ld false 1 x21 r17.2).bind fun x22 =>
(litA false 1 [x22] r17.2).bind fun r23 =>
(appA 1 8 x20 r23.1 r23.2).bind fun r24 =>
((stA 1 v5 r24.1 lo r24.2).map fun H' => (undefA, H')).bind fun r25 =>
(bin .sub .int vi (I 1)).bind fun x26 =>
L18_200002 [x26, vq, v5] lo r25.2) (
(bin .sub .int vi (I 1)).bind fun x27 =>
L18_200002 [x27, vq, v5] lo r17.2))) := by
  show O.lab _ _ _ _ _ _ = _
  rw [O_lab]
  kernel_rfl
theorem f18_eq (a0 a1 : AV) : O.ent 18 [a0, a1] [] [] = (
(litA true 1 [a1] []).bind fun r1 =>
(boxO [] [(.p nilS)] r1.2).bind fun r2 =>
((stA 1 r2.1 r1.1 [] r2.2).map fun H' => (undefA, H')).bind fun r3 =>
(callA cfg O 30 [a0] [] r3.2).bind fun r4 =>
(rngIn r4.1 45).bind fun x5 =>
(ld false 1 x5 r4.2).bind fun x6 =>
(lenA .slice x6 r4.2).bind fun x7 =>
(bin .sub .int x7 (I 1)).bind fun x8 =>
L18_200002 [x8, x5, r2.1] [] r4.2) := by
  rw [O_ent]
  kernel_rfl
-- backstitch/clocks.Before
theorem f19_eq (a0 a1 a2 a3 : AV) : O.ent 19 [a0, a1, a2, a3] [] [] = (
(callA cfg O 27 [a0, a1, a2, a3] [] []).bind fun r1 =>
(bin .neq .int r1.1 (I 0)).bind fun x2 =>
cond x2 (
leave 0 [] [B false, r1.1] r1.2) (
(callA cfg O 25 [a0, a1] [] r1.2).bind fun r3 =>
(callA cfg O 28 [a0, r3.1, a2, a3] [] r3.2).bind fun r4 =>
leave 0 [] [r4.1, I 0] r4.2)) := by
  rw [O_ent]
  kernel_rfl
-- backstitch/race.closed
noncomputable def T20_6 : List It := labAt Try.prog cfg 20 6 (fun _ => none)
noncomputable def L20_6 (vals : List AV) (lo : List Nat) (H : Heap) : Res := O.lab 20 [1, 2, 3, 4, 5, 14, 15, 16] (T20_6) vals lo H
theorem L20_6_eq (lo : List Nat) (v1 v2 v3 v4 v5 v14 v15 v16 : AV) (H : Heap) : L20_6 [v1, v2, v3, v4, v5, v14, v15, v16] lo H = (
(bin .lss .int v16 v15).bind fun x1 =>
cond x1 (
(idxA 1 v14 v16).bind fun x2 =>
(ld false 1 x2 H).bind fun x3 =>
(bin .lss .int x3 (I 0)).bind fun x4 =>
(gd x4 false (some x3)).bind fun x5 =>
(gd x4 false (some v4)).bind fun x6 =>
(gd x4 false (bin .geq .int x5 x6)).bind fun x7 =>
(pickA x4 (B true) x7).bind fun x8 =>
(gd x8 false (some v16)).bind fun x9 =>
(gd x8 false (bin .gtr .int x9 (I 0))).bind fun x10 =>
(gd x8 false (some x10)).bind fun x11 =>
(gd x11 true (some x3)).bind fun x12 =>
(gd x11 true (ld false 1 v5 H)).bind fun x13 =>
(gd x11 true (some v16)).bind fun x14 =>
(gd x11 true (bin .sub .int x14 (I 1))).bind fun x15 =>
(gd x11 true (idxA 1 x13 x15)).bind fun x16 =>
(gd x11 true (ld false 1 x16 H)).bind fun x17 =>
(gd x11 true (bin .leq .int x12 x17)).bind fun x18 =>
(gd x8 false (pickA x11 x18 (B false))).bind fun x19 =>
(pickA x8 (B true) x19).bind fun x20 =>
cond x20 (
leave 0 lo [B false] H) (
(bin .add .int v16 (I 1)).bind fun x21 =>
L20_6 [v1, v2, v3, v4, v5, v14, v15, x21] lo H)) (
(boxO [] [(.p (.v .nilFunc))] H).bind fun r22 =>
((stA 1 r22.1 (.fn 33 [] [v5]) lo r22.2).map fun H' => (undefA, H')).bind fun r23 =>
(ld false 1 r22.1 r23.2).bind fun x24 =>
(callV cfg O x24 [v2] lo r23.2).bind fun r25 =>
(gd r25.1 true (ld false 1 r22.1 r25.2)).bind fun x26 =>
(gd r25.1 true (some v3)).bind fun x27 =>
(gdH r25.1 true (callV cfg O x26 [x27] lo r25.2) r25.2).bind fun r28 =>
(gd r25.1 true (un .not r28.1)).bind fun x29 =>
(pickA r25.1 x29 (B false)).bind fun x30 =>
(gd x30 true (some v1)).bind fun x31 =>
(gd x30 true (some (.fn 36 [] [r22.1]))).bind fun x32 =>
(gdH x30 true (callA cfg O 35 [x31, x32] lo r28.2) r28.2).bind fun r33 =>
(gd x30 true (un .not r33.1)).bind fun x34 =>
(pickA x30 x34 (B false)).bind fun x35 =>
leave 0 lo [x35] r33.2)) := by
  show O.lab _ _ _ _ _ _ = _
  rw [O_lab]
  kernel_rfl
theorem f20_eq (a0 a1 a2 a3 a4 : AV) : O.ent 20 [a0, a1, a2, a3, a4] [] [] = (
(boxO [] (AV.cells a0) []).bind fun r1 =>
(ld false 1 r1.1 r1.2).bind fun x2 =>
(lenA .slice x2 r1.2).bind fun x3 =>
L20_6 [a1, a2, a3, a4, r1.1, x2, x3, I 0] [] r1.2) := by
  rw [O_ent]
  kernel_rfl
-- backstitch/backstitchref4.between
theorem f21_eq (a0 a1 a2 : AV) : O.ent 21 [a0, a1, a2] [] [] = (
(bin .geq .int a0 a1).bind fun x1 =>
(gd x1 true (some a0)).bind fun x2 =>
(gd x1 true (some a2)).bind fun x3 =>
(gd x1 true (bin .leq .int x2 x3)).bind fun x4 =>
(pickA x1 x4 (B false)).bind fun x5 =>
leave 0 [] [x5] []) := by
  rw [O_ent]
  kernel_rfl
-- backstitch/backstitchref4.IsEdge
noncomputable def T22_20 : List It := labAt Try.prog cfg 22 20 (fun _ => none)
noncomputable def L22_20 (vals : List AV) (lo : List Nat) (H : Heap) : Res := O.lab 22 [0, 2, 7, 8, 9, 10, 11, 12, 13] (T22_20) vals lo H
noncomputable def T22_23 : List It := labAt Try.prog cfg 22 23 (fun _ => none)
noncomputable def L22_23 (vals : List AV) (lo : List Nat) (H : Heap) : Res := O.lab 22 [0, 2, 7, 8, 9, 10, 11, 12, 13] (T22_23) vals lo H
noncomputable def T22_29 : List It := labAt Try.prog cfg 22 29 (fun _ => none)
noncomputable def L22_29 (vals : List AV) (lo : List Nat) (H : Heap) : Res := O.lab 22 [0, 2, 7, 8, 9, 10, 11, 12, 13] (T22_29) vals lo H
noncomputable def T22_33 : List It := labAt Try.prog cfg 22 33 (fun _ => none)
noncomputable def L22_33 (vals : List AV) (lo : List Nat) (H : Heap) : Res := O.lab 22 [0, 2, 7, 8, 9, 10, 11, 12, 13] (T22_33) vals lo H
theorem L22_20_eq (lo : List Nat) (v0 v2 v7 v8 v9 v10 v11 v12 v13 : AV) (H : Heap) : L22_20 [v0, v2, v7, v8, v9, v10, v11, v12, v13] lo H = (
(bin .lss .int v13 v2).bind fun x1 =>
cond x1 (
(idxA 12 v0 v13).bind fun x2 =>
(fldA 2 x2).bind fun x3 =>
(ld false 1 x3 H).bind fun x4 =>
(fldA 2 v8).bind fun x5 =>
(ld false 1 x5 H).bind fun x6 =>
(bin .eql .int x4 x6).bind fun x7 =>
cond x7 (
L22_29 [v0, v2, v7, v8, B false, B false, v11, v12, v13] lo H) (
L22_29 [v0, v2, v7, v8, v9, v10, v11, v12, v13] lo H)) (
(gd v9 false (some v10)).bind fun x8 =>
(pickA v9 (B true) x8).bind fun x9 =>
(gd x9 false (some v11)).bind fun x10 =>
(pickA x9 (B true) x10).bind fun x11 =>
(gd x11 false (some v12)).bind fun x12 =>
(pickA x11 (B true) x12).bind fun x13 =>
leave 0 lo [x13] H)) := by
  show O.lab _ _ _ _ _ _ = _
  rw [O_lab]
  kernel_rfl
theorem L22_23_eq (lo : List Nat) (v0 v2 v7 v8 v9 v10 v11 v12 v13 : AV) (H : Heap) : L22_23 [v0, v2, v7, v8, v9, v10, v11, v12, v13] lo H = (
(bin .add .int v13 (I 1)).bind fun x1 =>
L22_20 [v0, v2, v7, v8, v9, v10, v11, v12, x1] lo H) := by
  show O.lab _ _ _ _ _ _ = _
  rw [O_lab]
  kernel_rfl
theorem L22_29_eq (lo : List Nat) (v0 v2 v7 v8 v9 v10 v11 v12 v13 : AV) (H : Heap) : L22_29 [v0, v2, v7, v8, v9, v10, v11, v12, v13] lo H = (
(idxA 12 v0 v13).bind fun x1 =>
(fldA 0 x1).bind fun x2 =>
(ld false 1 x2 H).bind fun x3 =>
(bin .eql .int x3 (I 17)).bind fun x4 =>
(gd x4 true (some v0)).bind fun x5 =>
(gd x4 true (some v13)).bind fun x6 =>
(gd x4 true (idxA 12 x5 x6)).bind fun x7 =>
(gd x4 true (fldA 2 x7)).bind fun x8 =>
(gd x4 true (ld false 1 x8 H)).bind fun x9 =>
(gd x4 true (fldA 2 v7)).bind fun x10 =>
(gd x4 true (ld false 1 x10 H)).bind fun x11 =>
(gd x4 true (bin .eql .int x9 x11)).bind fun x12 =>
(pickA x4 x12 (B false)).bind fun x13 =>
cond x13 (
L22_33 [v0, v2, v7, v8, v9, v10, B false, v12, v13] lo H) (
L22_33 [v0, v2, v7, v8, v9, v10, v11, v12, v13] lo H)) := by
  show O.lab _ _ _ _ _ _ = _
  rw [O_lab]
  kernel_rfl
theorem L22_33_eq (lo : List Nat) (v0 v2 v7 v8 v9 v10 v11 v12 v13 : AV) (H : Heap) : L22_33 [v0, v2, v7, v8, v9, v10, v11, v12, v13] lo H = (
(idxA 12 v0 v13).bind fun x1 =>
(fldA 0 x1).bind fun x2 =>
(ld false 1 x2 H).bind fun x3 =>
(bin .eql .int x3 (I 13)).bind fun x4 =>
(gd x4 true (some v0)).bind fun x5 =>
(gd x4 true (some v13)).bind fun x6 =>
(gd x4 true (idxA 12 x5 x6)).bind fun x7 =>
(gd x4 true (fldA 6 x7)).bind fun x8 =>
(gd x4 true (ld false 1 x8 H)).bind fun x9 =>
(gd x4 true (fldA 6 v7)).bind fun x10 =>
(gd x4 true (ld false 1 x10 H)).bind fun x11 =>
(gd x4 true (bin .eql .int x9 x11)).bind fun x12 =>
(pickA x4 x12 (B false)).bind fun x13 =>
cond x13 (
L22_23 [v0, v2, v7, v8, v9, v10, v11, B false, v13] lo H) (
L22_23 [v0, v2, v7, v8, v9, v10, v11, v12, v13] lo H)) := by
  show O.lab _ _ _ _ _ _ = _
  rw [O_lab]
  kernel_rfl
theorem f22_eq (a0 a1 a2 : AV) : O.ent 22 [a0, a1, a2] [] [] = (
(bin .geq .int a1 a2).bind fun x1 =>
cond x1 (
leave 0 [] [B false] []) (
(idxA 12 a0 a1).bind fun x2 =>
(ldF true 12 x2).bind fun x3 =>
(idxA 12 a0 a2).bind fun x4 =>
(ldF true 12 x4).bind fun x5 =>
(fillA 2 0 [(I 0), (I 0), (I 0), (I 0), (I 0), (I 0), (I 0), (I 0), (I 0), (I 0), (I 0), (I 0)] ([] ++ List.replicate 2 AObj.hole)).bind fun r6 =>
(fillA 2 1 [(I 0), (I 0), (I 0), (I 0), (I 0), (I 0), (I 0), (I 0), (I 0), (I 0), (I 0), (I 0)] r6.2).bind fun r7 =>
((stA 12 r6.1 x3 [] r7.2).map fun H' => (undefA, H')).bind fun r8 =>
((stA 12 r7.1 x5 [] r8.2).map fun H' => (undefA, H')).bind fun r9 =>
(fldA 2 r6.1).bind fun x10 =>
(ld false 1 x10 r9.2).bind fun x11 =>
(fldA 2 r7.1).bind fun x12 =>
(ld false 1 x12 r9.2).bind fun x13 =>
(bin .eql .int x11 x13).bind fun x14 =>
(fldA 0 r6.1).bind fun x15 =>
(ld false 1 x15 r9.2).bind fun x16 =>
(bin .eql .int x16 (I 11)).bind fun x17 =>
(gd x17 true (fldA 6 r6.1)).bind fun x18 =>
(gd x17 true (ld false 1 x18 r9.2)).bind fun x19 =>
(gd x17 true (fldA 2 r7.1)).bind fun x20 =>
(gd x17 true (ld false 1 x20 r9.2)).bind fun x21 =>
(gd x17 true (bin .eql .int x19 x21)).bind fun x22 =>
(pickA x17 x22 (B false)).bind fun x23 =>
(fldA 0 r6.1).bind fun x24 =>
(ld false 1 x24 r9.2).bind fun x25 =>
(bin .eql .int x25 (I 17)).bind fun x26 =>
(gd x26 true (fldA 0 r7.1)).bind fun x27 =>
(gd x26 true (ld false 1 x27 r9.2)).bind fun x28 =>
(gd x26 true (bin .eql .int x28 (I 12))).bind fun x29 =>
(pickA x26 x29 (B false)).bind fun x30 =>
(gd x30 true (fldA 6 r7.1)).bind fun x31 =>
(gd x30 true (ld false 1 x31 r9.2)).bind fun x32 =>
(gd x30 true (fldA 2 r6.1)).bind fun x33 =>
(gd x30 true (ld false 1 x33 r9.2)).bind fun x34 =>
(gd x30 true (bin .eql .int x32 x34)).bind fun x35 =>
(pickA x30 x35 (B false)).bind fun x36 =>
(fldA 0 r6.1).bind fun x37 =>
(ld false 1 x37 r9.2).bind fun x38 =>
(bin .eql .int x38 (I 14)).bind fun x39 =>
(gd x39 true (fldA 0 r7.1)).bind fun x40 =>
(gd x39 true (ld false 1 x40 r9.2)).bind fun x41 =>
(gd x39 true (bin .eql .int x41 (I 13))).bind fun x42 =>
(pickA x39 x42 (B false)).bind fun x43 =>
(gd x43 true (fldA 6 r6.1)).bind fun x44 =>
(gd x43 true (ld false 1 x44 r9.2)).bind fun x45 =>
(gd x43 true (fldA 6 r7.1)).bind fun x46 =>
(gd x43 true (ld false 1 x46 r9.2)).bind fun x47 =>
(gd x43 true (bin .eql .int x45 x47)).bind fun x48 =>
(pickA x43 x48 (B false)).bind fun x49 =>
(bin .add .int a1 (I 1)).bind fun x50 =>
L22_20 [a0, a2, r6.1, r7.1, x14, x23, x36, x49, x50] [] r9.2)) := by
  rw [O_ent]
  kernel_rfl
-- backstitch/backstitchref4.HasInt
noncomputable def T23_6 : List It := labAt Try.prog cfg 23 6 (fun _ => none)
noncomputable def L23_6 (vals : List AV) (lo : List Nat) (H : Heap) : Res := O.lab 23 [0, 1, 5] (T23_6) vals lo H
theorem L23_6_eq (lo : List Nat) (v0 v1 v5 : AV) (H : Heap) : L23_6 [v0, v1, v5] lo H = (
(lenA .slice v0 H).bind fun x1 =>
(bin .lss .int v5 x1).bind fun x2 =>
cond x2 (
(idxA 1 v0 v5).bind fun x3 =>
(ld false 1 x3 H).bind fun x4 =>
(bin .eql .int x4 v1).bind fun x5 =>
cond x5 (
leave 0 lo [B true] H) (
(bin .add .int v5 (I 1)).bind fun x6 =>
L23_6 [v0, v1, x6] lo H)) (
leave 0 lo [B false] H)) := by
  show O.lab _ _ _ _ _ _ = _
  rw [O_lab]
  kernel_rfl
theorem f23_eq (a0 a1 : AV) : O.ent 23 [a0, a1] [] [] = (
L23_6 [a0, a1, I 0] [] []) := by
  rw [O_ent]
  kernel_rfl
-- backstitch/clocks.check
theorem f24_eq (a0 a1 : AV) : O.ent 24 [a0, a1] [] [] = (
(boxO [] (AV.cells a1) []).bind fun r1 =>
(lenA .slice a0 r1.2).bind fun x2 =>
(bin .gtr .int x2 (I 200)).bind fun x3 =>
cond x3 (
leave 0 [] [I 2] r1.2) (
(ld false 1 r1.1 r1.2).bind fun x4 =>
(bin .lss .int x4 (I 0)).bind fun x5 =>
(gd x5 false (ld false 1 r1.1 r1.2)).bind fun x6 =>
(gd x5 false (bin .gtr .int x6 (I 8))).bind fun x7 =>
(pickA x5 (B true) x7).bind fun x8 =>
cond x8 (
leave 0 [] [I 1] r1.2) (
(callA cfg O 37 [a0, .fn 38 [] [r1.1]] [] r1.2).bind fun r9 =>
cond r9.1 (
leave 0 [] [I 1] r9.2) (
leave 0 [] [I 0] r9.2)))) := by
  rw [O_ent]
  kernel_rfl
-- backstitch/clocks.clocks
noncomputable def T25_8 : List It := labAt Try.prog cfg 25 8 (fun _ => none)
noncomputable def L25_8 (vals : List AV) (lo : List Nat) (H : Heap) : Res := O.lab 25 [0, 1, 5, 16, 17] (T25_8) vals lo H
noncomputable def T25_20 : List It := labAt Try.prog cfg 25 20 (fun _ => none)
noncomputable def L25_20 (vals : List AV) (lo : List Nat) (H : Heap) : Res := O.lab 25 [5, 7, 28, 29, 30] (T25_20) vals lo H
noncomputable def T25_24 : List It := labAt Try.prog cfg 25 24 (fun _ => none)
noncomputable def L25_24 (vals : List AV) (lo : List Nat) (H : Heap) : Res := O.lab 25 [5, 7, 8, 9, 28, 29, 30] (T25_24) vals lo H
noncomputable def T25_28 : List It := labAt Try.prog cfg 25 28 (fun _ => none)
noncomputable def L25_28 (vals : List AV) (lo : List Nat) (H : Heap) : Res := O.lab 25 [5, 7, 8, 9, 28, 29, 30, 52, 53, 54] (T25_28) vals lo H
theorem L25_8_eq (lo : List Nat) (v0 v1 v5 v16 v17 : AV) (H : Heap) : L25_8 [v0, v1, v5, v16, v17] lo H = (
(bin .lss .int v17 v16).bind fun x1 =>
cond x1 (
(mkRow 1 8 [(.v (.int .i64 0))] v1 v1 H).bind fun r2 =>
(idxA 1 v5 v17).bind fun x3 =>
((stA 1 x3 r2.1 lo r2.2).map fun H' => (undefA, H')).bind fun r4 =>
(bin .add .int v17 (I 1)).bind fun x5 =>
L25_8 [v0, v1, v5, v16, x5] lo r4.2) (
(callA cfg O 29 [v0] lo H).bind fun r6 =>
(lenA .slice v0 r6.2).bind fun x7 =>
L25_20 [v5, r6.1, v0, x7, I 0] lo r6.2)) := by
  show O.lab _ _ _ _ _ _ = _
  rw [O_lab]
  kernel_rfl
theorem L25_20_eq (lo : List Nat) (v5 v7 v28 v29 v30 : AV) (H : Heap) : L25_20 [v5, v7, v28, v29, v30] lo H = (
(bin .lss .int v30 v29).bind fun x1 =>
cond x1 (
(idxA 12 v28 v30).bind fun x2 =>
(ld true 12 x2 H).bind fun x3 =>
(boxO [] [(I 0), (I 0), (I 0), (I 0), (I 0), (I 0), (I 0), (I 0), (I 0), (I 0), (I 0), (I 0)] H).bind fun r4 =>
((stA 12 r4.1 x3 lo r4.2).map fun H' => (undefA, H')).bind fun r5 =>
L25_24 [v5, v7, v30, r4.1, v28, v29, v30] lo r5.2) (
leave 0 lo [v5] H)) := by
  show O.lab _ _ _ _ _ _ = _
  rw [O_lab]
  kernel_rfl
theorem L25_24_eq (lo : List Nat) (v5 v7 v8 v9 v28 v29 v30 : AV) (H : Heap) : L25_24 [v5, v7, v8, v9, v28, v29, v30] lo H = (
(lenA .slice v7 H).bind fun x1 =>
(bin .gtr .int x1 (I 0)).bind fun x2 =>
(gd x2 true (some v7)).bind fun x3 =>
(gd x2 true (idxA 2 x3 (I 0))).bind fun x4 =>
(gd x2 true (fldA 1 x4)).bind fun x5 =>
(gd x2 true (ld false 1 x5 H)).bind fun x6 =>
(gd x2 true (some v8)).bind fun x7 =>
(gd x2 true (bin .eql .int x6 x7)).bind fun x8 =>
(pickA x2 x8 (B false)).bind fun x9 =>
cond x9 (
(idxA 2 v7 (I 0)).bind fun x10 =>
(fldA 0 x10).bind fun x11 =>
(ld false 1 x11 H).bind fun x12 =>
(idxA 1 v5 x12).bind fun x13 =>
(ld false 1 x13 H).bind fun x14 =>
(lenA .slice x14 H).bind fun x15 =>
L25_28 [v5, v7, v8, v9, v28, v29, v30, x14, x15, I 0] lo H) (
(idxA 1 v5 v8).bind fun x16 =>
(ld false 1 x16 H).bind fun x17 =>
(fldA 2 v9).bind fun x18 =>
(ld false 1 x18 H).bind fun x19 =>
(idxA 1 x17 x19).bind fun x20 =>
(ld false 1 x20 H).bind fun x21 =>
(bin .add .int x21 (I 1)).bind fun x22 =>
(idxA 1 x17 x19).bind fun x23 =>
((stA 1 x23 x22 lo H).map fun H' => (undefA, H')).bind fun r24 =>
(bin .add .int v30 (I 1)).bind fun x25 =>
L25_20 [v5, v7, v28, v29, x25] lo r24.2)) := by
  show O.lab _ _ _ _ _ _ = _
  rw [O_lab]
  kernel_rfl
theorem L25_28_eq (lo : List Nat) (v5 v7 v8 v9 v28 v29 v30 v52 v53 v54 : AV) (H : Heap) : L25_28 [v5, v7, v8, v9, v28, v29, v30, v52, v53, v54] lo H = (
(bin .lss .int v54 v53).bind fun x1 =>
cond x1 (
(idxA 1 v52 v54).bind fun x2 =>
(ld false 1 x2 H).bind fun x3 =>
(idxA 1 v5 v8).bind fun x4 =>
(ld false 1 x4 H).bind fun x5 =>
(idxA 1 v5 v8).bind fun x6 =>
(ld false 1 x6 H).bind fun x7 =>
(idxA 1 x7 v54).bind fun x8 =>
(ld false 1 x8 H).bind fun x9 =>
(bests true x9 [x3]).bind fun x10 =>
(idxA 1 x5 v54).bind fun x11 =>
((stA 1 x11 x10 lo H).map fun H' => (undefA, H')).bind fun r12 =>
(bin .add .int v54 (I 1)).bind fun x13 =>
L25_28 [v5, v7, v8, v9, v28, v29, v30, v52, v53, x13] lo r12.2) (
(cutA 2 v7 (some (I 1)) none none H).bind fun x14 =>
L25_24 [v5, x14, v8, v9, v28, v29, v30] lo H)) := by
  show O.lab _ _ _ _ _ _ = _
  rw [O_lab]
  kernel_rfl
theorem f25_eq (a0 a1 : AV) : O.ent 25 [a0, a1] [] [] = (
(lenA .slice a0 []).bind fun x1 =>
(mkBsl 1 24 [nilS] x1 x1 []).bind fun r2 =>
(lenA .slice a0 r2.2).bind fun x3 =>
L25_8 [a0, a1, r2.1, x3, I 0] [] r2.2) := by
  rw [O_ent]
  kernel_rfl
-- backstitch/race.slot
theorem f26_eq (a0 : AV) : O.ent 26 [a0] [] [] = (
(boxO [] (AV.cells a0) []).bind fun r1 =>
(fldA 0 r1.1).bind fun x2 =>
(ld false 1 x2 r1.2).bind fun x3 =>
(bin .eql .int x3 (I 3)).bind fun x4 =>
(gd x4 false (fldA 0 r1.1)).bind fun x5 =>
(gd x4 false (ld false 1 x5 r1.2)).bind fun x6 =>
(gd x4 false (bin .eql .int x6 (I 4))).bind fun x7 =>
(pickA x4 (B true) x7).bind fun x8 =>
leave 0 [] [x8] r1.2) := by
  rw [O_ent]
  kernel_rfl
-- backstitch/clocks.pair
noncomputable def T27_11 : List It := labAt Try.prog cfg 27 11 (fun _ => none)
noncomputable def L27_11 (vals : List AV) (lo : List Nat) (H : Heap) : Res := O.lab 27 [9] (T27_11) vals lo H
theorem L27_11_eq (lo : List Nat) (v9 : AV) (H : Heap) : L27_11 [v9] lo H = (
leave 0 lo [v9] H) := by
  show O.lab _ _ _ _ _ _ = _
  rw [O_lab]
  kernel_rfl
theorem f27_eq (a0 a1 a2 a3 : AV) : O.ent 27 [a0, a1, a2, a3] [] [] = (
(callA cfg O 24 [a0, a1] [] []).bind fun r1 =>
(bin .eql .int r1.1 (I 0)).bind fun x2 =>
(gd x2 true (some a2)).bind fun x3 =>
(gd x2 true (bin .lss .int x3 (I 0))).bind fun x4 =>
(gd x2 true (some x4)).bind fun x5 =>
(gd x5 false (some a2)).bind fun x6 =>
(gd x5 false (some a0)).bind fun x7 =>
(gd x5 false (lenA .slice x7 r1.2)).bind fun x8 =>
(gd x5 false (bin .geq .int x6 x8)).bind fun x9 =>
(gd x2 true (pickA x5 (B true) x9)).bind fun x10 =>
(gd x2 true (some x10)).bind fun x11 =>
(gd x11 false (some a3)).bind fun x12 =>
(gd x11 false (bin .lss .int x12 (I 0))).bind fun x13 =>
(gd x2 true (pickA x11 (B true) x13)).bind fun x14 =>
(gd x2 true (some x14)).bind fun x15 =>
(gd x15 false (some a3)).bind fun x16 =>
(gd x15 false (some a0)).bind fun x17 =>
(gd x15 false (lenA .slice x17 r1.2)).bind fun x18 =>
(gd x15 false (bin .geq .int x16 x18)).bind fun x19 =>
(gd x2 true (pickA x15 (B true) x19)).bind fun x20 =>
(pickA x2 x20 (B false)).bind fun x21 =>
cond x21 (
L27_11 [I 1] [] r1.2) (
L27_11 [r1.1] [] r1.2)) := by
  rw [O_ent]
  kernel_rfl
-- backstitch/clocks.before
theorem f28_eq (a0 a1 a2 a3 : AV) : O.ent 28 [a0, a1, a2, a3] [] [] = (
(idxA 12 a0 a2).bind fun x1 =>
(fldA 2 x1).bind fun x2 =>
(ld false 1 x2 []).bind fun x3 =>
(bin .neq .int a2 a3).bind fun x4 =>
(gd x4 true (some a1)).bind fun x5 =>
(gd x4 true (some a2)).bind fun x6 =>
(gd x4 true (idxA 1 x5 x6)).bind fun x7 =>
(gd x4 true (ld false 1 x7 [])).bind fun x8 =>
(gd x4 true (some x3)).bind fun x9 =>
(gd x4 true (idxA 1 x8 x9)).bind fun x10 =>
(gd x4 true (ld false 1 x10 [])).bind fun x11 =>
(gd x4 true (some a1)).bind fun x12 =>
(gd x4 true (some a3)).bind fun x13 =>
(gd x4 true (idxA 1 x12 x13)).bind fun x14 =>
(gd x4 true (ld false 1 x14 [])).bind fun x15 =>
(gd x4 true (some x3)).bind fun x16 =>
(gd x4 true (idxA 1 x15 x16)).bind fun x17 =>
(gd x4 true (ld false 1 x17 [])).bind fun x18 =>
(gd x4 true (bin .leq .int x11 x18)).bind fun x19 =>
(pickA x4 x19 (B false)).bind fun x20 =>
leave 0 [] [x20] []) := by
  rw [O_ent]
  kernel_rfl
-- backstitch/clocks.edges
noncomputable def T29_8 : List It := labAt Try.prog cfg 29 8 (fun _ => none)
noncomputable def L29_8 (vals : List AV) (lo : List Nat) (H : Heap) : Res := O.lab 29 [3, 12, 13, 14] (T29_8) vals lo H
theorem L29_8_eq (lo : List Nat) (v3 v12 v13 v14 : AV) (H : Heap) : L29_8 [v3, v12, v13, v14] lo H = (
(bin .lss .int v14 v13).bind fun x1 =>
cond x1 (
(idxA 12 v12 v14).bind fun x2 =>
(ld true 12 x2 H).bind fun x3 =>
(boxO [] [(I 0), (I 0), (I 0), (I 0), (I 0), (I 0), (I 0), (I 0), (I 0), (I 0), (I 0), (I 0)] H).bind fun r4 =>
((stA 12 r4.1 x3 lo r4.2).map fun H' => (undefA, H')).bind fun r5 =>
(ld true 12 r4.1 r5.2).bind fun x6 =>
(callA cfg O 39 [v3, v14, x6] lo r5.2).bind fun r7 =>
(bin .add .int v14 (I 1)).bind fun x8 =>
L29_8 [v3, v12, v13, x8] lo r7.2) (
(nilCheckA v3).bind fun x9 =>
(fldA 4 x9).bind fun x10 =>
(ld false 1 x10 H).bind fun x11 =>
(callA cfg O 40 [x11, .fn 41 [] []] lo H).bind fun r12 =>
(nilCheckA v3).bind fun x13 =>
(fldA 4 x13).bind fun x14 =>
(ld false 1 x14 r12.2).bind fun x15 =>
(callA cfg O 44 [x15] lo r12.2).bind fun r16 =>
leave 0 lo [r16.1] r16.2)) := by
  show O.lab _ _ _ _ _ _ = _
  rw [O_lab]
  kernel_rfl
theorem f29_eq (a0 : AV) : O.ent 29 [a0] [] [] = (
(some (mkMap [])).bind fun r1 =>
(some (mkMap r1.2)).bind fun r2 =>
(some (mkMap r2.2)).bind fun r3 =>
(some (mkMap r3.2)).bind fun r4 =>
(buildA [(.p (.v (.map none))), (.p (.v (.map none))), (.p (.v (.map none))), (.p (.v (.map none))), (.p nilS)] [(0, 1, r1.1), (1, 1, r2.1), (2, 1, r3.1), (3, 1, r4.1)]).bind fun x5 =>
(boxO [] (AV.cells x5) r4.2).bind fun r6 =>
(lenA .slice a0 r6.2).bind fun x7 =>
L29_8 [r6.1, a0, x7, I 0] [] r6.2) := by
  rw [O_ent]
  kernel_rfl
-- slices.Backward[[]backstitch/api.DPair,backstitch/api.DPair]
theorem f30_eq (a0 : AV) (lo : List Nat) (H : Heap) : O.ent 30 [a0] lo H = (
(boxO [] (AV.cells a0) H).bind fun r1 =>
leave 4 lo [.fn 45 [] [r1.1]] r1.2) := by
  rw [O_ent]
  kernel_rfl
-- slices.Contains[[]int,int]
theorem f31_eq (a0 a1 : AV) : O.ent 31 [a0, a1] [] [] = (
(callA cfg O 46 [a0, a1] [] []).bind fun r1 =>
(bin .geq .int r1.1 (I 0)).bind fun x2 =>
leave 0 [] [x2] r1.2) := by
  rw [O_ent]
  kernel_rfl
-- backstitch/race.closed$1
theorem f33_eq (a0 a1 : AV) (lo : List Nat) (H : Heap) : O.ent 33 [a0, a1] lo H = (
(ld false 1 a1 H).bind fun x1 =>
(callA cfg O 34 [x1, a0] (List.length H :: lo) H).bind fun r2 =>
(extractA r2.1 0).bind fun x3 =>
(extractA r2.1 1).bind fun x4 =>
leave 3 (List.length H :: lo) [x4] r2.2) := by
  rw [O_ent]
  kernel_rfl
-- slices.ContainsFunc[[]backstitch/api.DPair,backstitch/api.DPair]
theorem f35_eq (a0 a1 : AV) (lo : List Nat) (H : Heap) : O.ent 35 [a0, a1] lo H = (
(callA cfg O 51 [a0, a1] (List.length H :: lo) H).bind fun r1 =>
(bin .geq .int r1.1 (I 0)).bind fun x2 =>
leave 3 (List.length H :: lo) [x2] r1.2) := by
  rw [O_ent]
  kernel_rfl
-- backstitch/race.closed$2
theorem f36_eq (a0 a1 : AV) (lo : List Nat) (H : Heap) : O.ent 36 [a0, a1] lo H = (
(boxO [] (AV.cells a0) H).bind fun r1 =>
(ld false 1 a1 r1.2).bind fun x2 =>
(fldA 1 r1.1).bind fun x3 =>
(ld false 1 x3 r1.2).bind fun x4 =>
(callV cfg O x2 [x4] (List.length H :: lo) r1.2).bind fun r5 =>
(gd r5.1 true (ld false 1 a1 r5.2)).bind fun x6 =>
(gd r5.1 true (fldA 0 r1.1)).bind fun x7 =>
(gd r5.1 true (ld false 1 x7 r5.2)).bind fun x8 =>
(gdH r5.1 true (callV cfg O x6 [x8] (List.length H :: lo) r5.2) r5.2).bind fun r9 =>
(gd r5.1 true (un .not r9.1)).bind fun x10 =>
(pickA r5.1 x10 (B false)).bind fun x11 =>
leave 3 (List.length H :: lo) [x11] r9.2) := by
  rw [O_ent]
  kernel_rfl
-- slices.ContainsFunc[[]backstitch/api.Event,backstitch/api.Event]
theorem f37_eq (a0 a1 : AV) (lo : List Nat) (H : Heap) : O.ent 37 [a0, a1] lo H = (
(callA cfg O 52 [a0, a1] lo H).bind fun r1 =>
(bin .geq .int r1.1 (I 0)).bind fun x2 =>
leave 1 lo [x2] r1.2) := by
  rw [O_ent]
  kernel_rfl
-- backstitch/clocks.check$1
theorem f38_eq (a0 a1 : AV) (lo : List Nat) (H : Heap) : O.ent 38 [a0, a1] lo H = (
(boxO [] (AV.cells a0) H).bind fun r1 =>
(fldA 2 r1.1).bind fun x2 =>
(ld false 1 x2 r1.2).bind fun x3 =>
(bin .lss .int x3 (I 0)).bind fun x4 =>
(gd x4 false (fldA 2 r1.1)).bind fun x5 =>
(gd x4 false (ld false 1 x5 r1.2)).bind fun x6 =>
(gd x4 false (ld false 1 a1 r1.2)).bind fun x7 =>
(gd x4 false (bin .geq .int x6 x7)).bind fun x8 =>
(pickA x4 (B true) x8).bind fun x9 =>
leave 3 (List.length H :: lo) [x9] r1.2) := by
  rw [O_ent]
  kernel_rfl
-- (*backstitch/clocks.weaver).event
noncomputable def T39_11 : List It := labAt Try.prog cfg 39 11 (fun _ => none)
noncomputable def L39_11 (vals : List AV) (lo : List Nat) (H : Heap) : Res := O.lab 39 [0, 1, 5] (T39_11) vals lo H
theorem L39_11_eq (lo : List Nat) (v0 v1 v5 : AV) (H : Heap) : L39_11 [v0, v1, v5] lo H = (
(nilCheckA v0).bind fun x1 =>
(fldA 1 x1).bind fun x2 =>
(ld false 1 x2 H).bind fun x3 =>
(fldA 2 v5).bind fun x4 =>
(ld false 1 x4 H).bind fun x5 =>
(lookA .int (.p nilS) false x3 x5 H).bind fun x6 =>
(callA cfg O 54 [v0, x6, v1] lo H).bind fun r7 =>
(nilCheckA v0).bind fun x8 =>
(fldA 1 x8).bind fun x9 =>
(ld false 1 x9 r7.2).bind fun x10 =>
(fldA 2 v5).bind fun x11 =>
(ld false 1 x11 r7.2).bind fun x12 =>
((delA .int x10 x12 r7.2).map fun H' => (undefA, H')).bind fun r13 =>
(nilCheckA v0).bind fun x14 =>
(fldA 0 x14).bind fun x15 =>
(ld false 1 x15 r13.2).bind fun x16 =>
(fldA 2 v5).bind fun x17 =>
(ld false 1 x17 r13.2).bind fun x18 =>
((mapUpdA .int x16 x18 v1 lo r13.2).map fun H' => (undefA, H')).bind fun r19 =>
(fldA 0 v5).bind fun x20 =>
(ld false 1 x20 r19.2).bind fun x21 =>
(bin .eql .int x21 (I 11)).bind fun x22 =>
cond x22 (
(nilCheckA v0).bind fun x23 =>
(fldA 1 x23).bind fun x24 =>
(ldS false 1 x24 r19.2).bind fun x25 =>
(fldA 6 v5).bind fun x26 =>
(ldS false 1 x26 r19.2).bind fun x27 =>
(nilCheckA v0).bind fun x28 =>
(fldA 1 x28).bind fun x29 =>
(ld false 1 x29 r19.2).bind fun x30 =>
(fldA 6 v5).bind fun x31 =>
(ld false 1 x31 r19.2).bind fun x32 =>
(lookA .int (.p nilS) false x30 x32 r19.2).bind fun x33 =>
(litP 1 [v1]).bind fun x34 =>
(appA 1 8 x33 x34 r19.2).bind fun r35 =>
((mapUpdA .int x25 x27 r35.1 lo r35.2).map fun H' => (undefA, H')).bind fun r36 =>
leave 1 lo [] r36.2) (
(bin .eql .int x21 (I 17)).bind fun x37 =>
cond x37 (
(nilCheckA v0).bind fun x38 =>
(fldA 2 x38).bind fun x39 =>
(ld false 1 x39 r19.2).bind fun x40 =>
(fldA 2 v5).bind fun x41 =>
(ld false 1 x41 r19.2).bind fun x42 =>
((mapUpdA .int x40 x42 v1 lo r19.2).map fun H' => (undefA, H')).bind fun r43 =>
leave 1 lo [] r43.2) (
(bin .eql .int x21 (I 12)).bind fun x44 =>
cond x44 (
(nilCheckA v0).bind fun x45 =>
(fldA 2 x45).bind fun x46 =>
(ld false 1 x46 r19.2).bind fun x47 =>
(fldA 6 v5).bind fun x48 =>
(ld false 1 x48 r19.2).bind fun x49 =>
(lookA .int (I 0) true x47 x49 r19.2).bind fun x50 =>
(extractA x50 0).bind fun x51 =>
(extractA x50 1).bind fun x52 =>
cond x52 (
(callA cfg O 53 [v0, x51, v1] lo r19.2).bind fun r53 =>
leave 1 lo [] r53.2) (
leave 1 lo [] r19.2)) (
(bin .eql .int x21 (I 14)).bind fun x54 =>
cond x54 (
(nilCheckA v0).bind fun x55 =>
(fldA 3 x55).bind fun x56 =>
(ldS false 1 x56 r19.2).bind fun x57 =>
(fldA 6 v5).bind fun x58 =>
(ldS false 1 x58 r19.2).bind fun x59 =>
(nilCheckA v0).bind fun x60 =>
(fldA 3 x60).bind fun x61 =>
(ld false 1 x61 r19.2).bind fun x62 =>
(fldA 6 v5).bind fun x63 =>
(ld false 1 x63 r19.2).bind fun x64 =>
(lookA .int (.p nilS) false x62 x64 r19.2).bind fun x65 =>
(litP 1 [v1]).bind fun x66 =>
(appA 1 8 x65 x66 r19.2).bind fun r67 =>
((mapUpdA .int x57 x59 r67.1 lo r67.2).map fun H' => (undefA, H')).bind fun r68 =>
leave 1 lo [] r68.2) (
(bin .eql .int x21 (I 13)).bind fun x69 =>
cond x69 (
(nilCheckA v0).bind fun x70 =>
(fldA 3 x70).bind fun x71 =>
(ld false 1 x71 r19.2).bind fun x72 =>
(fldA 6 v5).bind fun x73 =>
(ld false 1 x73 r19.2).bind fun x74 =>
(lookA .int (.p nilS) false x72 x74 r19.2).bind fun x75 =>
(callA cfg O 54 [v0, x75, v1] lo r19.2).bind fun r76 =>
(nilCheckA v0).bind fun x77 =>
(fldA 3 x77).bind fun x78 =>
(ld false 1 x78 r76.2).bind fun x79 =>
(fldA 6 v5).bind fun x80 =>
(ld false 1 x80 r76.2).bind fun x81 =>
((delA .int x79 x81 r76.2).map fun H' => (undefA, H')).bind fun r82 =>
leave 1 lo [] r82.2) (
leave 1 lo [] r19.2)))))) := by
  show O.lab _ _ _ _ _ _ = _
  rw [O_lab]
  kernel_rfl
theorem f39_eq (a0 a1 a2 : AV) (lo : List Nat) (H : Heap) : O.ent 39 [a0, a1, a2] lo H = (
(boxO [] (AV.cells a2) H).bind fun r1 =>
(nilCheckA a0).bind fun x2 =>
(fldA 0 x2).bind fun x3 =>
(ld false 1 x3 r1.2).bind fun x4 =>
(fldA 2 r1.1).bind fun x5 =>
(ld false 1 x5 r1.2).bind fun x6 =>
(lookA .int (I 0) true x4 x6 r1.2).bind fun x7 =>
(extractA x7 0).bind fun x8 =>
(extractA x7 1).bind fun x9 =>
cond x9 (
(callA cfg O 53 [a0, x8, a1] lo r1.2).bind fun r10 =>
L39_11 [a0, a1, r1.1] lo r10.2) (
L39_11 [a0, a1, r1.1] lo r1.2)) := by
  rw [O_ent]
  kernel_rfl
-- backstitch/clocks.edges$1
theorem f41_eq (a0 a1 : AV) : O.ent 41 [a0, a1] [] [] = (
(boxO [] (AV.cells a0) []).bind fun r1 =>
(boxO [] (AV.cells a1) r1.2).bind fun r2 =>
(fldA 1 r1.1).bind fun x3 =>
(ld false 1 x3 r2.2).bind fun x4 =>
(fldA 1 r2.1).bind fun x5 =>
(ld false 1 x5 r2.2).bind fun x6 =>
(callA cfg O 43 [x4, x6] [] r2.2).bind fun r7 =>
(fldA 0 r1.1).bind fun x8 =>
(ld false 1 x8 r7.2).bind fun x9 =>
(fldA 0 r2.1).bind fun x10 =>
(ld false 1 x10 r7.2).bind fun x11 =>
(callA cfg O 43 [x9, x11] [] r7.2).bind fun r12 =>
(litA false 1 [r7.1, r12.1] r12.2).bind fun r13 =>
(callA cfg O 42 [r13.1] [] r13.2).bind fun r14 =>
leave 0 [] [r14.1] r14.2) := by
  rw [O_ent]
  kernel_rfl
-- slices.Compact[[]backstitch/api.DPair,backstitch/api.DPair]
noncomputable def T44_10 : List It := labAt Try.prog cfg 44 10 (fun _ => none)
noncomputable def L44_10 (vals : List AV) (lo : List Nat) (H : Heap) : Res := O.lab 44 [0, 3] (T44_10) vals lo H
noncomputable def T44_20 : List It := labAt Try.prog cfg 44 20 (fun _ => none)
noncomputable def L44_20 (vals : List AV) (lo : List Nat) (H : Heap) : Res := O.lab 44 [0, 3, 4, 5] (T44_20) vals lo H
noncomputable def T44_23 : List It := labAt Try.prog cfg 44 23 (fun _ => none)
noncomputable def L44_23 (vals : List AV) (lo : List Nat) (H : Heap) : Res := O.lab 44 [0, 3, 4, 5] (T44_23) vals lo H
theorem L44_10_eq (lo : List Nat) (v0 v3 : AV) (H : Heap) : L44_10 [v0, v3] lo H = (
(lenA .slice v0 H).bind fun x1 =>
(bin .lss .int v3 x1).bind fun x2 =>
cond x2 (
(idxA 2 v0 v3).bind fun x3 =>
(ld true 2 x3 H).bind fun x4 =>
(bin .sub .int v3 (I 1)).bind fun x5 =>
(idxA 2 v0 x5).bind fun x6 =>
(ld true 2 x6 H).bind fun x7 =>
(bin .eql (.agg 2 [(0, .int), (1, .int)]) x4 x7).bind fun x8 =>
cond x8 (
(cutA 2 v0 (some v3) none none H).bind fun x9 =>
L44_20 [v0, v3, x9, I 1] lo H) (
(bin .add .int v3 (I 1)).bind fun x10 =>
L44_10 [v0, x10] lo H)) (
leave 1 lo [v0] H)) := by
  show O.lab _ _ _ _ _ _ = _
  rw [O_lab]
  kernel_rfl
theorem L44_20_eq (lo : List Nat) (v0 v3 v4 v5 : AV) (H : Heap) : L44_20 [v0, v3, v4, v5] lo H = (
(lenA .slice v4 H).bind fun x1 =>
(bin .lss .int v5 x1).bind fun x2 =>
cond x2 (
(idxA 2 v4 v5).bind fun x3 =>
(ld true 2 x3 H).bind fun x4 =>
(bin .sub .int v5 (I 1)).bind fun x5 =>
(idxA 2 v4 x5).bind fun x6 =>
(ld true 2 x6 H).bind fun x7 =>
(bin .neq (.agg 2 [(0, .int), (1, .int)]) x4 x7).bind fun x8 =>
cond x8 (
(idxA 2 v4 v5).bind fun x9 =>
(ld true 2 x9 H).bind fun x10 =>
(idxA 2 v0 v3).bind fun x11 =>
((stA 2 x11 x10 lo H).map fun H' => (undefA, H')).bind fun r12 =>
(bin .add .int v3 (I 1)).bind fun x13 =>
L44_23 [v0, x13, v4, v5] lo r12.2) (
L44_23 [v0, v3, v4, v5] lo H)) (
(cutA 2 v0 (some v3) none none H).bind fun x14 =>
((clearA 2 [(.v (.int .i64 0)), (.v (.int .i64 0))] x14 H).map fun H' => (undefA, H')).bind fun r15 =>
(cutA 2 v0 none (some v3) none r15.2).bind fun x16 =>
leave 1 lo [x16] r15.2)) := by
  show O.lab _ _ _ _ _ _ = _
  rw [O_lab]
  kernel_rfl
theorem L44_23_eq (lo : List Nat) (v0 v3 v4 v5 : AV) (H : Heap) : L44_23 [v0, v3, v4, v5] lo H = (
(bin .add .int v5 (I 1)).bind fun x1 =>
L44_20 [v0, v3, v4, x1] lo H) := by
  show O.lab _ _ _ _ _ _ = _
  rw [O_lab]
  kernel_rfl
theorem f44_eq (a0 : AV) (lo : List Nat) (H : Heap) : O.ent 44 [a0] lo H = (
(lenA .slice a0 H).bind fun x1 =>
(bin .lss .int x1 (I 2)).bind fun x2 =>
cond x2 (
leave 1 lo [a0] H) (
L44_10 [a0, I 1] lo H)) := by
  rw [O_ent]
  kernel_rfl
-- slices.Backward[[]backstitch/api.DPair,backstitch/api.DPair]$1
noncomputable def T45_4 : List It := labAt Try.prog cfg 45 4 (fun _ => none)
noncomputable def L45_4 (vals : List AV) (lo : List Nat) (H : Heap) : Res := O.lab 45 [0, 1, 3] (T45_4) vals lo H
theorem L45_4_eq (lo : List Nat) (v0 v1 v3 : AV) (H : Heap) : L45_4 [v0, v1, v3] lo H = (
(bin .geq .int v3 (I 0)).bind fun x1 =>
cond x1 (
(ld false 1 v1 H).bind fun x2 =>
(idxA 2 x2 v3).bind fun x3 =>
(ld true 2 x3 H).bind fun x4 =>
(callV cfg O v0 [v3, x4] lo H).bind fun r5 =>
(un .not r5.1).bind fun x6 =>
cond x6 (
leave 0 lo [] r5.2) (
(bin .sub .int v3 (I 1)).bind fun x7 =>
L45_4 [v0, v1, x7] lo r5.2)) (
leave 0 lo [] H)) := by
  show O.lab _ _ _ _ _ _ = _
  rw [O_lab]
  kernel_rfl
theorem f45_eq (a0 a1 : AV) : O.ent 45 [a0, a1] [] [] = (
(ld false 1 a1 []).bind fun x1 =>
(lenA .slice x1 []).bind fun x2 =>
(bin .sub .int x2 (I 1)).bind fun x3 =>
L45_4 [a0, a1, x3] [] []) := by
  rw [O_ent]
  kernel_rfl
-- slices.Index[[]int,int]
noncomputable def T46_6 : List It := labAt Try.prog cfg 46 6 (fun _ => none)
noncomputable def L46_6 (vals : List AV) (lo : List Nat) (H : Heap) : Res := O.lab 46 [0, 1, 7, 8] (T46_6) vals lo H
theorem L46_6_eq (lo : List Nat) (v0 v1 v7 v8 : AV) (H : Heap) : L46_6 [v0, v1, v7, v8] lo H = (
(bin .lss .int v8 v7).bind fun x1 =>
cond x1 (
(idxA 1 v0 v8).bind fun x2 =>
(ld false 1 x2 H).bind fun x3 =>
(bin .eql .int v1 x3).bind fun x4 =>
cond x4 (
leave 0 lo [v8] H) (
(bin .add .int v8 (I 1)).bind fun x5 =>
L46_6 [v0, v1, v7, x5] lo H)) (
leave 0 lo [I (-1)] H)) := by
  show O.lab _ _ _ _ _ _ = _
  rw [O_lab]
  kernel_rfl
theorem f46_eq (a0 a1 : AV) : O.ent 46 [a0, a1] [] [] = (
(lenA .slice a0 []).bind fun x1 =>
L46_6 [a0, a1, x1, I 0] [] []) := by
  rw [O_ent]
  kernel_rfl
-- slices.BinarySearch[[]int,int]
noncomputable def T34_8 : List It := labAt Try.prog cfg 34 8 (fun _ => none)
noncomputable def L34_8 (vals : List AV) (lo : List Nat) (H : Heap) : Res := O.lab 34 [0, 1, 6, 7, 8] (T34_8) vals lo H
theorem L34_8_eq (lo : List Nat) (v0 v1 v6 v7 v8 : AV) (H : Heap) : L34_8 [v0, v1, v6, v7, v8] lo H = (
(bin .lss .int v7 v8).bind fun x1 =>
cond x1 (
(bin .add .int v7 v8).bind fun x2 =>
(conv (.int .u64) x2).bind fun x3 =>
(bin .shr .int x3 (.p (.v (.int .u64 1)))).bind fun x4 =>
(conv (.int .i64) x4).bind fun x5 =>
(idxA 1 v0 x5).bind fun x6 =>
(ld false 1 x6 H).bind fun x7 =>
(callA cfg O 49 [x7, v1] lo H).bind fun r8 =>
cond r8.1 (
(bin .add .int x5 (I 1)).bind fun x9 =>
L34_8 [v0, v1, v6, x9, v8] lo r8.2) (
L34_8 [v0, v1, v6, v7, x5] lo r8.2)) (
(bin .lss .int v7 v6).bind fun x10 =>
(gd x10 true (some v0)).bind fun x11 =>
(gd x10 true (some v7)).bind fun x12 =>
(gd x10 true (idxA 1 x11 x12)).bind fun x13 =>
(gd x10 true (ld false 1 x13 H)).bind fun x14 =>
(gd x10 true (some v1)).bind fun x15 =>
(gd x10 true (bin .eql .int x14 x15)).bind fun x16 =>
(gd x10 true (some x16)).bind fun x17 =>
(gd x17 false (some v0)).bind fun x18 =>
(gd x17 false (some v7)).bind fun x19 =>
(gd x17 false (idxA 1 x18 x19)).bind fun x20 =>
(gd x17 false (ld false 1 x20 H)).bind fun x21 =>
(gdH x17 false (callA cfg O 50 [x21] lo H) H).bind fun r22 =>
(gd x17 false (some r22.1)).bind fun x23 =>
(gd x23 true (some v1)).bind fun x24 =>
(gdH x23 true (callA cfg O 50 [x24] lo r22.2) r22.2).bind fun r25 =>
(gd x17 false (pickA x23 r25.1 (B false))).bind fun x26 =>
(gd x10 true (pickA x17 (B true) x26)).bind fun x27 =>
(pickA x10 x27 (B false)).bind fun x28 =>
leave 0 lo [v7, x28] r25.2)) := by
  show O.lab _ _ _ _ _ _ = _
  rw [O_lab]
  kernel_rfl
theorem f34_eq (a0 a1 : AV) : O.ent 34 [a0, a1] [] [] = (
(lenA .slice a0 []).bind fun x1 =>
L34_8 [a0, a1, x1, I 0, x1] [] []) := by
  rw [O_ent]
  kernel_rfl
-- slices.IndexFunc[[]backstitch/api.DPair,backstitch/api.DPair]
noncomputable def T51_6 : List It := labAt Try.prog cfg 51 6 (fun _ => none)
noncomputable def L51_6 (vals : List AV) (lo : List Nat) (H : Heap) : Res := O.lab 51 [0, 1, 7, 8] (T51_6) vals lo H
theorem L51_6_eq (lo : List Nat) (v0 v1 v7 v8 : AV) (H : Heap) : L51_6 [v0, v1, v7, v8] lo H = (
(bin .lss .int v8 v7).bind fun x1 =>
cond x1 (
(idxA 2 v0 v8).bind fun x2 =>
(ld true 2 x2 H).bind fun x3 =>
(callV cfg O v1 [x3] lo H).bind fun r4 =>
cond r4.1 (
leave 3 lo [v8] r4.2) (
(bin .add .int v8 (I 1)).bind fun x5 =>
L51_6 [v0, v1, v7, x5] lo r4.2)) (
leave 3 lo [I (-1)] H)) := by
  show O.lab _ _ _ _ _ _ = _
  rw [O_lab]
  kernel_rfl
theorem f51_eq (a0 a1 : AV) (lo : List Nat) (H : Heap) : O.ent 51 [a0, a1] lo H = (
(lenA .slice a0 H).bind fun x1 =>
L51_6 [a0, a1, x1, I 0] (List.length H :: lo) H) := by
  rw [O_ent]
  kernel_rfl
-- slices.IndexFunc[[]backstitch/api.Event,backstitch/api.Event]
noncomputable def T52_6 : List It := labAt Try.prog cfg 52 6 (fun _ => none)
noncomputable def L52_6 (vals : List AV) (lo : List Nat) (H : Heap) : Res := O.lab 52 [0, 1, 7, 8] (T52_6) vals lo H
theorem L52_6_eq (lo : List Nat) (v0 v1 v7 v8 : AV) (H : Heap) : L52_6 [v0, v1, v7, v8] lo H = (
(bin .lss .int v8 v7).bind fun x1 =>
cond x1 (
(idxA 12 v0 v8).bind fun x2 =>
(ld true 12 x2 H).bind fun x3 =>
(callV cfg O v1 [x3] lo H).bind fun r4 =>
cond r4.1 (
leave 1 lo [v8] r4.2) (
(bin .add .int v8 (I 1)).bind fun x5 =>
L52_6 [v0, v1, v7, x5] lo r4.2)) (
leave 1 lo [I (-1)] H)) := by
  show O.lab _ _ _ _ _ _ = _
  rw [O_lab]
  kernel_rfl
theorem f52_eq (a0 a1 : AV) (lo : List Nat) (H : Heap) : O.ent 52 [a0, a1] lo H = (
(lenA .slice a0 H).bind fun x1 =>
L52_6 [a0, a1, x1, I 0] lo H) := by
  rw [O_ent]
  kernel_rfl
-- (*backstitch/clocks.weaver).edge
theorem f53_eq (a0 a1 a2 : AV) (lo : List Nat) (H : Heap) : O.ent 53 [a0, a1, a2] lo H = (
(nilCheckA a0).bind fun x1 =>
(fldA 4 x1).bind fun x2 =>
(ld false 1 x2 H).bind fun x3 =>
(buildA [(I 0), (I 0)] [(0, 1, a1), (1, 1, a2)]).bind fun x4 =>
(litA false 2 [x4] H).bind fun r5 =>
(appA 2 16 x3 r5.1 r5.2).bind fun r6 =>
(nilCheckA a0).bind fun x7 =>
(fldA 4 x7).bind fun x8 =>
((stA 1 x8 r6.1 lo r6.2).map fun H' => (undefA, H')).bind fun r9 =>
leave 1 lo [] r9.2) := by
  rw [O_ent]
  kernel_rfl
-- (*backstitch/clocks.weaver).all
noncomputable def T54_4 : List It := labAt Try.prog cfg 54 4 (fun _ => none)
noncomputable def L54_4 (vals : List AV) (lo : List Nat) (H : Heap) : Res := O.lab 54 [0, 2, 8, 9, 10] (T54_4) vals lo H
theorem L54_4_eq (lo : List Nat) (v0 v2 v8 v9 v10 : AV) (H : Heap) : L54_4 [v0, v2, v8, v9, v10] lo H = (
(bin .lss .int v10 v9).bind fun x1 =>
cond x1 (
(idxA 1 v8 v10).bind fun x2 =>
(ld false 1 x2 H).bind fun x3 =>
(callA cfg O 53 [v0, x3, v2] lo H).bind fun r4 =>
(bin .add .int v10 (I 1)).bind fun x5 =>
L54_4 [v0, v2, v8, v9, x5] lo r4.2) (
leave 1 lo [] H)) := by
  show O.lab _ _ _ _ _ _ = _
  rw [O_lab]
  kernel_rfl
theorem f54_eq (a0 a1 a2 : AV) (lo : List Nat) (H : Heap) : O.ent 54 [a0, a1, a2] lo H = (
(lenA .slice a1 H).bind fun x1 =>
L54_4 [a0, a2, a1, x1, I 0] lo H) := by
  rw [O_ent]
  kernel_rfl
-- cmp.Or[int]
noncomputable def T42_8 : List It := labAt Try.prog cfg 42 8 (fun _ => none)
noncomputable def L42_8 (vals : List AV) (lo : List Nat) (H : Heap) : Res := O.lab 42 [3, 6, 7, 8] (T42_8) vals lo H
theorem L42_8_eq (lo : List Nat) (v3 v6 v7 v8 : AV) (H : Heap) : L42_8 [v3, v6, v7, v8] lo H = (
(bin .lss .int v8 v7).bind fun x1 =>
cond x1 (
(idxA 1 v6 v8).bind fun x2 =>
(ld false 1 x2 H).bind fun x3 =>
(bin .neq .int x3 v3).bind fun x4 =>
cond x4 (
leave 0 lo [x3] H) (
(bin .add .int v8 (I 1)).bind fun x5 =>
L42_8 [v3, v6, v7, x5] lo H)) (
leave 0 lo [v3] H)) := by
  show O.lab _ _ _ _ _ _ = _
  rw [O_lab]
  kernel_rfl
theorem f42_eq (a0 : AV) : O.ent 42 [a0] [] [] = (
(lenA .slice a0 []).bind fun x1 =>
L42_8 [I 0, a0, x1, I 0] [] []) := by
  rw [O_ent]
  kernel_rfl
-- cmp.Compare[int]
theorem f43_eq (a0 a1 : AV) : O.ent 43 [a0, a1] [] [] = (
(callA cfg O 56 [a0] [] []).bind fun r1 =>
(callA cfg O 56 [a1] [] r1.2).bind fun r2 =>
cond r1.1 (
cond r2.1 (
leave 0 [] [I 0] r2.2) (
leave 0 [] [I (-1)] r2.2)) (
cond r2.1 (
leave 0 [] [I 1] r2.2) (
(bin .lss .int a0 a1).bind fun x3 =>
cond x3 (
leave 0 [] [I (-1)] r2.2) (
(bin .gtr .int a0 a1).bind fun x4 =>
cond x4 (
leave 0 [] [I 1] r2.2) (
leave 0 [] [I 0] r2.2))))) := by
  rw [O_ent]
  kernel_rfl
-- cmp.Less[int]
theorem f49_eq (a0 a1 : AV) : O.ent 49 [a0, a1] [] [] = (
(callA cfg O 56 [a0] [] []).bind fun r1 =>
(gd r1.1 true (some a1)).bind fun x2 =>
(gdH r1.1 true (callA cfg O 56 [x2] [] r1.2) r1.2).bind fun r3 =>
(gd r1.1 true (un .not r3.1)).bind fun x4 =>
(pickA r1.1 x4 (B false)).bind fun x5 =>
(gd x5 false (some a0)).bind fun x6 =>
(gd x5 false (some a1)).bind fun x7 =>
(gd x5 false (bin .lss .int x6 x7)).bind fun x8 =>
(pickA x5 (B true) x8).bind fun x9 =>
leave 0 [] [x9] r3.2) := by
  rw [O_ent]
  kernel_rfl
-- slices.isNaN[int]
theorem f50_eq (a0 : AV) : O.ent 50 [a0] [] [] = (
(bin .neq .int a0 a0).bind fun x1 =>
leave 0 [] [x1] []) := by
  rw [O_ent]
  kernel_rfl
-- cmp.isNaN[int]
theorem f56_eq (a0 : AV) : O.ent 56 [a0] [] [] = (
(bin .neq .int a0 a0).bind fun x1 =>
leave 0 [] [x1] []) := by
  rw [O_ent]
  kernel_rfl
end Go.Proofs.Ytfdnamedmjhcfaa
