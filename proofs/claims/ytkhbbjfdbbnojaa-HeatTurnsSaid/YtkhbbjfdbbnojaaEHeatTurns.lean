import Derived.Test.YtkhbbjfdbbnojaaCf
set_option linter.unusedVariables false
set_option maxRecDepth 100000
namespace Go.Proofs.Ytkhbbjfdbbnojaa
open Go Go.AM
-- backstitch/backstitchlaw2.HeatTurns
noncomputable def T9_20 : List It := labAt Try.prog cfg 9 20 (fun _ => none)
noncomputable def L9_20 (vals : List AV) (lo : List Nat) (H : Heap) : Res := O.lab 9 [0, 1, 5, 7, 46, 47] (T9_20) vals lo H
noncomputable def T9_39 : List It := labAt Try.prog cfg 9 39 (fun _ => none)
noncomputable def L9_39 (vals : List AV) (lo : List Nat) (H : Heap) : Res := O.lab 9 [0, 1, 5, 7, 46, 47] (T9_39) vals lo H
noncomputable def T9_37 : List It := labAt Try.prog cfg 9 37 (fun _ => none)
noncomputable def L9_37 (vals : List AV) (lo : List Nat) (H : Heap) : Res := O.lab 9 [0, 1, 5, 7, 10, 46, 47] (T9_37) vals lo H
theorem L9_20_eq (lo : List Nat) (v0 v1 v5 v7 v46 v47 : AV) (H : Heap) : L9_20 [v0, v1, v5, v7, v46, v47] lo H = (
(bin .lss .int v47 v46).bind fun x1 =>
cond x1 (
(idxA 3 v1 v47).bind fun x2 =>
(ld true 3 x2 H).bind fun x3 =>
(some (mkArr 1 [(.v (.int .i64 0)), (.v (.int .i64 0)), (.v (.int .i64 0))] H)).bind fun r4 =>
((stA 3 r4.1 x3 lo r4.2).map fun H' => (undefA, H')).bind fun r5 =>
(idxArr 1 3 r4.1 (I 2)).bind fun x6 =>
(ld false 1 x6 r5.2).bind fun x7 =>
(bin .neq .int x7 (I 0)).bind fun x8 =>
cond x8 (
(idxArr 1 3 r4.1 (I 0)).bind fun x9 =>
(ld false 1 x9 r5.2).bind fun x10 =>
(idxArr 1 3 r4.1 (I 1)).bind fun x11 =>
(ld false 1 x11 r5.2).bind fun x12 =>
(idxArr 1 3 r4.1 (I 2)).bind fun x13 =>
(ld false 1 x13 r5.2).bind fun x14 =>
(bin .eql .int x14 (I 1)).bind fun x15 =>
(callA cfg O 58 [v5, x10, x12, x15] lo r5.2).bind fun r16 =>
(litA false 1 [r16.1] r16.2).bind fun r17 =>
(appA 1 8 v7 r17.1 r17.2).bind fun r18 =>
L9_39 [v0, v1, v5, r18.1, v46, v47] lo r18.2) (
(idxArr 1 3 r4.1 (I 0)).bind fun x19 =>
(ld false 1 x19 r5.2).bind fun x20 =>
(idxArr 1 3 r4.1 (I 1)).bind fun x21 =>
(ld false 1 x21 r5.2).bind fun x22 =>
(callA cfg O 59 [v5, x20, x22] lo r5.2).bind fun r23 =>
(extractA r23.1 0).bind fun x24 =>
(extractA r23.1 1).bind fun x25 =>
(bin .neq .int x25 (I 0)).bind fun x26 =>
cond x26 (
(un .neg x25).bind fun x27 =>
L9_37 [v0, v1, v5, v7, x27, v46, v47] lo r23.2) (
L9_37 [v0, v1, v5, v7, x24, v46, v47] lo r23.2))) (
(callA cfg O 60 [v0, v1] lo H).bind fun r28 =>
(extractA r28.1 0).bind fun x29 =>
(extractA r28.1 1).bind fun x30 =>
(callA cfg O 57 [] lo r28.2).bind fun r31 =>
(gd r31.1 true (some v7)).bind fun x32 =>
(gd r31.1 true (some x29)).bind fun x33 =>
(gdH r31.1 true (callA cfg O 61 [x32, x33] lo r31.2) r31.2).bind fun r34 =>
(pickA r31.1 r34.1 (B false)).bind fun x35 =>
(gd x35 true (some v5)).bind fun x36 =>
(gdH x35 true (callA cfg O 63 [x36] lo r34.2) r34.2).bind fun r37 =>
(gd x35 true (some x30)).bind fun x38 =>
(gdH x35 true (callA cfg O 62 [r37.1, x38] lo r37.2) r37.2).bind fun r39 =>
(pickA x35 r39.1 (B false)).bind fun x40 =>
leave 0 lo [x40] r39.2)) := by
  show O.lab _ _ _ _ _ _ = _
  rw [O_lab]
  kernel_rfl
theorem L9_39_eq (lo : List Nat) (v0 v1 v5 v7 v46 v47 : AV) (H : Heap) : L9_39 [v0, v1, v5, v7, v46, v47] lo H = (
(bin .add .int v47 (I 1)).bind fun x1 =>
L9_20 [v0, v1, v5, v7, v46, x1] lo H) := by
  show O.lab _ _ _ _ _ _ = _
  rw [O_lab]
  kernel_rfl
theorem L9_37_eq (lo : List Nat) (v0 v1 v5 v7 v10 v46 v47 : AV) (H : Heap) : L9_37 [v0, v1, v5, v7, v10, v46, v47] lo H = (
(litA false 1 [v10] H).bind fun r1 =>
(appA 1 8 v7 r1.1 r1.2).bind fun r2 =>
L9_39 [v0, v1, v5, r2.1, v46, v47] lo r2.2) := by
  show O.lab _ _ _ _ _ _ = _
  rw [O_lab]
  kernel_rfl
theorem f9_eq (a0 a1 : AV) : O.ent 9 [a0, a1] [] [] = (
(callA cfg O 56 [a0] [] []).bind fun r1 =>
(extractA r1.1 0).bind fun x2 =>
(extractA r1.1 1).bind fun x3 =>
(bin .lss .int a0 (I 1)).bind fun x4 =>
(gd x4 false (some a0)).bind fun x5 =>
(gd x4 false (bin .gtr .int x5 (I 1000))).bind fun x6 =>
(pickA x4 (B true) x6).bind fun x7 =>
cond x7 (
(callA cfg O 57 [] [] r1.2).bind fun r8 =>
(gd r8.1 true (some x3)).bind fun x9 =>
(gd r8.1 true (bin .eql .int x9 (I 1))).bind fun x10 =>
(pickA r8.1 x10 (B false)).bind fun x11 =>
(gd x11 true (some x2)).bind fun x12 =>
(gd x11 true (bin .eql .ptr x12 (.p (.v (.pointer none))))).bind fun x13 =>
(pickA x11 x13 (B false)).bind fun x14 =>
leave 0 [] [x14] r8.2) (
(bin .neq .int x3 (I 0)).bind fun x15 =>
(gd x15 false (some x2)).bind fun x16 =>
(gd x15 false (bin .eql .ptr x16 (.p (.v (.pointer none))))).bind fun x17 =>
(pickA x15 (B true) x17).bind fun x18 =>
cond x18 (
leave 0 [] [B false] r1.2) (
(lenA .slice a1 r1.2).bind fun x19 =>
(bests false x19 [I 300]).bind fun x20 =>
(cutA 3 a1 none (some x20) none r1.2).bind fun x21 =>
(lenA .slice x21 r1.2).bind fun x22 =>
L9_20 [a0, x21, x2, .p nilS, x22, I 0] [] r1.2))) := by
  rw [O_ent]
  kernel_rfl
-- backstitch/heat.New
theorem f56_eq (a0 : AV) (lo : List Nat) (H : Heap) : O.ent 56 [a0] lo H = (
(bin .lss .int a0 (I 1)).bind fun x1 =>
(gd x1 false (some a0)).bind fun x2 =>
(gd x1 false (bin .gtr .int x2 (I 1000))).bind fun x3 =>
(pickA x1 (B true) x3).bind fun x4 =>
cond x4 (
leave 1 lo [.p (.v (.pointer none)), I 1] H) (
(some (mkMap H)).bind fun r5 =>
(buildA [(I 0), (.p (.v (.map none)))] [(0, 1, a0), (1, 1, r5.1)]).bind fun x6 =>
(boxO [] (AV.cells x6) r5.2).bind fun r7 =>
leave 1 lo [r7.1, I 0] r7.2)) := by
  rw [O_ent]
  kernel_rfl
-- backstitch/backstitchlaw2.heated
theorem f57_eq : O.ent 57 [] [] [] = (
(callA cfg O 56 [I 2] [] []).bind fun r1 =>
(extractA r1.1 0).bind fun x2 =>
(extractA r1.1 1).bind fun x3 =>
(bin .neq .int x3 (I 0)).bind fun x4 =>
(gd x4 false (some x2)).bind fun x5 =>
(gd x4 false (bin .eql .ptr x5 (.p (.v (.pointer none))))).bind fun x6 =>
(pickA x4 (B true) x6).bind fun x7 =>
cond x7 (
leave 0 [] [B false] r1.2) (
(callA cfg O 59 [x2, I 0, I 3] [] r1.2).bind fun r8 =>
(extractA r8.1 0).bind fun x9 =>
(extractA r8.1 1).bind fun x10 =>
(callA cfg O 59 [x2, I 0, I 3] [] r8.2).bind fun r11 =>
(extractA r11.1 0).bind fun x12 =>
(extractA r11.1 1).bind fun x13 =>
(bin .eql .int x9 (I 0)).bind fun x14 =>
(gd x14 true (some x12)).bind fun x15 =>
(gd x14 true (bin .eql .int x15 (I 1))).bind fun x16 =>
(pickA x14 x16 (B false)).bind fun x17 =>
(gd x17 true (some x2)).bind fun x18 =>
(gdH x17 true (callA cfg O 58 [x18, I 0, I 3, B true] [] r11.2) r11.2).bind fun r19 =>
(gd x17 true (bin .eql .int r19.1 (I 0))).bind fun x20 =>
(pickA x17 x20 (B false)).bind fun x21 =>
leave 0 [] [x21] r19.2)) := by
  rw [O_ent]
  kernel_rfl
-- (*backstitch/heat.Heat).Taken
noncomputable def T58_27 : List It := labAt Try.prog cfg 58 27 (fun _ => none)
noncomputable def L58_27 (vals : List AV) (lo : List Nat) (H : Heap) : Res := O.lab 58 [0, 9, 10] (T58_27) vals lo H
theorem L58_27_eq (lo : List Nat) (v0 v9 v10 : AV) (H : Heap) : L58_27 [v0, v9, v10] lo H = (
(nilCheckA v0).bind fun x1 =>
(fldA 1 x1).bind fun x2 =>
(ld false 1 x2 H).bind fun x3 =>
(ld true 2 v9 H).bind fun x4 =>
(ld true 6 v10 H).bind fun x5 =>
((mapUpdA (.agg 2 [(0, .int), (1, .int)]) x3 x4 x5 lo H).map fun H' => (undefA, H')).bind fun r6 =>
leave 1 lo [I 0] r6.2) := by
  show O.lab _ _ _ _ _ _ = _
  rw [O_lab]
  kernel_rfl
theorem f58_eq (a0 a1 a2 a3 : AV) (lo : List Nat) (H : Heap) : O.ent 58 [a0, a1, a2, a3] lo H = (
(buildA [(I 0), (I 0)] [(0, 1, a1), (1, 1, a2)]).bind fun x1 =>
(boxO [] [(I 0), (I 0)] H).bind fun r2 =>
((stA 2 r2.1 x1 lo r2.2).map fun H' => (undefA, H')).bind fun r3 =>
(nilCheckA a0).bind fun x4 =>
(fldA 1 x4).bind fun x5 =>
(ld false 1 x5 r3.2).bind fun x6 =>
(ld true 2 r2.1 r3.2).bind fun x7 =>
(lookA (.agg 2 [(0, .int), (1, .int)]) (.agg [(I 0), (I 0), (I 0), (I 0), (I 0), (I 0)]) true x6 x7 r3.2).bind fun x8 =>
(extractA x8 0).bind fun x9 =>
(extractA x8 1).bind fun x10 =>
(boxO [] [(I 0), (I 0), (I 0), (I 0), (I 0), (I 0)] r3.2).bind fun r11 =>
((stA 6 r11.1 x9 lo r11.2).map fun H' => (undefA, H')).bind fun r12 =>
(un .not x10).bind fun x13 =>
cond x13 (
leave 1 lo [I 5] r12.2) (
(fldA 5 r11.1).bind fun x14 =>
(ld false 1 x14 r12.2).bind fun x15 =>
(bin .neq .int x15 (I 1)).bind fun x16 =>
cond x16 (
leave 1 lo [I 8] r12.2) (
cond a3 (
(fldA 5 r11.1).bind fun x17 =>
((stA 1 x17 (I 2) lo r12.2).map fun H' => (undefA, H')).bind fun r18 =>
L58_27 [a0, r2.1, r11.1] lo r18.2) (
(fldA 4 r11.1).bind fun x19 =>
(ld false 1 x19 r12.2).bind fun x20 =>
(bin .add .int x20 (I 1)).bind fun x21 =>
(fldA 3 r11.1).bind fun x22 =>
(ld false 1 x22 r12.2).bind fun x23 =>
(bin .mul .int (I 2) x23).bind fun x24 =>
(fldA 4 r11.1).bind fun x25 =>
((stA 1 x25 x21 lo r12.2).map fun H' => (undefA, H')).bind fun r26 =>
(fldA 2 r11.1).bind fun x27 =>
((stA 1 x27 (I 0) lo r26.2).map fun H' => (undefA, H')).bind fun r28 =>
(fldA 3 r11.1).bind fun x29 =>
((stA 1 x29 x24 lo r28.2).map fun H' => (undefA, H')).bind fun r30 =>
(fldA 5 r11.1).bind fun x31 =>
((stA 1 x31 (I 0) lo r30.2).map fun H' => (undefA, H')).bind fun r32 =>
(fldA 4 r11.1).bind fun x33 =>
(ld false 1 x33 r32.2).bind fun x34 =>
(bin .geq .int x34 (I 3)).bind fun x35 =>
cond x35 (
(fldA 5 r11.1).bind fun x36 =>
((stA 1 x36 (I 3) lo r32.2).map fun H' => (undefA, H')).bind fun r37 =>
L58_27 [a0, r2.1, r11.1] lo r37.2) (
L58_27 [a0, r2.1, r11.1] lo r32.2))))) := by
  rw [O_ent]
  kernel_rfl
-- (*backstitch/heat.Heat).Turn
noncomputable def T59_21 : List It := labAt Try.prog cfg 59 21 (fun _ => none)
noncomputable def L59_21 (vals : List AV) (lo : List Nat) (H : Heap) : Res := O.lab 59 [0, 8, 9] (T59_21) vals lo H
noncomputable def T59_39 : List It := labAt Try.prog cfg 59 39 (fun _ => none)
noncomputable def L59_39 (vals : List AV) (lo : List Nat) (H : Heap) : Res := O.lab 59 [0, 8, 9, 11] (T59_39) vals lo H
theorem L59_21_eq (lo : List Nat) (v0 v8 v9 : AV) (H : Heap) : L59_21 [v0, v8, v9] lo H = (
(fldA 5 v9).bind fun x1 =>
(ld false 1 x1 H).bind fun x2 =>
(bin .eql .int x2 (I 0)).bind fun x3 =>
cond x3 (
(fldA 2 v9).bind fun x4 =>
(ld false 1 x4 H).bind fun x5 =>
(bin .add .int x5 (I 1)).bind fun x6 =>
(fldA 2 v9).bind fun x7 =>
((stA 1 x7 x6 lo H).map fun H' => (undefA, H')).bind fun r8 =>
(fldA 2 v9).bind fun x9 =>
(ld false 1 x9 r8.2).bind fun x10 =>
(fldA 3 v9).bind fun x11 =>
(ld false 1 x11 r8.2).bind fun x12 =>
(bin .geq .int x10 x12).bind fun x13 =>
cond x13 (
(fldA 5 v9).bind fun x14 =>
((stA 1 x14 (I 1) lo r8.2).map fun H' => (undefA, H')).bind fun r15 =>
L59_39 [v0, v8, v9, I 1] lo r15.2) (
L59_39 [v0, v8, v9, I 0] lo r8.2)) (
(bin .eql .int x2 (I 2)).bind fun x16 =>
cond x16 (
cond x16 (
(fldA 5 v9).bind fun x17 =>
(ld false 1 x17 H).bind fun x18 =>
L59_39 [v0, v8, v9, x18] lo H) (
L59_39 [v0, v8, v9, I 0] lo H)) (
(bin .eql .int x2 (I 3)).bind fun x19 =>
cond x19 (
(fldA 5 v9).bind fun x20 =>
(ld false 1 x20 H).bind fun x21 =>
L59_39 [v0, v8, v9, x21] lo H) (
L59_39 [v0, v8, v9, I 0] lo H)))) := by
  show O.lab _ _ _ _ _ _ = _
  rw [O_lab]
  kernel_rfl
theorem L59_39_eq (lo : List Nat) (v0 v8 v9 v11 : AV) (H : Heap) : L59_39 [v0, v8, v9, v11] lo H = (
(nilCheckA v0).bind fun x1 =>
(fldA 1 x1).bind fun x2 =>
(ld false 1 x2 H).bind fun x3 =>
(ld true 2 v8 H).bind fun x4 =>
(ld true 6 v9 H).bind fun x5 =>
((mapUpdA (.agg 2 [(0, .int), (1, .int)]) x3 x4 x5 lo H).map fun H' => (undefA, H')).bind fun r6 =>
leave 1 lo [v11, I 0] r6.2) := by
  show O.lab _ _ _ _ _ _ = _
  rw [O_lab]
  kernel_rfl
theorem f59_eq (a0 a1 a2 : AV) (lo : List Nat) (H : Heap) : O.ent 59 [a0, a1, a2] lo H = (
(bin .lss .int a1 (I 0)).bind fun x1 =>
(gd x1 false (some a1)).bind fun x2 =>
(gd x1 false (bin .geq .int x2 (I 60))).bind fun x3 =>
(pickA x1 (B true) x3).bind fun x4 =>
(gd x4 false (some a2)).bind fun x5 =>
(gd x4 false (bin .lss .int x5 (I 0))).bind fun x6 =>
(pickA x4 (B true) x6).bind fun x7 =>
(gd x7 false (some a2)).bind fun x8 =>
(gd x7 false (bin .geq .int x8 (I 600))).bind fun x9 =>
(pickA x7 (B true) x9).bind fun x10 =>
cond x10 (
leave 1 lo [I 0, I 1] H) (
(buildA [(I 0), (I 0)] [(0, 1, a1), (1, 1, a2)]).bind fun x11 =>
(boxO [] [(I 0), (I 0)] H).bind fun r12 =>
((stA 2 r12.1 x11 lo r12.2).map fun H' => (undefA, H')).bind fun r13 =>
(nilCheckA a0).bind fun x14 =>
(fldA 1 x14).bind fun x15 =>
(ld false 1 x15 r13.2).bind fun x16 =>
(ld true 2 r12.1 r13.2).bind fun x17 =>
(lookA (.agg 2 [(0, .int), (1, .int)]) (.agg [(I 0), (I 0), (I 0), (I 0), (I 0), (I 0)]) true x16 x17 r13.2).bind fun x18 =>
(extractA x18 0).bind fun x19 =>
(extractA x18 1).bind fun x20 =>
(boxO [] [(I 0), (I 0), (I 0), (I 0), (I 0), (I 0)] r13.2).bind fun r21 =>
((stA 6 r21.1 x19 lo r21.2).map fun H' => (undefA, H')).bind fun r22 =>
(un .not x20).bind fun x23 =>
cond x23 (
(nilCheckA a0).bind fun x24 =>
(fldA 1 x24).bind fun x25 =>
(ld false 1 x25 r22.2).bind fun x26 =>
(lenA .map x26 r22.2).bind fun x27 =>
(bin .geq .int x27 (I 100)).bind fun x28 =>
cond x28 (
leave 1 lo [I 0, I 2] r22.2) (
(nilCheckA a0).bind fun x29 =>
(fldA 0 x29).bind fun x30 =>
(ld false 1 x30 r22.2).bind fun x31 =>
(buildA [(I 0), (I 0), (I 0), (I 0), (I 0), (I 0)] [(0, 1, a1), (1, 1, a2), (3, 1, x31)]).bind fun x32 =>
((stA 6 r21.1 x32 lo r22.2).map fun H' => (undefA, H')).bind fun r33 =>
L59_21 [a0, r12.1, r21.1] lo r33.2)) (
L59_21 [a0, r12.1, r21.1] lo r22.2))) := by
  rw [O_ent]
  kernel_rfl
-- backstitch/backstitchref2.Heads
noncomputable def T60_10 : List It := labAt Try.prog cfg 60 10 (fun _ => none)
noncomputable def L60_10 (vals : List AV) (lo : List Nat) (H : Heap) : Res := O.lab 60 [0, 6, 7, 16, 17, 18] (T60_10) vals lo H
noncomputable def T60_89 : List It := labAt Try.prog cfg 60 89 (fun _ => none)
noncomputable def L60_89 (vals : List AV) (lo : List Nat) (H : Heap) : Res := O.lab 60 [0, 6, 7, 16, 17, 18] (T60_89) vals lo H
noncomputable def T60_18 : List It := labAt Try.prog cfg 60 18 (fun _ => none)
noncomputable def L60_18 (vals : List AV) (lo : List Nat) (H : Heap) : Res := O.lab 60 [0, 6, 7, 9, 10, 16, 17, 18, 22, 23, 24] (T60_18) vals lo H
noncomputable def T60_27 : List It := labAt Try.prog cfg 60 27 (fun _ => none)
noncomputable def L60_27 (vals : List AV) (lo : List Nat) (H : Heap) : Res := O.lab 60 [0, 6, 7, 9, 10, 16, 17, 18, 22, 23, 24] (T60_27) vals lo H
noncomputable def T60_71 : List It := labAt Try.prog cfg 60 71 (fun _ => none)
noncomputable def L60_71 (vals : List AV) (lo : List Nat) (H : Heap) : Res := O.lab 60 [0, 6, 7, 10, 16, 17, 18] (T60_71) vals lo H
noncomputable def T60_64 : List It := labAt Try.prog cfg 60 64 (fun _ => none)
noncomputable def L60_64 (vals : List AV) (lo : List Nat) (H : Heap) : Res := O.lab 60 [0, 6, 7, 9, 10, 16, 17, 18] (T60_64) vals lo H
noncomputable def T60_87 : List It := labAt Try.prog cfg 60 87 (fun _ => none)
noncomputable def L60_87 (vals : List AV) (lo : List Nat) (H : Heap) : Res := O.lab 60 [0, 6, 7, 14, 16, 17, 18] (T60_87) vals lo H
theorem L60_10_eq (lo : List Nat) (v0 v6 v7 v16 v17 v18 : AV) (H : Heap) : L60_10 [v0, v6, v7, v16, v17, v18] lo H = (
(bin .lss .int v18 v17).bind fun x1 =>
cond x1 (
(idxA 3 v16 v18).bind fun x2 =>
(ld true 3 x2 H).bind fun x3 =>
(some (mkArr 1 [(.v (.int .i64 0)), (.v (.int .i64 0)), (.v (.int .i64 0))] H)).bind fun r4 =>
((stA 3 r4.1 x3 lo r4.2).map fun H' => (undefA, H')).bind fun r5 =>
(lenA .slice v6 r5.2).bind fun x6 =>
L60_18 [v0, v6, v7, r4.1, I (-1), v16, v17, v18, v6, x6, I 0] lo r5.2) (
leave 0 lo [v7, v6] H)) := by
  show O.lab _ _ _ _ _ _ = _
  rw [O_lab]
  kernel_rfl
theorem L60_89_eq (lo : List Nat) (v0 v6 v7 v16 v17 v18 : AV) (H : Heap) : L60_89 [v0, v6, v7, v16, v17, v18] lo H = (
(bin .add .int v18 (I 1)).bind fun x1 =>
L60_10 [v0, v6, v7, v16, v17, x1] lo H) := by
  show O.lab _ _ _ _ _ _ = _
  rw [O_lab]
  kernel_rfl
theorem L60_18_eq (lo : List Nat) (v0 v6 v7 v9 v10 v16 v17 v18 v22 v23 v24 : AV) (H : Heap) : L60_18 [v0, v6, v7, v9, v10, v16, v17, v18, v22, v23, v24] lo H = (
(bin .lss .int v24 v23).bind fun x1 =>
cond x1 (
(idxA 6 v22 v24).bind fun x2 =>
(ld true 6 x2 H).bind fun x3 =>
(boxO [] [(I 0), (I 0), (I 0), (I 0), (I 0), (I 0)] H).bind fun r4 =>
((stA 6 r4.1 x3 lo r4.2).map fun H' => (undefA, H')).bind fun r5 =>
(fldA 0 r4.1).bind fun x6 =>
(ld false 1 x6 r5.2).bind fun x7 =>
(idxArr 1 3 v9 (I 0)).bind fun x8 =>
(ld false 1 x8 r5.2).bind fun x9 =>
(bin .eql .int x7 x9).bind fun x10 =>
(gd x10 true (fldA 1 r4.1)).bind fun x11 =>
(gd x10 true (ld false 1 x11 r5.2)).bind fun x12 =>
(gd x10 true (idxArr 1 3 v9 (I 1))).bind fun x13 =>
(gd x10 true (ld false 1 x13 r5.2)).bind fun x14 =>
(gd x10 true (bin .eql .int x12 x14)).bind fun x15 =>
(pickA x10 x15 (B false)).bind fun x16 =>
cond x16 (
L60_27 [v0, v6, v7, v9, v24, v16, v17, v18, v22, v23, v24] lo r5.2) (
L60_27 [v0, v6, v7, v9, v10, v16, v17, v18, v22, v23, v24] lo r5.2)) (
(idxArr 1 3 v9 (I 2)).bind fun x17 =>
(ld false 1 x17 H).bind fun x18 =>
(bin .neq .int x18 (I 0)).bind fun x19 =>
cond x19 (
(bin .lss .int v10 (I 0)).bind fun x20 =>
cond x20 (
(litA false 1 [I 5] H).bind fun r21 =>
(appA 1 8 v7 r21.1 r21.2).bind fun r22 =>
L60_89 [v0, v6, r22.1, v16, v17, v18] lo r22.2) (
(idxA 6 v6 v10).bind fun x23 =>
(fldA 5 x23).bind fun x24 =>
(ld false 1 x24 H).bind fun x25 =>
(bin .neq .int x25 (I 1)).bind fun x26 =>
cond x26 (
(litA false 1 [I 8] H).bind fun r27 =>
(appA 1 8 v7 r27.1 r27.2).bind fun r28 =>
L60_89 [v0, v6, r28.1, v16, v17, v18] lo r28.2) (
(litA false 1 [I 0] H).bind fun r29 =>
(appA 1 8 v7 r29.1 r29.2).bind fun r30 =>
(idxA 6 v6 v10).bind fun x31 =>
(idxArr 1 3 v9 (I 2)).bind fun x32 =>
(ld false 1 x32 r30.2).bind fun x33 =>
(bin .eql .int x33 (I 1)).bind fun x34 =>
cond x34 (
(nilCheckA x31).bind fun x35 =>
(fldA 5 x35).bind fun x36 =>
((stA 1 x36 (I 2) lo r30.2).map fun H' => (undefA, H')).bind fun r37 =>
L60_89 [v0, v6, r30.1, v16, v17, v18] lo r37.2) (
(nilCheckA x31).bind fun x38 =>
(fldA 4 x38).bind fun x39 =>
(ld false 1 x39 r30.2).bind fun x40 =>
(bin .add .int x40 (I 1)).bind fun x41 =>
(nilCheckA x31).bind fun x42 =>
(fldA 3 x42).bind fun x43 =>
(ld false 1 x43 r30.2).bind fun x44 =>
(bin .mul .int x44 (I 2)).bind fun x45 =>
(nilCheckA x31).bind fun x46 =>
(fldA 4 x46).bind fun x47 =>
((stA 1 x47 x41 lo r30.2).map fun H' => (undefA, H')).bind fun r48 =>
(nilCheckA x31).bind fun x49 =>
(fldA 2 x49).bind fun x50 =>
((stA 1 x50 (I 0) lo r48.2).map fun H' => (undefA, H')).bind fun r51 =>
(nilCheckA x31).bind fun x52 =>
(fldA 3 x52).bind fun x53 =>
((stA 1 x53 x45 lo r51.2).map fun H' => (undefA, H')).bind fun r54 =>
(nilCheckA x31).bind fun x55 =>
(fldA 5 x55).bind fun x56 =>
((stA 1 x56 (I 0) lo r54.2).map fun H' => (undefA, H')).bind fun r57 =>
(nilCheckA x31).bind fun x58 =>
(fldA 4 x58).bind fun x59 =>
(ld false 1 x59 r57.2).bind fun x60 =>
(bin .eql .int x60 (I 3)).bind fun x61 =>
cond x61 (
(nilCheckA x31).bind fun x62 =>
(fldA 5 x62).bind fun x63 =>
((stA 1 x63 (I 3) lo r57.2).map fun H' => (undefA, H')).bind fun r64 =>
L60_89 [v0, v6, r30.1, v16, v17, v18] lo r64.2) (
L60_89 [v0, v6, r30.1, v16, v17, v18] lo r57.2))))) (
(idxArr 1 3 v9 (I 0)).bind fun x65 =>
(ld false 1 x65 H).bind fun x66 =>
(bin .lss .int x66 (I 0)).bind fun x67 =>
(gd x67 false (idxArr 1 3 v9 (I 0))).bind fun x68 =>
(gd x67 false (ld false 1 x68 H)).bind fun x69 =>
(gd x67 false (bin .geq .int x69 (I 60))).bind fun x70 =>
(pickA x67 (B true) x70).bind fun x71 =>
(gd x71 false (idxArr 1 3 v9 (I 1))).bind fun x72 =>
(gd x71 false (ld false 1 x72 H)).bind fun x73 =>
(gd x71 false (bin .lss .int x73 (I 0))).bind fun x74 =>
(pickA x71 (B true) x74).bind fun x75 =>
(gd x75 false (idxArr 1 3 v9 (I 1))).bind fun x76 =>
(gd x75 false (ld false 1 x76 H)).bind fun x77 =>
(gd x75 false (bin .geq .int x77 (I 600))).bind fun x78 =>
(pickA x75 (B true) x78).bind fun x79 =>
cond x79 (
(litA false 1 [I (-1)] H).bind fun r80 =>
(appA 1 8 v7 r80.1 r80.2).bind fun r81 =>
L60_89 [v0, v6, r81.1, v16, v17, v18] lo r81.2) (
(bin .lss .int v10 (I 0)).bind fun x82 =>
(gd x82 true (some v6)).bind fun x83 =>
(gd x82 true (lenA .slice x83 H)).bind fun x84 =>
(gd x82 true (bin .geq .int x84 (I 100))).bind fun x85 =>
(pickA x82 x85 (B false)).bind fun x86 =>
cond x86 (
(litA false 1 [I (-2)] H).bind fun r87 =>
(appA 1 8 v7 r87.1 r87.2).bind fun r88 =>
L60_89 [v0, v6, r88.1, v16, v17, v18] lo r88.2) (
(bin .lss .int v10 (I 0)).bind fun x89 =>
cond x89 (
L60_64 [v0, v6, v7, v9, I 0, v16, v17, v18] lo H) (
L60_71 [v0, v6, v7, v10, v16, v17, v18] lo H)))))) := by
  show O.lab _ _ _ _ _ _ = _
  rw [O_lab]
  kernel_rfl
theorem L60_27_eq (lo : List Nat) (v0 v6 v7 v9 v10 v16 v17 v18 v22 v23 v24 : AV) (H : Heap) : L60_27 [v0, v6, v7, v9, v10, v16, v17, v18, v22, v23, v24] lo H = (
(bin .add .int v24 (I 1)).bind fun x1 =>
L60_18 [v0, v6, v7, v9, v10, v16, v17, v18, v22, v23, x1] lo H) := by
  show O.lab _ _ _ _ _ _ = _
  rw [O_lab]
  kernel_rfl
theorem L60_71_eq (lo : List Nat) (v0 v6 v7 v10 v16 v17 v18 : AV) (H : Heap) : L60_71 [v0, v6, v7, v10, v16, v17, v18] lo H = (
(idxA 6 v6 v10).bind fun x1 =>
(nilCheckA x1).bind fun x2 =>
(fldA 5 x2).bind fun x3 =>
(ld false 1 x3 H).bind fun x4 =>
(bin .gtr .int x4 (I 1)).bind fun x5 =>
cond x5 (
(nilCheckA x1).bind fun x6 =>
(fldA 5 x6).bind fun x7 =>
(ld false 1 x7 H).bind fun x8 =>
L60_87 [v0, v6, v7, x8, v16, v17, v18] lo H) (
(nilCheckA x1).bind fun x9 =>
(fldA 5 x9).bind fun x10 =>
(ld false 1 x10 H).bind fun x11 =>
(bin .eql .int x11 (I 0)).bind fun x12 =>
cond x12 (
(nilCheckA x1).bind fun x13 =>
(fldA 2 x13).bind fun x14 =>
(ld false 1 x14 H).bind fun x15 =>
(bin .add .int x15 (I 1)).bind fun x16 =>
(nilCheckA x1).bind fun x17 =>
(fldA 2 x17).bind fun x18 =>
((stA 1 x18 x16 lo H).map fun H' => (undefA, H')).bind fun r19 =>
(nilCheckA x1).bind fun x20 =>
(fldA 2 x20).bind fun x21 =>
(ld false 1 x21 r19.2).bind fun x22 =>
(nilCheckA x1).bind fun x23 =>
(fldA 3 x23).bind fun x24 =>
(ld false 1 x24 r19.2).bind fun x25 =>
(bin .eql .int x22 x25).bind fun x26 =>
cond x26 (
(nilCheckA x1).bind fun x27 =>
(fldA 5 x27).bind fun x28 =>
((stA 1 x28 (I 1) lo r19.2).map fun H' => (undefA, H')).bind fun r29 =>
L60_87 [v0, v6, v7, I 1, v16, v17, v18] lo r29.2) (
L60_87 [v0, v6, v7, I 0, v16, v17, v18] lo r19.2)) (
L60_87 [v0, v6, v7, I 0, v16, v17, v18] lo H))) := by
  show O.lab _ _ _ _ _ _ = _
  rw [O_lab]
  kernel_rfl
theorem L60_64_eq (lo : List Nat) (v0 v6 v7 v9 v10 v16 v17 v18 : AV) (H : Heap) : L60_64 [v0, v6, v7, v9, v10, v16, v17, v18] lo H = (
(lenA .slice v6 H).bind fun x1 =>
(bin .lss .int v10 x1).bind fun x2 =>
(gd x2 true (some v6)).bind fun x3 =>
(gd x2 true (some v10)).bind fun x4 =>
(gd x2 true (idxA 6 x3 x4)).bind fun x5 =>
(gd x2 true (fldA 0 x5)).bind fun x6 =>
(gd x2 true (ld false 1 x6 H)).bind fun x7 =>
(gd x2 true (idxArr 1 3 v9 (I 0))).bind fun x8 =>
(gd x2 true (ld false 1 x8 H)).bind fun x9 =>
(gd x2 true (bin .lss .int x7 x9)).bind fun x10 =>
(gd x2 true (some x10)).bind fun x11 =>
(gd x11 false (some v6)).bind fun x12 =>
(gd x11 false (some v10)).bind fun x13 =>
(gd x11 false (idxA 6 x12 x13)).bind fun x14 =>
(gd x11 false (fldA 0 x14)).bind fun x15 =>
(gd x11 false (ld false 1 x15 H)).bind fun x16 =>
(gd x11 false (idxArr 1 3 v9 (I 0))).bind fun x17 =>
(gd x11 false (ld false 1 x17 H)).bind fun x18 =>
(gd x11 false (bin .eql .int x16 x18)).bind fun x19 =>
(gd x11 false (some x19)).bind fun x20 =>
(gd x20 true (some v6)).bind fun x21 =>
(gd x20 true (some v10)).bind fun x22 =>
(gd x20 true (idxA 6 x21 x22)).bind fun x23 =>
(gd x20 true (fldA 1 x23)).bind fun x24 =>
(gd x20 true (ld false 1 x24 H)).bind fun x25 =>
(gd x20 true (idxArr 1 3 v9 (I 1))).bind fun x26 =>
(gd x20 true (ld false 1 x26 H)).bind fun x27 =>
(gd x20 true (bin .lss .int x25 x27)).bind fun x28 =>
(gd x11 false (pickA x20 x28 (B false))).bind fun x29 =>
(gd x2 true (pickA x11 (B true) x29)).bind fun x30 =>
(pickA x2 x30 (B false)).bind fun x31 =>
cond x31 (
(bin .add .int v10 (I 1)).bind fun x32 =>
L60_64 [v0, v6, v7, v9, x32, v16, v17, v18] lo H) (
(cutA 6 v6 none (some v10) none H).bind fun x33 =>
(callA cfg O 115 [x33] lo H).bind fun r34 =>
(idxArr 1 3 v9 (I 0)).bind fun x35 =>
(ld false 1 x35 r34.2).bind fun x36 =>
(idxArr 1 3 v9 (I 1)).bind fun x37 =>
(ld false 1 x37 r34.2).bind fun x38 =>
(buildA [(I 0), (I 0), (I 0), (I 0), (I 0), (I 0)] [(0, 1, x36), (1, 1, x38), (3, 1, v0)]).bind fun x39 =>
(litP 6 [x39]).bind fun x40 =>
(appA 6 48 r34.1 x40 r34.2).bind fun r41 =>
(cutA 6 v6 (some v10) none none r41.2).bind fun x42 =>
(appA 6 48 r41.1 x42 r41.2).bind fun r43 =>
L60_71 [v0, r43.1, v7, v10, v16, v17, v18] lo r43.2)) := by
  show O.lab _ _ _ _ _ _ = _
  rw [O_lab]
  kernel_rfl
theorem L60_87_eq (lo : List Nat) (v0 v6 v7 v14 v16 v17 v18 : AV) (H : Heap) : L60_87 [v0, v6, v7, v14, v16, v17, v18] lo H = (
(litA false 1 [v14] H).bind fun r1 =>
(appA 1 8 v7 r1.1 r1.2).bind fun r2 =>
L60_89 [v0, v6, r2.1, v16, v17, v18] lo r2.2) := by
  show O.lab _ _ _ _ _ _ = _
  rw [O_lab]
  kernel_rfl
theorem f60_eq (a0 a1 : AV) : O.ent 60 [a0, a1] [] [] = (
(lenA .slice a1 []).bind fun x1 =>
L60_10 [a0, .p nilS, .p nilS, a1, x1, I 0] [] []) := by
  rw [O_ent]
  kernel_rfl
-- backstitch/backstitchref2.Eq[int]
noncomputable def T61_10 : List It := labAt Try.prog cfg 61 10 (fun _ => none)
noncomputable def L61_10 (vals : List AV) (lo : List Nat) (H : Heap) : Res := O.lab 61 [1, 12, 13, 14] (T61_10) vals lo H
theorem L61_10_eq (lo : List Nat) (v1 v12 v13 v14 : AV) (H : Heap) : L61_10 [v1, v12, v13, v14] lo H = (
(bin .lss .int v14 v13).bind fun x1 =>
cond x1 (
(idxA 1 v12 v14).bind fun x2 =>
(ld false 1 x2 H).bind fun x3 =>
(idxA 1 v1 v14).bind fun x4 =>
(ld false 1 x4 H).bind fun x5 =>
(bin .neq .int x3 x5).bind fun x6 =>
cond x6 (
leave 0 lo [B false] H) (
(bin .add .int v14 (I 1)).bind fun x7 =>
L61_10 [v1, v12, v13, x7] lo H)) (
leave 0 lo [B true] H)) := by
  show O.lab _ _ _ _ _ _ = _
  rw [O_lab]
  kernel_rfl
theorem f61_eq (a0 a1 : AV) : O.ent 61 [a0, a1] [] [] = (
(lenA .slice a0 []).bind fun x1 =>
(lenA .slice a1 []).bind fun x2 =>
(bin .neq .int x1 x2).bind fun x3 =>
cond x3 (
leave 0 [] [B false] []) (
(lenA .slice a0 []).bind fun x4 =>
L61_10 [a1, a0, x4, I 0] [] [])) := by
  rw [O_ent]
  kernel_rfl
-- backstitch/backstitchref2.Eq[backstitch/api.THead]
noncomputable def T62_10 : List It := labAt Try.prog cfg 62 10 (fun _ => none)
noncomputable def L62_10 (vals : List AV) (lo : List Nat) (H : Heap) : Res := O.lab 62 [1, 12, 13, 14] (T62_10) vals lo H
theorem L62_10_eq (lo : List Nat) (v1 v12 v13 v14 : AV) (H : Heap) : L62_10 [v1, v12, v13, v14] lo H = (
(bin .lss .int v14 v13).bind fun x1 =>
cond x1 (
(idxA 6 v12 v14).bind fun x2 =>
(ld true 6 x2 H).bind fun x3 =>
(boxO [] [(I 0), (I 0), (I 0), (I 0), (I 0), (I 0)] H).bind fun r4 =>
((stA 6 r4.1 x3 lo r4.2).map fun H' => (undefA, H')).bind fun r5 =>
(ld true 6 r4.1 r5.2).bind fun x6 =>
(idxA 6 v1 v14).bind fun x7 =>
(ld true 6 x7 r5.2).bind fun x8 =>
(bin .neq (.agg 6 [(0, .int), (1, .int), (2, .int), (3, .int), (4, .int), (5, .int)]) x6 x8).bind fun x9 =>
cond x9 (
leave 0 lo [B false] r5.2) (
(bin .add .int v14 (I 1)).bind fun x10 =>
L62_10 [v1, v12, v13, x10] lo r5.2)) (
leave 0 lo [B true] H)) := by
  show O.lab _ _ _ _ _ _ = _
  rw [O_lab]
  kernel_rfl
theorem f62_eq (a0 a1 : AV) : O.ent 62 [a0, a1] [] [] = (
(lenA .slice a0 []).bind fun x1 =>
(lenA .slice a1 []).bind fun x2 =>
(bin .neq .int x1 x2).bind fun x3 =>
cond x3 (
leave 0 [] [B false] []) (
(lenA .slice a0 []).bind fun x4 =>
L62_10 [a1, a0, x4, I 0] [] [])) := by
  rw [O_ent]
  kernel_rfl
-- (*backstitch/heat.Heat).All
noncomputable def T63_8 : List It := labAt Try.prog cfg 63 8 (fun _ => none)
noncomputable def L63_8 (vals : List AV) (lo : List Nat) (H : Heap) : Res := O.lab 63 [3, 10] (T63_8) vals lo H
theorem L63_8_eq (lo : List Nat) (v3 v10 : AV) (H : Heap) : L63_8 [v3, v10] lo H = (
(nextA v10 H).bind fun l1 =>
agree l1 fun x2 H3 =>
(extractA x2 0).bind fun x4 =>
cond x4 (
(entryA v10 H3).bind fun x5 =>
(extractA x5 1).bind fun x6 =>
(boxO [] [(I 0), (I 0), (I 0), (I 0), (I 0), (I 0)] H3).bind fun r7 =>
((stA 6 r7.1 x6 lo r7.2).map fun H' => (undefA, H')).bind fun r8 =>
(ld true 6 r7.1 r8.2).bind fun x9 =>
(litA false 6 [x9] r8.2).bind fun r10 =>
(appA 6 48 v3 r10.1 r10.2).bind fun r11 =>
L63_8 [r11.1, v10] lo r11.2) (
(callA cfg O 116 [v3, .fn 117 [] []] lo H3).bind fun r12 =>
leave 2 lo [v3] r12.2)) := by
  show O.lab _ _ _ _ _ _ = _
  rw [O_lab]
  kernel_rfl
theorem f63_eq (a0 : AV) (lo : List Nat) (H : Heap) : O.ent 63 [a0] lo H = (
(nilCheckA a0).bind fun x1 =>
(fldA 1 x1).bind fun x2 =>
(ld false 1 x2 H).bind fun x3 =>
(rangeA x3 H).bind fun r4 =>
L63_8 [.p nilS, r4.1] (List.length H :: lo) r4.2) := by
  rw [O_ent]
  kernel_rfl
-- backstitch/backstitchref2.Copy[backstitch/api.THead]
theorem f115_eq (a0 : AV) (lo : List Nat) (H : Heap) : O.ent 115 [a0] lo H = (
(appA 6 48 (.p nilS) a0 H).bind fun r1 =>
leave 4 lo [r1.1] r1.2) := by
  rw [O_ent]
  kernel_rfl
-- (*backstitch/heat.Heat).All$1
theorem f117_eq (a0 a1 : AV) : O.ent 117 [a0, a1] [] [] = (
(boxO [] (AV.cells a0) []).bind fun r1 =>
(boxO [] (AV.cells a1) r1.2).bind fun r2 =>
(fldA 0 r1.1).bind fun x3 =>
(ld false 1 x3 r2.2).bind fun x4 =>
(fldA 0 r2.1).bind fun x5 =>
(ld false 1 x5 r2.2).bind fun x6 =>
(callA cfg O 119 [x4, x6] [] r2.2).bind fun r7 =>
(fldA 1 r1.1).bind fun x8 =>
(ld false 1 x8 r7.2).bind fun x9 =>
(fldA 1 r2.1).bind fun x10 =>
(ld false 1 x10 r7.2).bind fun x11 =>
(callA cfg O 119 [x9, x11] [] r7.2).bind fun r12 =>
(litA false 1 [r7.1, r12.1] r12.2).bind fun r13 =>
(callA cfg O 118 [r13.1] [] r13.2).bind fun r14 =>
leave 0 [] [r14.1] r14.2) := by
  rw [O_ent]
  kernel_rfl
-- cmp.Or[int]
noncomputable def T118_8 : List It := labAt Try.prog cfg 118 8 (fun _ => none)
noncomputable def L118_8 (vals : List AV) (lo : List Nat) (H : Heap) : Res := O.lab 118 [3, 6, 7, 8] (T118_8) vals lo H
theorem L118_8_eq (lo : List Nat) (v3 v6 v7 v8 : AV) (H : Heap) : L118_8 [v3, v6, v7, v8] lo H = (
(bin .lss .int v8 v7).bind fun x1 =>
cond x1 (
(idxA 1 v6 v8).bind fun x2 =>
(ld false 1 x2 H).bind fun x3 =>
(bin .neq .int x3 v3).bind fun x4 =>
cond x4 (
leave 0 lo [x3] H) (
(bin .add .int v8 (I 1)).bind fun x5 =>
L118_8 [v3, v6, v7, x5] lo H)) (
leave 0 lo [v3] H)) := by
  show O.lab _ _ _ _ _ _ = _
  rw [O_lab]
  kernel_rfl
theorem f118_eq (a0 : AV) : O.ent 118 [a0] [] [] = (
(lenA .slice a0 []).bind fun x1 =>
L118_8 [I 0, a0, x1, I 0] [] []) := by
  rw [O_ent]
  kernel_rfl
-- cmp.Compare[int]
theorem f119_eq (a0 a1 : AV) : O.ent 119 [a0, a1] [] [] = (
(callA cfg O 150 [a0] [] []).bind fun r1 =>
(callA cfg O 150 [a1] [] r1.2).bind fun r2 =>
cond r1.1 (
cond r2.1 (
leave 0 [] [I 0] r2.2) (
leave 0 [] [I (-1)] r2.2)) (
cond r2.1 (
leave 0 [] [I 1] r2.2) (
(bin .lss .int a0 a1).bind fun x3 =>
cond x3 (
leave 0 [] [I (-1)] r2.2) (
(bin .gtr .int a0 a1).bind fun x4 =>
cond x4 (
leave 0 [] [I 1] r2.2) (
leave 0 [] [I 0] r2.2))))) := by
  rw [O_ent]
  kernel_rfl
-- cmp.isNaN[int]
theorem f150_eq (a0 : AV) : O.ent 150 [a0] [] [] = (
(bin .neq .int a0 a0).bind fun x1 =>
leave 0 [] [x1] []) := by
  rw [O_ent]
  kernel_rfl
end Go.Proofs.Ytkhbbjfdbbnojaa
