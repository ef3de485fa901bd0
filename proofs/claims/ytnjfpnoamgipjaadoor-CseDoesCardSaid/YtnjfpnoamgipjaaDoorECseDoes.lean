import Derived.Test.YtnjfpnoamgipjaaDoorCf
set_option linter.unusedVariables false
set_option maxRecDepth 100000
namespace Go.Proofs.YtnjfpnoamgipjaaDoor
open Go Go.AM
-- backstitch/backstitchlaw2.CseDoes
theorem f7_eq (a0 a1 : AV) : O.ent 7 [a0, a1] [] [] = (
(boxO [] (AV.cells a0) []).bind fun r1 =>
(boxO [] (AV.cells a1) r1.2).bind fun r2 =>
(ld true 3 r1.1 r2.2).bind fun x3 =>
(ld true 13 r2.1 r2.2).bind fun x4 =>
(callA cfg O 29 [x3, x4] [] r2.2).bind fun r5 =>
(extractA r5.1 0).bind fun x6 =>
(extractA r5.1 1).bind fun x7 =>
(boxO [] [(I 0), (I 0), (I 0), (.p nilS), (.p nilS), (I 0), (I 0), (.p nilS), (.p nilS), (I 0), (I 0), (.p nilS), (.p nilS)] r5.2).bind fun r8 =>
((stA 13 r8.1 x6 [] r8.2).map fun H' => (undefA, H')).bind fun r9 =>
(ld true 3 r1.1 r9.2).bind fun x10 =>
(ld true 13 r2.1 r9.2).bind fun x11 =>
(ld true 13 r8.1 r9.2).bind fun x12 =>
(callA cfg O 30 [x10, x11, x12, x7, .fn 31 [] []] [] r9.2).bind fun r13 =>
leave 0 [] [r13.1] r13.2) := by
  rw [O_ent]
  kernel_rfl
-- backstitch/cse.Do
noncomputable def T29_16 : List It := labAt Tryd.prog cfg 29 16 (fun _ => none)
noncomputable def L29_16 (vals : List AV) (lo : List Nat) (H : Heap) : Res := O.lab 29 [3, 4, 7, 8, 30, 31, 32] (T29_16) vals lo H
noncomputable def T29_47 : List It := labAt Tryd.prog cfg 29 47 (fun _ => none)
noncomputable def L29_47 (vals : List AV) (lo : List Nat) (H : Heap) : Res := O.lab 29 [3, 4, 7, 8, 30, 31, 32] (T29_47) vals lo H
noncomputable def T29_26 : List It := labAt Tryd.prog cfg 29 26 (fun _ => none)
noncomputable def L29_26 (vals : List AV) (lo : List Nat) (H : Heap) : Res := O.lab 29 [3, 4, 7, 8, 9, 10, 11, 30, 31, 32, 47, 48] (T29_26) vals lo H
theorem L29_16_eq (lo : List Nat) (v3 v4 v7 v8 v30 v31 v32 : AV) (H : Heap) : L29_16 [v3, v4, v7, v8, v30, v31, v32] lo H = (
(bin .lss .int v32 v31).bind fun x1 =>
cond x1 (
(idxA 8 v30 v32).bind fun x2 =>
(ld true 8 x2 H).bind fun x3 =>
(boxO [] [(I 0), (I 0), (I 0), (I 0), (I 0), (I 0), (I 0), (I 0)] H).bind fun r4 =>
((stA 8 r4.1 x3 lo r4.2).map fun H' => (undefA, H')).bind fun r5 =>
(idxA 1 v8 v32).bind fun x6 =>
((stA 1 x6 v32 lo r5.2).map fun H' => (undefA, H')).bind fun r7 =>
(fldA 1 r4.1).bind fun x8 =>
(fldA 2 r4.1).bind fun x9 =>
(fldA 3 r4.1).bind fun x10 =>
(litB 1 [x8, x9, x10] r7.2).bind fun r11 =>
(ld true 8 r4.1 r11.2).bind fun x12 =>
(callA cfg O 13 [x12] lo r11.2).bind fun r13 =>
(lenA .slice r13.1 r13.2).bind fun x14 =>
L29_26 [v3, v4, v7, v8, v32, r4.1, r11.1, v30, v31, v32, x14, I 0] lo r13.2) (
(ld true 13 v3 H).bind fun x15 =>
(callA cfg O 24 [x15, v8] lo H).bind fun r16 =>
(extractA r16.1 0).bind fun x17 =>
(extractA r16.1 1).bind fun x18 =>
((stA 13 v4 x17 lo r16.2).map fun H' => (undefA, H')).bind fun r19 =>
((ld true 13 v4 r19.2).bind fun x21 => ((some []).map fun q23 => x18 :: q23).map fun q22 => x21 :: q22).bind fun xs20 => leave 0 lo xs20 r19.2)) := by
  show O.lab _ _ _ _ _ _ = _
  rw [O_lab]
  kernel_rfl
theorem L29_47_eq (lo : List Nat) (v3 v4 v7 v8 v30 v31 v32 : AV) (H : Heap) : L29_47 [v3, v4, v7, v8, v30, v31, v32] lo H = (
(bin .add .int v32 (I 1)).bind fun x1 =>
L29_16 [v3, v4, v7, v8, v30, v31, x1] lo H) := by
  show O.lab _ _ _ _ _ _ = _
  rw [O_lab]
  kernel_rfl
theorem L29_26_eq (lo : List Nat) (v3 v4 v7 v8 v9 v10 v11 v30 v31 v32 v47 v48 : AV) (H : Heap) : L29_26 [v3, v4, v7, v8, v9, v10, v11, v30, v31, v32, v47, v48] lo H = (
(bin .lss .int v48 v47).bind fun x1 =>
cond x1 (
(idxA 1 v11 v48).bind fun x2 =>
(ld false 1 x2 H).bind fun x3 =>
(idxA 1 v11 v48).bind fun x4 =>
(ld false 1 x4 H).bind fun x5 =>
(nilCheckA x5).bind fun x6 =>
(ld false 1 x6 H).bind fun x7 =>
(idxA 1 v8 x7).bind fun x8 =>
(ld false 1 x8 H).bind fun x9 =>
(nilCheckA x3).bind fun x10 =>
((stA 1 x10 x9 lo H).map fun H' => (undefA, H')).bind fun r11 =>
(bin .add .int v48 (I 1)).bind fun x12 =>
L29_26 [v3, v4, v7, v8, v9, v10, v11, v30, v31, v32, v47, x12] lo r11.2) (
(ld true 8 v10 H).bind fun x13 =>
(fldA 2 v3).bind fun x14 =>
(ld false 1 x14 H).bind fun x15 =>
(bin .lss .int v9 x15).bind fun x16 =>
(callA cfg O 64 [x13, x16] lo H).bind fun r17 =>
(extractA r17.1 0).bind fun x18 =>
(extractA r17.1 1).bind fun x19 =>
(boxO [] [(I 0), (I 0), (I 0), (I 0), (B false), (I 0), (I 0)] r17.2).bind fun r20 =>
((stA 7 r20.1 x18 lo r20.2).map fun H' => (undefA, H')).bind fun r21 =>
(un .not x19).bind fun x22 =>
cond x22 (
L29_47 [v3, v4, v7, v8, v30, v31, v32] lo r21.2) (
(ld true 7 r20.1 r21.2).bind fun x23 =>
(lookA (.agg 7 [(0, .int), (1, .int), (2, .int), (3, .int), (4, .bool), (5, .int), (6, .int)]) (I 0) true v7 x23 r21.2).bind fun x24 =>
(extractA x24 0).bind fun x25 =>
(extractA x24 1).bind fun x26 =>
cond x26 (
(idxA 1 v8 v9).bind fun x27 =>
((stA 1 x27 x25 lo r21.2).map fun H' => (undefA, H')).bind fun r28 =>
L29_47 [v3, v4, v7, v8, v30, v31, v32] lo r28.2) (
(ld true 7 r20.1 r21.2).bind fun x29 =>
((mapUpdA (.agg 7 [(0, .int), (1, .int), (2, .int), (3, .int), (4, .bool), (5, .int), (6, .int)]) v7 x29 v9 lo r21.2).map fun H' => (undefA, H')).bind fun r30 =>
L29_47 [v3, v4, v7, v8, v30, v31, v32] lo r30.2)))) := by
  show O.lab _ _ _ _ _ _ = _
  rw [O_lab]
  kernel_rfl
theorem f29_eq (a0 a1 : AV) : O.ent 29 [a0, a1] [] [] = (
(boxO [] (AV.cells a0) []).bind fun r1 =>
(boxO [] (AV.cells a1) r1.2).bind fun r2 =>
(boxO [] [(I 0), (I 0), (I 0), (.p nilS), (.p nilS), (I 0), (I 0), (.p nilS), (.p nilS), (I 0), (I 0), (.p nilS), (.p nilS)] r2.2).bind fun r3 =>
(ld true 3 r1.1 r3.2).bind fun x4 =>
(ld true 13 r2.1 r3.2).bind fun x5 =>
(callA cfg O 19 [x4, x5] [] r3.2).bind fun r6 =>
(bin .neq .int r6.1 (I 0)).bind fun x7 =>
cond x7 (
(buildA [(I 0), (I 0), (I 0), (.p nilS), (.p nilS), (I 0), (I 0), (.p nilS), (.p nilS), (I 0), (I 0), (.p nilS), (.p nilS)] []).bind fun x8 =>
((stA 13 r3.1 x8 [] r6.2).map fun H' => (undefA, H')).bind fun r9 =>
((ld true 13 r3.1 r9.2).bind fun x11 => ((some []).map fun q13 => r6.1 :: q13).map fun q12 => x11 :: q12).bind fun xs10 => leave 0 [] xs10 r9.2) (
(some (mkMap r6.2)).bind fun r14 =>
(fldA 3 r2.1).bind fun x15 =>
(ld false 1 x15 r14.2).bind fun x16 =>
(lenA .slice x16 r14.2).bind fun x17 =>
(mkRow 1 8 [(.v (.int .i64 0))] x17 x17 r14.2).bind fun r18 =>
(fldA 3 r2.1).bind fun x19 =>
(ld false 1 x19 r18.2).bind fun x20 =>
(lenA .slice x20 r18.2).bind fun x21 =>
L29_16 [r2.1, r3.1, r14.1, r18.1, x20, x21, I 0] [] r18.2)) := by
  rw [O_ent]
  kernel_rfl
-- backstitch/backstitchlaw2.passed
theorem f30_eq (a0 a1 a2 a3 a4 : AV) : O.ent 30 [a0, a1, a2, a3, a4] [] [] = (
(boxO [] (AV.cells a0) []).bind fun r1 =>
(boxO [] (AV.cells a1) r1.2).bind fun r2 =>
(boxO [] (AV.cells a2) r2.2).bind fun r3 =>
(ld true 3 r1.1 r3.2).bind fun x4 =>
(ld true 13 r2.1 r3.2).bind fun x5 =>
(callA cfg O 19 [x4, x5] [] r3.2).bind fun r6 =>
(bin .neq .int r6.1 (I 0)).bind fun x7 =>
cond x7 (
(callA cfg O 18 [] [] r6.2).bind fun r8 =>
(gd r8.1 true (some a3)).bind fun x9 =>
(gd r8.1 true (some r6.1)).bind fun x10 =>
(gd r8.1 true (bin .eql .int x9 x10)).bind fun x11 =>
(pickA r8.1 x11 (B false)).bind fun x12 =>
(gd x12 true (ld true 13 r3.1 r8.2)).bind fun x13 =>
(gd x12 true (buildA [(I 0), (I 0), (I 0), (.p nilS), (.p nilS), (I 0), (I 0), (.p nilS), (.p nilS), (I 0), (I 0), (.p nilS), (.p nilS)] [])).bind fun x14 =>
(gdH x12 true (callA cfg O 26 [x13, x14] [] r8.2) r8.2).bind fun r15 =>
(pickA x12 r15.1 (B false)).bind fun x16 =>
leave 0 [] [x16] r15.2) (
(callA cfg O 18 [] [] r6.2).bind fun r17 =>
(gd r17.1 true (some a3)).bind fun x18 =>
(gd r17.1 true (bin .eql .int x18 (I 0))).bind fun x19 =>
(pickA r17.1 x19 (B false)).bind fun x20 =>
(gd x20 true (ld true 13 r3.1 r17.2)).bind fun x21 =>
(gd x20 true (some a4)).bind fun x22 =>
(gd x20 true (ld true 13 r2.1 r17.2)).bind fun x23 =>
(gdH x20 true (callC cfg O (some ClK.same) x22 [x23] [] r17.2) r17.2).bind fun r24 =>
(gdH x20 true (callA cfg O 26 [x21, r24.1] [] r24.2) r24.2).bind fun r25 =>
(pickA x20 r25.1 (B false)).bind fun x26 =>
leave 0 [] [x26] r25.2)) := by
  rw [O_ent]
  kernel_rfl
-- backstitch/backstitchref2.Cse
noncomputable def T31_8 : List It := labAt Tryd.prog cfg 31 8 (fun _ => none)
noncomputable def L31_8 (vals : List AV) (lo : List Nat) (H : Heap) : Res := O.lab 31 [1, 2, 3, 13, 14] (T31_8) vals lo H
noncomputable def T31_16 : List It := labAt Tryd.prog cfg 31 16 (fun _ => none)
noncomputable def L31_16 (vals : List AV) (lo : List Nat) (H : Heap) : Res := O.lab 31 [1, 2, 3, 4, 5, 6, 13, 14] (T31_16) vals lo H
noncomputable def T31_19 : List It := labAt Tryd.prog cfg 31 19 (fun _ => none)
noncomputable def L31_19 (vals : List AV) (lo : List Nat) (H : Heap) : Res := O.lab 31 [1, 2, 3, 4, 5, 6, 13, 14] (T31_19) vals lo H
theorem L31_8_eq (lo : List Nat) (v1 v2 v3 v13 v14 : AV) (H : Heap) : L31_8 [v1, v2, v3, v13, v14] lo H = (
(bin .lss .int v14 v13).bind fun x1 =>
cond x1 (
(fldA 3 v1).bind fun x2 =>
(ld false 1 x2 H).bind fun x3 =>
(idxA 8 x3 v14).bind fun x4 =>
(ld true 8 x4 H).bind fun x5 =>
(callA cfg O 66 [x5, v3] lo H).bind fun r6 =>
(boxO [] [(I 0), (I 0), (I 0), (I 0), (I 0), (I 0), (I 0), (I 0)] r6.2).bind fun r7 =>
((stA 8 r7.1 r6.1 lo r7.2).map fun H' => (undefA, H')).bind fun r8 =>
L31_16 [v1, v2, v3, v14, r7.1, I 0, v13, v14] lo r8.2) (
(ld true 13 v1 H).bind fun x9 =>
(callA cfg O 25 [x9, v3] lo H).bind fun r10 =>
(extractA r10.1 0).bind fun x11 =>
(extractA r10.1 1).bind fun x12 =>
(boxO [] [(I 0), (I 0), (I 0), (.p nilS), (.p nilS), (I 0), (I 0), (.p nilS), (.p nilS), (I 0), (I 0), (.p nilS), (.p nilS)] r10.2).bind fun r13 =>
((stA 13 r13.1 x11 lo r13.2).map fun H' => (undefA, H')).bind fun r14 =>
(ld true 13 r13.1 r14.2).bind fun x15 =>
((stA 13 v2 x15 lo r14.2).map fun H' => (undefA, H')).bind fun r16 =>
((ld true 13 v2 r16.2).bind fun x18 => (some []).map fun q19 => x18 :: q19).bind fun xs17 => leave 0 lo xs17 r16.2)) := by
  show O.lab _ _ _ _ _ _ = _
  rw [O_lab]
  kernel_rfl
theorem L31_16_eq (lo : List Nat) (v1 v2 v3 v4 v5 v6 v13 v14 : AV) (H : Heap) : L31_16 [v1, v2, v3, v4, v5, v6, v13, v14] lo H = (
(bin .lss .int v6 v4).bind fun x1 =>
(gd x1 true (some v3)).bind fun x2 =>
(gd x1 true (some v4)).bind fun x3 =>
(gd x1 true (idxA 1 x2 x3)).bind fun x4 =>
(gd x1 true (ld false 1 x4 H)).bind fun x5 =>
(gd x1 true (some v4)).bind fun x6 =>
(gd x1 true (bin .eql .int x5 x6)).bind fun x7 =>
(pickA x1 x7 (B false)).bind fun x8 =>
cond x8 (
(idxA 1 v3 v6).bind fun x9 =>
(ld false 1 x9 H).bind fun x10 =>
(bin .eql .int x10 v6).bind fun x11 =>
(gd x11 true (ld true 13 v1 H)).bind fun x12 =>
(gd x11 true (some v4)).bind fun x13 =>
(gd x11 true (some v6)).bind fun x14 =>
(gd x11 true (ld true 8 v5 H)).bind fun x15 =>
(gd x11 true (fldA 3 v1)).bind fun x16 =>
(gd x11 true (ld false 1 x16 H)).bind fun x17 =>
(gd x11 true (some v6)).bind fun x18 =>
(gd x11 true (idxA 8 x17 x18)).bind fun x19 =>
(gd x11 true (ld true 8 x19 H)).bind fun x20 =>
(gd x11 true (some v3)).bind fun x21 =>
(gdH x11 true (callA cfg O 66 [x20, x21] lo H) H).bind fun r22 =>
(gdH x11 true (callA cfg O 67 [x12, x13, x14, x15, r22.1] lo r22.2) r22.2).bind fun r23 =>
(pickA x11 r23.1 (B false)).bind fun x24 =>
cond x24 (
(idxA 1 v3 v4).bind fun x25 =>
((stA 1 x25 v6 lo r23.2).map fun H' => (undefA, H')).bind fun r26 =>
L31_19 [v1, v2, v3, v4, v5, v6, v13, v14] lo r26.2) (
L31_19 [v1, v2, v3, v4, v5, v6, v13, v14] lo r23.2)) (
(bin .add .int v14 (I 1)).bind fun x27 =>
L31_8 [v1, v2, v3, v13, x27] lo H)) := by
  show O.lab _ _ _ _ _ _ = _
  rw [O_lab]
  kernel_rfl
theorem L31_19_eq (lo : List Nat) (v1 v2 v3 v4 v5 v6 v13 v14 : AV) (H : Heap) : L31_19 [v1, v2, v3, v4, v5, v6, v13, v14] lo H = (
(bin .add .int v6 (I 1)).bind fun x1 =>
L31_16 [v1, v2, v3, v4, v5, x1, v13, v14] lo H) := by
  show O.lab _ _ _ _ _ _ = _
  rw [O_lab]
  kernel_rfl
theorem f31_eq (a0 : AV) : O.ent 31 [a0] [] [] = (
(boxO [] (AV.cells a0) []).bind fun r1 =>
(boxO [] [(I 0), (I 0), (I 0), (.p nilS), (.p nilS), (I 0), (I 0), (.p nilS), (.p nilS), (I 0), (I 0), (.p nilS), (.p nilS)] r1.2).bind fun r2 =>
(ld true 13 r1.1 r2.2).bind fun x3 =>
(callA cfg O 65 [x3] [] r2.2).bind fun r4 =>
(fldA 3 r1.1).bind fun x5 =>
(ld false 1 x5 r4.2).bind fun x6 =>
(lenA .slice x6 r4.2).bind fun x7 =>
L31_8 [r1.1, r2.1, r4.1, x7, I 0] [] r4.2) := by
  rw [O_ent]
  kernel_rfl
-- backstitch/cse.of
noncomputable def T64_31 : List It := labAt Tryd.prog cfg 64 31 (fun _ => none)
noncomputable def L64_31 (vals : List AV) (lo : List Nat) (H : Heap) : Res := O.lab 64 [4, 6] (T64_31) vals lo H
theorem L64_31_eq (lo : List Nat) (v4 v6 : AV) (H : Heap) : L64_31 [v4, v6] lo H = (
(ld true 7 v6 H).bind fun x1 =>
((stA 7 v4 x1 lo H).map fun H' => (undefA, H')).bind fun r2 =>
((ld true 7 v4 r2.2).bind fun x4 => ((some []).map fun q6 => B true :: q6).map fun q5 => x4 :: q5).bind fun xs3 => leave 0 lo xs3 r2.2) := by
  show O.lab _ _ _ _ _ _ = _
  rw [O_lab]
  kernel_rfl
theorem f64_eq (a0 a1 : AV) : O.ent 64 [a0, a1] [] [] = (
(boxO [] (AV.cells a0) []).bind fun r1 =>
(boxO [] [(I 0), (I 0), (I 0), (I 0), (B false), (I 0), (I 0)] r1.2).bind fun r2 =>
(fldA 0 r1.1).bind fun x3 =>
(ld false 1 x3 r2.2).bind fun x4 =>
(bin .eql .int x4 (I 2)).bind fun x5 =>
cond x5 (
(fldA 0 r1.1).bind fun x6 =>
(ld false 1 x6 r2.2).bind fun x7 =>
(fldA 6 r1.1).bind fun x8 =>
(ld true 2 x8 r2.2).bind fun x9 =>
(buildA [(I 0), (I 0), (I 0), (I 0), (B false), (I 0), (I 0)] [(0, 1, x7), (5, 2, x9)]).bind fun x10 =>
((stA 7 r2.1 x10 [] r2.2).map fun H' => (undefA, H')).bind fun r11 =>
((ld true 7 r2.1 r11.2).bind fun x13 => ((some []).map fun q15 => B true :: q15).map fun q14 => x13 :: q14).bind fun xs12 => leave 0 [] xs12 r11.2) (
(bin .eql .int x4 (I 3)).bind fun x16 =>
cond x16 (
(fldA 0 r1.1).bind fun x17 =>
(ld false 1 x17 r2.2).bind fun x18 =>
(buildA [(I 0), (I 0), (I 0), (I 0), (B false), (I 0), (I 0)] [(0, 1, x18)]).bind fun x19 =>
((stA 7 r2.1 x19 [] r2.2).map fun H' => (undefA, H')).bind fun r20 =>
((ld true 7 r2.1 r20.2).bind fun x22 => ((some []).map fun q24 => B true :: q24).map fun q23 => x22 :: q23).bind fun xs21 => leave 0 [] xs21 r20.2) (
(bin .eql .int x4 (I 1)).bind fun x25 =>
cond x25 (
(fldA 0 r1.1).bind fun x26 =>
(ld false 1 x26 r2.2).bind fun x27 =>
(fldA 4 r1.1).bind fun x28 =>
(ld false 1 x28 r2.2).bind fun x29 =>
(buildA [(I 0), (I 0), (I 0), (I 0), (B false), (I 0), (I 0)] [(0, 1, x27), (1, 1, x29), (4, 1, a1)]).bind fun x30 =>
((stA 7 r2.1 x30 [] r2.2).map fun H' => (undefA, H')).bind fun r31 =>
((ld true 7 r2.1 r31.2).bind fun x33 => ((some []).map fun q35 => B true :: q35).map fun q34 => x33 :: q34).bind fun xs32 => leave 0 [] xs32 r31.2) (
(bin .eql .int x4 (I 8)).bind fun x36 =>
cond x36 (
(fldA 0 r1.1).bind fun x37 =>
(ld false 1 x37 r2.2).bind fun x38 =>
(fldA 4 r1.1).bind fun x39 =>
(ld false 1 x39 r2.2).bind fun x40 =>
(fldA 1 r1.1).bind fun x41 =>
(ld false 1 x41 r2.2).bind fun x42 =>
(buildA [(I 0), (I 0), (I 0), (I 0), (B false), (I 0), (I 0)] [(0, 1, x38), (1, 1, x40), (2, 1, x42)]).bind fun x43 =>
((stA 7 r2.1 x43 [] r2.2).map fun H' => (undefA, H')).bind fun r44 =>
((ld true 7 r2.1 r44.2).bind fun x46 => ((some []).map fun q48 => B true :: q48).map fun q47 => x46 :: q47).bind fun xs45 => leave 0 [] xs45 r44.2) (
(bin .eql .int x4 (I 7)).bind fun x49 =>
cond x49 (
(fldA 0 r1.1).bind fun x50 =>
(ld false 1 x50 r2.2).bind fun x51 =>
(fldA 4 r1.1).bind fun x52 =>
(ld false 1 x52 r2.2).bind fun x53 =>
(fldA 1 r1.1).bind fun x54 =>
(ld false 1 x54 r2.2).bind fun x55 =>
(fldA 2 r1.1).bind fun x56 =>
(ld false 1 x56 r2.2).bind fun x57 =>
(buildA [(I 0), (I 0), (I 0), (I 0), (B false), (I 0), (I 0)] [(0, 1, x51), (1, 1, x53), (2, 1, x55), (3, 1, x57)]).bind fun x58 =>
(boxO [] [(I 0), (I 0), (I 0), (I 0), (B false), (I 0), (I 0)] r2.2).bind fun r59 =>
((stA 7 r59.1 x58 [] r59.2).map fun H' => (undefA, H')).bind fun r60 =>
(fldA 4 r1.1).bind fun x61 =>
(ld false 1 x61 r60.2).bind fun x62 =>
(bin .eql .int x62 (I 3)).bind fun x63 =>
(gd x63 false (fldA 4 r1.1)).bind fun x64 =>
(gd x63 false (ld false 1 x64 r60.2)).bind fun x65 =>
(gd x63 false (bin .eql .int x65 (I 5))).bind fun x66 =>
(pickA x63 (B true) x66).bind fun x67 =>
(gd x67 false (fldA 4 r1.1)).bind fun x68 =>
(gd x67 false (ld false 1 x68 r60.2)).bind fun x69 =>
(gd x67 false (bin .eql .int x69 (I 8))).bind fun x70 =>
(pickA x67 (B true) x70).bind fun x71 =>
cond x71 (
(fldA 1 r1.1).bind fun x72 =>
(ld false 1 x72 r60.2).bind fun x73 =>
(fldA 2 r1.1).bind fun x74 =>
(ld false 1 x74 r60.2).bind fun x75 =>
(bests false x73 [x75]).bind fun x76 =>
(fldA 1 r1.1).bind fun x77 =>
(ldX false 1 x77 r60.2).bind fun x78 =>
(fldA 2 r1.1).bind fun x79 =>
(ldX false 1 x79 r60.2).bind fun x80 =>
(bests true x78 [x80]).bind fun x81 =>
(fldA 2 r59.1).bind fun x82 =>
((stX 1 x82 x76 [] r60.2).map fun H' => (undefA, H')).bind fun r83 =>
(fldA 3 r59.1).bind fun x84 =>
((stA 1 x84 x81 [] r83.2).map fun H' => (undefA, H')).bind fun r85 =>
L64_31 [r2.1, r59.1] [] r85.2) (
L64_31 [r2.1, r59.1] [] r60.2)) (
(buildA [(I 0), (I 0), (I 0), (I 0), (B false), (I 0), (I 0)] []).bind fun x86 =>
((stA 7 r2.1 x86 [] r2.2).map fun H' => (undefA, H')).bind fun r87 =>
((ld true 7 r2.1 r87.2).bind fun x89 => ((some []).map fun q91 => B false :: q91).map fun q90 => x89 :: q90).bind fun xs88 => leave 0 [] xs88 r87.2)))))) := by
  rw [O_ent]
  kernel_rfl
-- backstitch/backstitchref2.Same0
noncomputable def T65_8 : List It := labAt Tryd.prog cfg 65 8 (fun _ => none)
noncomputable def L65_8 (vals : List AV) (lo : List Nat) (H : Heap) : Res := O.lab 65 [3, 7, 8] (T65_8) vals lo H
theorem L65_8_eq (lo : List Nat) (v3 v7 v8 : AV) (H : Heap) : L65_8 [v3, v7, v8] lo H = (
(bin .lss .int v8 v7).bind fun x1 =>
cond x1 (
(litA false 1 [v8] H).bind fun r2 =>
(appA 1 8 v3 r2.1 r2.2).bind fun r3 =>
(bin .add .int v8 (I 1)).bind fun x4 =>
L65_8 [r3.1, v7, x4] lo r3.2) (
leave 1 lo [v3] H)) := by
  show O.lab _ _ _ _ _ _ = _
  rw [O_lab]
  kernel_rfl
theorem f65_eq (a0 : AV) (lo : List Nat) (H : Heap) : O.ent 65 [a0] lo H = (
(boxO [] (AV.cells a0) H).bind fun r1 =>
(fldA 3 r1.1).bind fun x2 =>
(ld false 1 x2 r1.2).bind fun x3 =>
(lenA .slice x3 r1.2).bind fun x4 =>
L65_8 [.p nilS, x4, I 0] lo r1.2) := by
  rw [O_ent]
  kernel_rfl
-- backstitch/backstitchref2.put
noncomputable def T66_11 : List It := labAt Tryd.prog cfg 66 11 (fun _ => none)
noncomputable def L66_11 (vals : List AV) (lo : List Nat) (H : Heap) : Res := O.lab 66 [1, 2, 4, 5] (T66_11) vals lo H
noncomputable def T66_15 : List It := labAt Tryd.prog cfg 66 15 (fun _ => none)
noncomputable def L66_15 (vals : List AV) (lo : List Nat) (H : Heap) : Res := O.lab 66 [1, 2, 4, 5] (T66_15) vals lo H
noncomputable def T66_19 : List It := labAt Tryd.prog cfg 66 19 (fun _ => none)
noncomputable def L66_19 (vals : List AV) (lo : List Nat) (H : Heap) : Res := O.lab 66 [2, 4] (T66_19) vals lo H
theorem L66_11_eq (lo : List Nat) (v1 v2 v4 v5 : AV) (H : Heap) : L66_11 [v1, v2, v4, v5] lo H = (
(bin .gtr .int v5 (I 1)).bind fun x1 =>
cond x1 (
(fldA 2 v2).bind fun x2 =>
(ld false 1 x2 H).bind fun x3 =>
(idxA 1 v1 x3).bind fun x4 =>
(ld false 1 x4 H).bind fun x5 =>
(fldA 2 v2).bind fun x6 =>
((stA 1 x6 x5 lo H).map fun H' => (undefA, H')).bind fun r7 =>
L66_15 [v1, v2, v4, v5] lo r7.2) (
L66_15 [v1, v2, v4, v5] lo H)) := by
  show O.lab _ _ _ _ _ _ = _
  rw [O_lab]
  kernel_rfl
theorem L66_15_eq (lo : List Nat) (v1 v2 v4 v5 : AV) (H : Heap) : L66_15 [v1, v2, v4, v5] lo H = (
(bin .gtr .int v5 (I 2)).bind fun x1 =>
cond x1 (
(fldA 3 v2).bind fun x2 =>
(ld false 1 x2 H).bind fun x3 =>
(idxA 1 v1 x3).bind fun x4 =>
(ld false 1 x4 H).bind fun x5 =>
(fldA 3 v2).bind fun x6 =>
((stA 1 x6 x5 lo H).map fun H' => (undefA, H')).bind fun r7 =>
L66_19 [v2, v4] lo r7.2) (
L66_19 [v2, v4] lo H)) := by
  show O.lab _ _ _ _ _ _ = _
  rw [O_lab]
  kernel_rfl
theorem L66_19_eq (lo : List Nat) (v2 v4 : AV) (H : Heap) : L66_19 [v2, v4] lo H = (
(ld true 8 v2 H).bind fun x1 =>
((stA 8 v4 x1 lo H).map fun H' => (undefA, H')).bind fun r2 =>
((ld true 8 v4 r2.2).bind fun x4 => (some []).map fun q5 => x4 :: q5).bind fun xs3 => leave 0 lo xs3 r2.2) := by
  show O.lab _ _ _ _ _ _ = _
  rw [O_lab]
  kernel_rfl
theorem f66_eq (a0 a1 : AV) : O.ent 66 [a0, a1] [] [] = (
(boxO [] (AV.cells a0) []).bind fun r1 =>
(boxO [] [(I 0), (I 0), (I 0), (I 0), (I 0), (I 0), (I 0), (I 0)] r1.2).bind fun r2 =>
(fldA 0 r1.1).bind fun x3 =>
(ld false 1 x3 r2.2).bind fun x4 =>
(callA cfg O 41 [x4] [] r2.2).bind fun r5 =>
(bin .gtr .int r5.1 (I 0)).bind fun x6 =>
cond x6 (
(fldA 1 r1.1).bind fun x7 =>
(ld false 1 x7 r5.2).bind fun x8 =>
(idxA 1 a1 x8).bind fun x9 =>
(ld false 1 x9 r5.2).bind fun x10 =>
(fldA 1 r1.1).bind fun x11 =>
((stA 1 x11 x10 [] r5.2).map fun H' => (undefA, H')).bind fun r12 =>
L66_11 [a1, r1.1, r2.1, r5.1] [] r12.2) (
L66_11 [a1, r1.1, r2.1, r5.1] [] r5.2)) := by
  rw [O_ent]
  kernel_rfl
-- backstitch/backstitchref2.alike
theorem f67_eq (a0 a1 a2 a3 a4 : AV) : O.ent 67 [a0, a1, a2, a3, a4] [] [] = (
(boxO [] (AV.cells a0) []).bind fun r1 =>
(boxO [] (AV.cells a3) r1.2).bind fun r2 =>
(boxO [] (AV.cells a4) r2.2).bind fun r3 =>
(fldA 0 r2.1).bind fun x4 =>
(ld false 1 x4 r3.2).bind fun x5 =>
(fldA 0 r3.1).bind fun x6 =>
(ld false 1 x6 r3.2).bind fun x7 =>
(bin .neq .int x5 x7).bind fun x8 =>
cond x8 (
leave 0 [] [B false] r3.2) (
(fldA 0 r2.1).bind fun x9 =>
(ld false 1 x9 r3.2).bind fun x10 =>
(bin .eql .int x10 (I 2)).bind fun x11 =>
cond x11 (
(fldA 6 r2.1).bind fun x12 =>
(ld true 2 x12 r3.2).bind fun x13 =>
(fldA 6 r3.1).bind fun x14 =>
(ld true 2 x14 r3.2).bind fun x15 =>
(bin .eql (.agg 2 [(0, .int), (1, .int)]) x13 x15).bind fun x16 =>
leave 0 [] [x16] r3.2) (
(bin .eql .int x10 (I 3)).bind fun x17 =>
cond x17 (
leave 0 [] [B true] r3.2) (
(bin .eql .int x10 (I 1)).bind fun x18 =>
cond x18 (
(fldA 4 r2.1).bind fun x19 =>
(ld false 1 x19 r3.2).bind fun x20 =>
(fldA 4 r3.1).bind fun x21 =>
(ld false 1 x21 r3.2).bind fun x22 =>
(bin .eql .int x20 x22).bind fun x23 =>
(gd x23 true (some a1)).bind fun x24 =>
(gd x23 true (fldA 2 r1.1)).bind fun x25 =>
(gd x23 true (ld false 1 x25 r3.2)).bind fun x26 =>
(gd x23 true (bin .lss .int x24 x26)).bind fun x27 =>
(gd x23 true (some a2)).bind fun x28 =>
(gd x23 true (fldA 2 r1.1)).bind fun x29 =>
(gd x23 true (ld false 1 x29 r3.2)).bind fun x30 =>
(gd x23 true (bin .lss .int x28 x30)).bind fun x31 =>
(gd x23 true (bin .eql .bool x27 x31)).bind fun x32 =>
(pickA x23 x32 (B false)).bind fun x33 =>
leave 0 [] [x33] r3.2) (
(bin .eql .int x10 (I 8)).bind fun x34 =>
cond x34 (
(fldA 4 r2.1).bind fun x35 =>
(ld false 1 x35 r3.2).bind fun x36 =>
(fldA 4 r3.1).bind fun x37 =>
(ld false 1 x37 r3.2).bind fun x38 =>
(bin .eql .int x36 x38).bind fun x39 =>
(gd x39 true (fldA 1 r2.1)).bind fun x40 =>
(gd x39 true (ld false 1 x40 r3.2)).bind fun x41 =>
(gd x39 true (fldA 1 r3.1)).bind fun x42 =>
(gd x39 true (ld false 1 x42 r3.2)).bind fun x43 =>
(gd x39 true (bin .eql .int x41 x43)).bind fun x44 =>
(pickA x39 x44 (B false)).bind fun x45 =>
leave 0 [] [x45] r3.2) (
(bin .eql .int x10 (I 7)).bind fun x46 =>
cond x46 (
(fldA 4 r2.1).bind fun x47 =>
(ld false 1 x47 r3.2).bind fun x48 =>
(fldA 4 r3.1).bind fun x49 =>
(ld false 1 x49 r3.2).bind fun x50 =>
(bin .eql .int x48 x50).bind fun x51 =>
(gd x51 true (fldA 1 r2.1)).bind fun x52 =>
(gd x51 true (ld false 1 x52 r3.2)).bind fun x53 =>
(gd x51 true (fldA 1 r3.1)).bind fun x54 =>
(gd x51 true (ld false 1 x54 r3.2)).bind fun x55 =>
(gd x51 true (bin .eql .int x53 x55)).bind fun x56 =>
(gd x51 true (some x56)).bind fun x57 =>
(gd x57 true (fldA 2 r2.1)).bind fun x58 =>
(gd x57 true (ld false 1 x58 r3.2)).bind fun x59 =>
(gd x57 true (fldA 2 r3.1)).bind fun x60 =>
(gd x57 true (ld false 1 x60 r3.2)).bind fun x61 =>
(gd x57 true (bin .eql .int x59 x61)).bind fun x62 =>
(gd x51 true (pickA x57 x62 (B false))).bind fun x63 =>
(gd x51 true (some x63)).bind fun x64 =>
(gdH x64 false (litA false 1 [I 3, I 5, I 8] r3.2) r3.2).bind fun r65 =>
(gd x64 false (fldA 4 r2.1)).bind fun x66 =>
(gd x64 false (ld false 1 x66 r65.2)).bind fun x67 =>
(gdH x64 false (callA cfg O 42 [r65.1, x67] [] r65.2) r65.2).bind fun r68 =>
(gd x64 false (some r68.1)).bind fun x69 =>
(gd x69 true (fldA 1 r2.1)).bind fun x70 =>
(gd x69 true (ld false 1 x70 r68.2)).bind fun x71 =>
(gd x69 true (fldA 2 r3.1)).bind fun x72 =>
(gd x69 true (ld false 1 x72 r68.2)).bind fun x73 =>
(gd x69 true (bin .eql .int x71 x73)).bind fun x74 =>
(gd x64 false (pickA x69 x74 (B false))).bind fun x75 =>
(gd x64 false (some x75)).bind fun x76 =>
(gd x76 true (fldA 2 r2.1)).bind fun x77 =>
(gd x76 true (ld false 1 x77 r68.2)).bind fun x78 =>
(gd x76 true (fldA 1 r3.1)).bind fun x79 =>
(gd x76 true (ld false 1 x79 r68.2)).bind fun x80 =>
(gd x76 true (bin .eql .int x78 x80)).bind fun x81 =>
(gd x64 false (pickA x76 x81 (B false))).bind fun x82 =>
(gd x51 true (pickA x64 (B true) x82)).bind fun x83 =>
(pickA x51 x83 (B false)).bind fun x84 =>
leave 0 [] [x84] r68.2) (
leave 0 [] [B false] r3.2))))))) := by
  rw [O_ent]
  kernel_rfl
end Go.Proofs.YtnjfpnoamgipjaaDoor

