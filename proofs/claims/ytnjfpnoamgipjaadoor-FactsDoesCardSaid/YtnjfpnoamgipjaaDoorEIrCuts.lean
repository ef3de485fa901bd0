import Derived.Test.YtnjfpnoamgipjaaDoorCf
set_option linter.unusedVariables false
set_option maxRecDepth 100000
namespace Go.Proofs.YtnjfpnoamgipjaaDoor
open Go Go.AM
-- backstitch/backstitchlaw2.IrCuts
-- backstitch/ir.Cut
noncomputable def T24_14:List It := labAt Tryd.prog cfg 24 14 (fun _ => none)
noncomputable def L24_14 (vals:List AV) (lo:List Nat) (H:Heap):Res := O.lab 24 [1,2,4,6,7,28,29,30] (T24_14) vals lo H
noncomputable def T24_41:List It := labAt Tryd.prog cfg 24 41 (fun _ => none)
noncomputable def L24_41 (vals:List AV) (lo:List Nat) (H:Heap):Res := O.lab 24 [1,2,4,6,7,28,29,30] (T24_41) vals lo H
noncomputable def T24_23:List It := labAt Tryd.prog cfg 24 23 (fun _ => none)
noncomputable def L24_23 (vals:List AV) (lo:List Nat) (H:Heap):Res := O.lab 24 [1,2,4,6,7,8,9,28,29,30] (T24_23) vals lo H
noncomputable def T24_47:List It := labAt Tryd.prog cfg 24 47 (fun _ => none)
noncomputable def L24_47 (vals:List AV) (lo:List Nat) (H:Heap):Res := O.lab 24 [2,4,6,7] (T24_47) vals lo H
noncomputable def T24_51:List It := labAt Tryd.prog cfg 24 51 (fun _ => none)
noncomputable def L24_51 (vals:List AV) (lo:List Nat) (H:Heap):Res := O.lab 24 [2,4,6,7] (T24_51) vals lo H
noncomputable def T24_52:List It := labAt Tryd.prog cfg 24 52 (fun _ => none)
noncomputable def L24_52 (vals:List AV) (lo:List Nat) (H:Heap):Res := O.lab 24 [2,4,6,7,124,125,126] (T24_52) vals lo H
theorem L24_14_eq (lo:List Nat)(v1 v2 v4 v6 v7 v28 v29 v30:AV)(H:Heap):L24_14 [v1,v2,v4,v6,v7,v28,v29,v30] lo H = (
(bin .lss .int v30 v29).bind fun x1 =>
cond x1 (
(idxA 8 v28 v30).bind fun x2 =>
(ld true 8 x2 H).bind fun x3 =>
(boxO [] [(I 0),(I 0),(I 0),(I 0),(I 0),(I 0),(I 0),(I 0)] H).bind fun r4 =>
((stA 8 r4.1 x3 lo r4.2).map fun H' => (undefA,H')).bind fun r5 =>
(fldA 2 v2).bind fun x6 =>
(ld false 1 x6 r5.2).bind fun x7 =>
(bin .eql .int v30 x7).bind fun x8 =>
cond x8 (
(fldA 3 v7).bind fun x9 =>
(ld false 1 x9 r5.2).bind fun x10 =>
(lenA .slice x10 r5.2).bind fun x11 =>
(fldA 2 v7).bind fun x12 =>
((stA 1 x12 x11 lo r5.2).map fun H' => (undefA,H')).bind fun r13 =>
L24_23 [v1,v2,v4,v6,v7,v30,r4.1,v28,v29,v30] lo r13.2) (
L24_23 [v1,v2,v4,v6,v7,v30,r4.1,v28,v29,v30] lo r5.2)) (
(fldA 2 v2).bind fun x14 =>
(ld false 1 x14 H).bind fun x15 =>
(fldA 3 v2).bind fun x16 =>
(ld false 1 x16 H).bind fun x17 =>
(lenA .slice x17 H).bind fun x18 =>
(bin .geq .int x15 x18).bind fun x19 =>
cond x19 (
(fldA 3 v7).bind fun x20 =>
(ld false 1 x20 H).bind fun x21 =>
(lenA .slice x21 H).bind fun x22 =>
(fldA 2 v7).bind fun x23 =>
((stA 1 x23 x22 lo H).map fun H' => (undefA,H')).bind fun r24 =>
L24_47 [v2,v4,v6,v7] lo r24.2) (
L24_47 [v2,v4,v6,v7] lo H))) := by
  show O.lab _ _ _ _ _ _ = _
  rw [O_lab]
  kernel_rfl
theorem L24_41_eq (lo:List Nat)(v1 v2 v4 v6 v7 v28 v29 v30:AV)(H:Heap):L24_41 [v1,v2,v4,v6,v7,v28,v29,v30] lo H = (
(bin .add .int v30 (I 1)).bind fun x1 =>
L24_14 [v1,v2,v4,v6,v7,v28,v29,x1] lo H) := by
  show O.lab _ _ _ _ _ _ = _
  rw [O_lab]
  kernel_rfl
theorem L24_23_eq (lo:List Nat)(v1 v2 v4 v6 v7 v8 v9 v28 v29 v30:AV)(H:Heap):L24_23 [v1,v2,v4,v6,v7,v8,v9,v28,v29,v30] lo H = (
(idxA 1 v1 v8).bind fun x1 =>
(ld false 1 x1 H).bind fun x2 =>
(bin .eql .int x2 v8).bind fun x3 =>
cond x3 (
(nilCheckA v6).bind fun x4 =>
(fldA 0 x4).bind fun x5 =>
(ldS false 1 x5 H).bind fun x6 =>
(fldA 3 v7).bind fun x7 =>
(ld false 1 x7 H).bind fun x8 =>
(lenA .slice x8 H).bind fun x9 =>
(litA false 1 [x9] H).bind fun r10 =>
(appA 1 8 x6 r10.1 r10.2).bind fun r11 =>
(nilCheckA v6).bind fun x12 =>
(fldA 0 x12).bind fun x13 =>
((stA 1 x13 r11.1 lo r11.2).map fun H' => (undefA,H')).bind fun r14 =>
(fldA 3 v7).bind fun x15 =>
(ldN false 1 x15 r14.2).bind fun x16 =>
(ld true 8 v9 r14.2).bind fun x17 =>
(callA cfg O 55 [v6,x17] lo r14.2).bind fun r18 =>
(litA false 8 [r18.1] r18.2).bind fun r19 =>
(appA 8 64 x16 r19.1 r19.2).bind fun r20 =>
(fldA 3 v7).bind fun x21 =>
((stA 1 x21 r20.1 lo r20.2).map fun H' => (undefA,H')).bind fun r22 =>
L24_41 [v1,v2,v4,v6,v7,v28,v29,v30] lo r22.2) (
(bin .eql .int x2 (I (-1))).bind fun x23 =>
cond x23 (
(nilCheckA v6).bind fun x24 =>
(fldA 0 x24).bind fun x25 =>
(ld false 1 x25 H).bind fun x26 =>
(litA false 1 [I (-1)] H).bind fun r27 =>
(appA 1 8 x26 r27.1 r27.2).bind fun r28 =>
(nilCheckA v6).bind fun x29 =>
(fldA 0 x29).bind fun x30 =>
((stA 1 x30 r28.1 lo r28.2).map fun H' => (undefA,H')).bind fun r31 =>
L24_41 [v1,v2,v4,v6,v7,v28,v29,v30] lo r31.2) (
(bin .geq .int x2 (I 0)).bind fun x32 =>
(gd x32 true (some x2)).bind fun x33 =>
(gd x32 true (some v8)).bind fun x34 =>
(gd x32 true (bin .lss .int x33 x34)).bind fun x35 =>
(pickA x32 x35 (B false)).bind fun x36 =>
cond x36 (
(nilCheckA v6).bind fun x37 =>
(fldA 0 x37).bind fun x38 =>
(ldS false 1 x38 H).bind fun x39 =>
(nilCheckA v6).bind fun x40 =>
(fldA 0 x40).bind fun x41 =>
(ld false 1 x41 H).bind fun x42 =>
(idxA 1 x42 x2).bind fun x43 =>
(ld false 1 x43 H).bind fun x44 =>
(litA false 1 [x44] H).bind fun r45 =>
(appA 1 8 x39 r45.1 r45.2).bind fun r46 =>
(nilCheckA v6).bind fun x47 =>
(fldA 0 x47).bind fun x48 =>
((stA 1 x48 r46.1 lo r46.2).map fun H' => (undefA,H')).bind fun r49 =>
L24_41 [v1,v2,v4,v6,v7,v28,v29,v30] lo r49.2) (
(buildA [(I 0),(I 0),(I 0),(.p nilS),(.p nilS),(I 0),(I 0),(.p nilS),(.p nilS),(I 0),(I 0),(.p nilS),(.p nilS)] []).bind fun x50 =>
((stA 13 v4 x50 lo H).map fun H' => (undefA,H')).bind fun r51 =>
((ld true 13 v4 r51.2).bind fun x53 => ((some []).map fun q55 => I 3 :: q55).map fun q54 => x53 :: q54).bind fun xs52 => leave 5 lo xs52 r51.2)))) := by
  show O.lab _ _ _ _ _ _ = _
  rw [O_lab]
  kernel_rfl
theorem L24_47_eq (lo:List Nat)(v2 v4 v6 v7:AV)(H:Heap):L24_47 [v2,v4,v6,v7] lo H = (
(fldA 2 v2).bind fun x1 =>
(ld false 1 x1 H).bind fun x2 =>
(bin .leq .int x2 (I 0)).bind fun x3 =>
cond x3 (
(fldA 2 v7).bind fun x4 =>
((stA 1 x4 (I 0) lo H).map fun H' => (undefA,H')).bind fun r5 =>
L24_51 [v2,v4,v6,v7] lo r5.2) (
L24_51 [v2,v4,v6,v7] lo H)) := by
  show O.lab _ _ _ _ _ _ = _
  rw [O_lab]
  kernel_rfl
theorem L24_51_eq (lo:List Nat)(v2 v4 v6 v7:AV)(H:Heap):L24_51 [v2,v4,v6,v7] lo H = (
(fldA 4 v2).bind fun x1 =>
(ld false 1 x1 H).bind fun x2 =>
(lenA .slice x2 H).bind fun x3 =>
L24_52 [v2,v4,v6,v7,x2,x3,I 0] lo H) := by
  show O.lab _ _ _ _ _ _ = _
  rw [O_lab]
  kernel_rfl
theorem L24_52_eq (lo:List Nat)(v2 v4 v6 v7 v124 v125 v126:AV)(H:Heap):L24_52 [v2,v4,v6,v7,v124,v125,v126] lo H = (
(bin .lss .int v126 v125).bind fun x1 =>
cond x1 (
(idxA 4 v124 v126).bind fun x2 =>
(ld true 4 x2 H).bind fun x3 =>
(boxO [] [(I 0),(I 0),(.p nilS),(.p nilS)] H).bind fun r4 =>
((stA 4 r4.1 x3 lo r4.2).map fun H' => (undefA,H')).bind fun r5 =>
(fldA 4 v7).bind fun x6 =>
(ldN false 1 x6 r5.2).bind fun x7 =>
(ld true 4 r4.1 r5.2).bind fun x8 =>
(callA cfg O 56 [v6,x8] lo r5.2).bind fun r9 =>
(litA false 4 [r9.1] r9.2).bind fun r10 =>
(appA 4 64 x7 r10.1 r10.2).bind fun r11 =>
(fldA 4 v7).bind fun x12 =>
((stA 1 x12 r11.1 lo r11.2).map fun H' => (undefA,H')).bind fun r13 =>
(bin .add .int v126 (I 1)).bind fun x14 =>
L24_52 [v2,v4,v6,v7,v124,v125,x14] lo r13.2) (
(fldA 5 v2).bind fun x15 =>
(ld true 4 x15 H).bind fun x16 =>
(callA cfg O 56 [v6,x16] lo H).bind fun r17 =>
(fldA 9 v2).bind fun x18 =>
(ldN true 4 x18 r17.2).bind fun x19 =>
(callA cfg O 56 [v6,x19] lo r17.2).bind fun r20 =>
(fldA 5 v7).bind fun x21 =>
((stA 4 x21 r17.1 lo r20.2).map fun H' => (undefA,H')).bind fun r22 =>
(fldA 9 v7).bind fun x23 =>
((stA 4 x23 r20.1 lo r22.2).map fun H' => (undefA,H')).bind fun r24 =>
(nilCheckA v6).bind fun x25 =>
(fldA 1 x25).bind fun x26 =>
(ld false 1 x26 r24.2).bind fun x27 =>
(un .not x27).bind fun x28 =>
cond x28 (
(buildA [(I 0),(I 0),(I 0),(.p nilS),(.p nilS),(I 0),(I 0),(.p nilS),(.p nilS),(I 0),(I 0),(.p nilS),(.p nilS)] []).bind fun x29 =>
((stA 13 v4 x29 lo r24.2).map fun H' => (undefA,H')).bind fun r30 =>
((ld true 13 v4 r30.2).bind fun x32 => ((some []).map fun q34 => I 3 :: q34).map fun q33 => x32 :: q33).bind fun xs31 => leave 5 lo xs31 r30.2) (
(ld true 13 v7 r24.2).bind fun x35 =>
((stA 13 v4 x35 lo r24.2).map fun H' => (undefA,H')).bind fun r36 =>
((ld true 13 v4 r36.2).bind fun x38 => ((some []).map fun q40 => I 0 :: q40).map fun q39 => x38 :: q39).bind fun xs37 => leave 5 lo xs37 r36.2))) := by
  show O.lab _ _ _ _ _ _ = _
  rw [O_lab]
  kernel_rfl
theorem f24_eq (a0 a1:AV):O.ent 24 [a0,a1] [] [] = (
(boxO [] (AV.cells a0) []).bind fun r1 =>
(boxO [] [(I 0),(I 0),(I 0),(.p nilS),(.p nilS),(I 0),(I 0),(.p nilS),(.p nilS),(I 0),(I 0),(.p nilS),(.p nilS)] r1.2).bind fun r2 =>
(lenA .slice a1 r2.2).bind fun x3 =>
(fldA 3 r1.1).bind fun x4 =>
(ld false 1 x4 r2.2).bind fun x5 =>
(lenA .slice x5 r2.2).bind fun x6 =>
(bin .neq .int x3 x6).bind fun x7 =>
cond x7 (
(buildA [(I 0),(I 0),(I 0),(.p nilS),(.p nilS),(I 0),(I 0),(.p nilS),(.p nilS),(I 0),(I 0),(.p nilS),(.p nilS)] []).bind fun x8 =>
((stA 13 r2.1 x8 [] r2.2).map fun H' => (undefA,H')).bind fun r9 =>
((ld true 13 r2.1 r9.2).bind fun x11 => ((some []).map fun q13 => I 3 :: q13).map fun q12 => x11 :: q12).bind fun xs10 => leave 5 [] xs10 r9.2) (
(buildA [(.p nilS),(B false)] [(1,1,B true)]).bind fun x14 =>
(boxO [] (AV.cells x14) r2.2).bind fun r15 =>
(fldA 0 r1.1).bind fun x16 =>
(ld false 1 x16 r15.2).bind fun x17 =>
(fldA 1 r1.1).bind fun x18 =>
(ld false 1 x18 r15.2).bind fun x19 =>
(buildA [(I 0),(I 0),(I 0),(.p nilS),(.p nilS),(I 0),(I 0),(.p nilS),(.p nilS),(I 0),(I 0),(.p nilS),(.p nilS)] [(0,1,x17),(1,1,x19)]).bind fun x20 =>
(boxO [] [(I 0),(I 0),(I 0),(.p nilS),(.p nilS),(I 0),(I 0),(.p nilS),(.p nilS),(I 0),(I 0),(.p nilS),(.p nilS)] r15.2).bind fun r21 =>
((stA 13 r21.1 x20 [] r21.2).map fun H' => (undefA,H')).bind fun r22 =>
(fldA 3 r1.1).bind fun x23 =>
(ld false 1 x23 r22.2).bind fun x24 =>
(lenA .slice x24 r22.2).bind fun x25 =>
L24_14 [a1,r1.1,r2.1,r15.1,r21.1,x24,x25,I 0] [] r22.2)) := by
  rw [O_ent]
  kernel_rfl
-- backstitch/backstitchref2.Cut
noncomputable def T25_14:List It := labAt Tryd.prog cfg 25 14 (fun _ => none)
noncomputable def L25_14 (vals:List AV) (lo:List Nat) (H:Heap):Res := O.lab 25 [2,3,4,6,7,8,9,30,31,32] (T25_14) vals lo H
noncomputable def T25_41:List It := labAt Tryd.prog cfg 25 41 (fun _ => none)
noncomputable def L25_41 (vals:List AV) (lo:List Nat) (H:Heap):Res := O.lab 25 [2,3,4,6,7,8,9,30,31,32] (T25_41) vals lo H
noncomputable def T25_35:List It := labAt Tryd.prog cfg 25 35 (fun _ => none)
noncomputable def L25_35 (vals:List AV) (lo:List Nat) (H:Heap):Res := O.lab 25 [2,3,4,6,7,8,9,10,11,30,31,32] (T25_35) vals lo H
noncomputable def T25_33:List It := labAt Tryd.prog cfg 25 33 (fun _ => none)
noncomputable def L25_33 (vals:List AV) (lo:List Nat) (H:Heap):Res := O.lab 25 [2,3,4,6,7,8,9,10,11,30,31,32] (T25_33) vals lo H
noncomputable def T25_31:List It := labAt Tryd.prog cfg 25 31 (fun _ => none)
noncomputable def L25_31 (vals:List AV) (lo:List Nat) (H:Heap):Res := O.lab 25 [2,3,4,6,7,8,9,10,11,30,31,32] (T25_31) vals lo H
noncomputable def T25_39:List It := labAt Tryd.prog cfg 25 39 (fun _ => none)
noncomputable def L25_39 (vals:List AV) (lo:List Nat) (H:Heap):Res := O.lab 25 [2,3,4,6,7,8,9,11,30,31,32] (T25_39) vals lo H
noncomputable def T25_44:List It := labAt Tryd.prog cfg 25 44 (fun _ => none)
noncomputable def L25_44 (vals:List AV) (lo:List Nat) (H:Heap):Res := O.lab 25 [4,6,8,9,83,84,85] (T25_44) vals lo H
theorem L25_14_eq (lo:List Nat)(v2 v3 v4 v6 v7 v8 v9 v30 v31 v32:AV)(H:Heap):L25_14 [v2,v3,v4,v6,v7,v8,v9,v30,v31,v32] lo H = (
(bin .lss .int v32 v31).bind fun x1 =>
cond x1 (
(idxA 8 v30 v32).bind fun x2 =>
(ld true 8 x2 H).bind fun x3 =>
(boxO [] [(I 0),(I 0),(I 0),(I 0),(I 0),(I 0),(I 0),(I 0)] H).bind fun r4 =>
((stA 8 r4.1 x3 lo r4.2).map fun H' => (undefA,H')).bind fun r5 =>
(ld false 1 v3 r5.2).bind fun x6 =>
(idxA 1 x6 v32).bind fun x7 =>
(ld false 1 x7 r5.2).bind fun x8 =>
(bin .neq .int x8 v32).bind fun x9 =>
cond x9 (
L25_41 [v2,v3,v4,v6,v7,v8,v9,v30,v31,v32] lo r5.2) (
(fldA 0 r4.1).bind fun x10 =>
(ld false 1 x10 r5.2).bind fun x11 =>
(callA cfg O 41 [x11] lo r5.2).bind fun r12 =>
(bin .eql .int r12.1 (I 3)).bind fun x13 =>
cond x13 (
(ld false 1 v7 r12.2).bind fun x14 =>
(fldA 3 r4.1).bind fun x15 =>
(ld false 1 x15 r12.2).bind fun x16 =>
(callV cfg O x14 [x16] lo r12.2).bind fun r17 =>
(fldA 3 r4.1).bind fun x18 =>
((stA 1 x18 r17.1 lo r17.2).map fun H' => (undefA,H')).bind fun r19 =>
L25_31 [v2,v3,v4,v6,v7,v8,v9,v32,r4.1,v30,v31,v32] lo r19.2) (
(bin .eql .int r12.1 (I 2)).bind fun x20 =>
cond x20 (
L25_31 [v2,v3,v4,v6,v7,v8,v9,v32,r4.1,v30,v31,v32] lo r12.2) (
(bin .eql .int r12.1 (I 1)).bind fun x21 =>
cond x21 (
L25_33 [v2,v3,v4,v6,v7,v8,v9,v32,r4.1,v30,v31,v32] lo r12.2) (
L25_35 [v2,v3,v4,v6,v7,v8,v9,v32,r4.1,v30,v31,v32] lo r12.2))))) (
(fldA 4 v2).bind fun x22 =>
(ld false 1 x22 H).bind fun x23 =>
(lenA .slice x23 H).bind fun x24 =>
L25_44 [v4,v6,v8,v9,x23,x24,I 0] lo H)) := by
  show O.lab _ _ _ _ _ _ = _
  rw [O_lab]
  kernel_rfl
theorem L25_41_eq (lo:List Nat)(v2 v3 v4 v6 v7 v8 v9 v30 v31 v32:AV)(H:Heap):L25_41 [v2,v3,v4,v6,v7,v8,v9,v30,v31,v32] lo H = (
(bin .add .int v32 (I 1)).bind fun x1 =>
L25_14 [v2,v3,v4,v6,v7,v8,v9,v30,v31,x1] lo H) := by
  show O.lab _ _ _ _ _ _ = _
  rw [O_lab]
  kernel_rfl
theorem L25_35_eq (lo:List Nat)(v2 v3 v4 v6 v7 v8 v9 v10 v11 v30 v31 v32:AV)(H:Heap):L25_35 [v2,v3,v4,v6,v7,v8,v9,v10,v11,v30,v31,v32] lo H = (
(fldA 2 v2).bind fun x1 =>
(ld false 1 x1 H).bind fun x2 =>
(bin .lss .int v10 x2).bind fun x3 =>
cond x3 (
(fldA 2 v9).bind fun x4 =>
(ld false 1 x4 H).bind fun x5 =>
(bin .add .int x5 (I 1)).bind fun x6 =>
(fldA 2 v9).bind fun x7 =>
((stA 1 x7 x6 lo H).map fun H' => (undefA,H')).bind fun r8 =>
L25_39 [v2,v3,v4,v6,v7,v8,v9,v11,v30,v31,v32] lo r8.2) (
L25_39 [v2,v3,v4,v6,v7,v8,v9,v11,v30,v31,v32] lo H)) := by
  show O.lab _ _ _ _ _ _ = _
  rw [O_lab]
  kernel_rfl
theorem L25_33_eq (lo:List Nat)(v2 v3 v4 v6 v7 v8 v9 v10 v11 v30 v31 v32:AV)(H:Heap):L25_33 [v2,v3,v4,v6,v7,v8,v9,v10,v11,v30,v31,v32] lo H = (
(ld false 1 v7 H).bind fun x1 =>
(fldA 1 v11).bind fun x2 =>
(ld false 1 x2 H).bind fun x3 =>
(callV cfg O x1 [x3] lo H).bind fun r4 =>
(fldA 1 v11).bind fun x5 =>
((stA 1 x5 r4.1 lo r4.2).map fun H' => (undefA,H')).bind fun r6 =>
L25_35 [v2,v3,v4,v6,v7,v8,v9,v10,v11,v30,v31,v32] lo r6.2) := by
  show O.lab _ _ _ _ _ _ = _
  rw [O_lab]
  kernel_rfl
theorem L25_31_eq (lo:List Nat)(v2 v3 v4 v6 v7 v8 v9 v10 v11 v30 v31 v32:AV)(H:Heap):L25_31 [v2,v3,v4,v6,v7,v8,v9,v10,v11,v30,v31,v32] lo H = (
(ld false 1 v7 H).bind fun x1 =>
(fldA 2 v11).bind fun x2 =>
(ld false 1 x2 H).bind fun x3 =>
(callV cfg O x1 [x3] lo H).bind fun r4 =>
(fldA 2 v11).bind fun x5 =>
((stA 1 x5 r4.1 lo r4.2).map fun H' => (undefA,H')).bind fun r6 =>
L25_33 [v2,v3,v4,v6,v7,v8,v9,v10,v11,v30,v31,v32] lo r6.2) := by
  show O.lab _ _ _ _ _ _ = _
  rw [O_lab]
  kernel_rfl
theorem L25_39_eq (lo:List Nat)(v2 v3 v4 v6 v7 v8 v9 v11 v30 v31 v32:AV)(H:Heap):L25_39 [v2,v3,v4,v6,v7,v8,v9,v11,v30,v31,v32] lo H = (
(fldA 3 v9).bind fun x1 =>
(ld false 1 x1 H).bind fun x2 =>
(ld true 8 v11 H).bind fun x3 =>
(litA false 8 [x3] H).bind fun r4 =>
(appA 8 64 x2 r4.1 r4.2).bind fun r5 =>
(fldA 3 v9).bind fun x6 =>
((stA 1 x6 r5.1 lo r5.2).map fun H' => (undefA,H')).bind fun r7 =>
L25_41 [v2,v3,v4,v6,v7,v8,v9,v30,v31,v32] lo r7.2) := by
  show O.lab _ _ _ _ _ _ = _
  rw [O_lab]
  kernel_rfl
theorem L25_44_eq (lo:List Nat)(v4 v6 v8 v9 v83 v84 v85:AV)(H:Heap):L25_44 [v4,v6,v8,v9,v83,v84,v85] lo H = (
(bin .lss .int v85 v84).bind fun x1 =>
cond x1 (
(idxA 4 v83 v85).bind fun x2 =>
(ld true 4 x2 H).bind fun x3 =>
(boxO [] [(I 0),(I 0),(.p nilS),(.p nilS)] H).bind fun r4 =>
((stA 4 r4.1 x3 lo r4.2).map fun H' => (undefA,H')).bind fun r5 =>
(fldA 4 v9).bind fun x6 =>
(ldN false 1 x6 r5.2).bind fun x7 =>
(ld true 4 r4.1 r5.2).bind fun x8 =>
(callC cfg O (some ClK.bools) v8 [x8] lo r5.2).bind fun r9 =>
(litA false 4 [r9.1] r9.2).bind fun r10 =>
(appA 4 64 x7 r10.1 r10.2).bind fun r11 =>
(fldA 4 v9).bind fun x12 =>
((stA 1 x12 r11.1 lo r11.2).map fun H' => (undefA,H')).bind fun r13 =>
(bin .add .int v85 (I 1)).bind fun x14 =>
L25_44 [v4,v6,v8,v9,v83,v84,x14] lo r13.2) (
(ld false 1 v6 H).bind fun x15 =>
(un .not x15).bind fun x16 =>
cond x16 (
(buildA [(I 0),(I 0),(I 0),(.p nilS),(.p nilS),(I 0),(I 0),(.p nilS),(.p nilS),(I 0),(I 0),(.p nilS),(.p nilS)] []).bind fun x17 =>
((stA 13 v4 x17 lo H).map fun H' => (undefA,H')).bind fun r18 =>
((ld true 13 v4 r18.2).bind fun x20 => ((some []).map fun q22 => B false :: q22).map fun q21 => x20 :: q21).bind fun xs19 => leave 5 lo xs19 r18.2) (
(ld true 13 v9 H).bind fun x23 =>
((stA 13 v4 x23 lo H).map fun H' => (undefA,H')).bind fun r24 =>
((ld true 13 v4 r24.2).bind fun x26 => ((some []).map fun q28 => B true :: q28).map fun q27 => x26 :: q27).bind fun xs25 => leave 5 lo xs25 r24.2))) := by
  show O.lab _ _ _ _ _ _ = _
  rw [O_lab]
  kernel_rfl
theorem f25_eq (a0 a1:AV):O.ent 25 [a0,a1] [] [] = (
(boxO [] (AV.cells a0) []).bind fun r1 =>
(boxO [] (AV.cells a1) r1.2).bind fun r2 =>
(boxO [] [(I 0),(I 0),(I 0),(.p nilS),(.p nilS),(I 0),(I 0),(.p nilS),(.p nilS),(I 0),(I 0),(.p nilS),(.p nilS)] r2.2).bind fun r3 =>
(boxO [] [(B false)] r3.2).bind fun r4 =>
((stA 1 r4.1 (B true) [] r4.2).map fun H' => (undefA,H')).bind fun r5 =>
(boxO [] [(.p (.v .nilFunc))] r5.2).bind fun r6 =>
((stA 1 r6.1 (.fn 57 [] [r2.1,r4.1]) [] r6.2).map fun H' => (undefA,H')).bind fun r7 =>
(fldA 0 r1.1).bind fun x8 =>
(ldN false 1 x8 (r7.2 ++ List.replicate 1 AObj.hole)).bind fun x9 =>
(fldA 1 r1.1).bind fun x10 =>
(ldN false 1 x10 (r7.2 ++ List.replicate 1 AObj.hole)).bind fun x11 =>
(fldA 5 r1.1).bind fun x12 =>
(ldN true 4 x12 (r7.2 ++ List.replicate 1 AObj.hole)).bind fun x13 =>
(callC cfg O (some (ClK.past [(.v (.int .i64 0)),(.v (.int .i64 0)),(.v (.int .i64 0)),nilS,nilS,(.v (.int .i64 0)),(.v (.int .i64 0)),nilS,nilS,(.v (.int .i64 0)),(.v (.int .i64 0)),nilS,nilS])) (.fn 58 [] [r6.1]) [x13] [] (r7.2 ++ List.replicate 1 AObj.hole)).bind fun r14 =>
(fldA 9 r1.1).bind fun x15 =>
(ldN true 4 x15 r14.2).bind fun x16 =>
(callC cfg O (some (ClK.past [(.v (.int .i64 0)),(.v (.int .i64 0)),(.v (.int .i64 0)),nilS,nilS,(.v (.int .i64 0)),(.v (.int .i64 0)),nilS,nilS,(.v (.int .i64 0)),(.v (.int .i64 0)),nilS,nilS])) (.fn 58 [] [r6.1]) [x16] [] r14.2).bind fun r17 =>
(buildA [(I 0),(I 0),(I 0),(.p nilS),(.p nilS),(I 0),(I 0),(.p nilS),(.p nilS),(I 0),(I 0),(.p nilS),(.p nilS)] [(0,1,x9),(1,1,x11),(5,4,r14.1),(9,4,r17.1)]).bind fun x18 =>
(fillA 1 0 [(I 0),(I 0),(I 0),(.p nilS),(.p nilS),(I 0),(I 0),(.p nilS),(.p nilS),(I 0),(I 0),(.p nilS),(.p nilS)] r17.2).bind fun r19 =>
((stA 13 r19.1 x18 [] r19.2).map fun H' => (undefA,H')).bind fun r20 =>
(fldA 3 r1.1).bind fun x21 =>
(ld false 1 x21 r20.2).bind fun x22 =>
(lenA .slice x22 r20.2).bind fun x23 =>
L25_14 [r1.1,r2.1,r3.1,r4.1,r6.1,.fn 58 [] [r6.1],r19.1,x22,x23,I 0] [] r20.2) := by
  rw [O_ent]
  kernel_rfl
-- backstitch/backstitchref2.SameTrace
noncomputable def T26_10:List It := labAt Tryd.prog cfg 26 10 (fun _ => none)
noncomputable def L26_10 (vals:List AV) (lo:List Nat) (H:Heap):Res := O.lab 26 [2,3,60,61] (T26_10) vals lo H
theorem L26_10_eq (lo:List Nat)(v2 v3 v60 v61:AV)(H:Heap):L26_10 [v2,v3,v60,v61] lo H = (
(bin .lss .int v61 v60).bind fun x1 =>
cond x1 (
(fldA 4 v2).bind fun x2 =>
(ld false 1 x2 H).bind fun x3 =>
(idxA 4 x3 v61).bind fun x4 =>
(ld true 4 x4 H).bind fun x5 =>
(fldA 4 v3).bind fun x6 =>
(ld false 1 x6 H).bind fun x7 =>
(idxA 4 x7 v61).bind fun x8 =>
(ld true 4 x8 H).bind fun x9 =>
(callA cfg O 53 [x5,x9] lo H).bind fun r10 =>
(un .not r10.1).bind fun x11 =>
cond x11 (
leave 0 lo [B false] r10.2) (
(bin .add .int v61 (I 1)).bind fun x12 =>
L26_10 [v2,v3,v60,x12] lo r10.2)) (
leave 0 lo [B true] H)) := by
  show O.lab _ _ _ _ _ _ = _
  rw [O_lab]
  kernel_rfl
theorem f26_eq (a0 a1:AV):O.ent 26 [a0,a1] [] [] = (
(boxO [] (AV.cells a0) []).bind fun r1 =>
(boxO [] (AV.cells a1) r1.2).bind fun r2 =>
(fldA 0 r1.1).bind fun x3 =>
(ld false 1 x3 r2.2).bind fun x4 =>
(fldA 0 r2.1).bind fun x5 =>
(ld false 1 x5 r2.2).bind fun x6 =>
(bin .neq .int x4 x6).bind fun x7 =>
(gd x7 false (fldA 1 r1.1)).bind fun x8 =>
(gd x7 false (ld false 1 x8 r2.2)).bind fun x9 =>
(gd x7 false (fldA 1 r2.1)).bind fun x10 =>
(gd x7 false (ld false 1 x10 r2.2)).bind fun x11 =>
(gd x7 false (bin .neq .int x9 x11)).bind fun x12 =>
(pickA x7 (B true) x12).bind fun x13 =>
(gd x13 false (fldA 2 r1.1)).bind fun x14 =>
(gd x13 false (ld false 1 x14 r2.2)).bind fun x15 =>
(gd x13 false (fldA 2 r2.1)).bind fun x16 =>
(gd x13 false (ld false 1 x16 r2.2)).bind fun x17 =>
(gd x13 false (bin .neq .int x15 x17)).bind fun x18 =>
(pickA x13 (B true) x18).bind fun x19 =>
(gd x19 false (fldA 3 r1.1)).bind fun x20 =>
(gd x19 false (ld false 1 x20 r2.2)).bind fun x21 =>
(gd x19 false (fldA 3 r2.1)).bind fun x22 =>
(gd x19 false (ld false 1 x22 r2.2)).bind fun x23 =>
(gdH x19 false (callA cfg O 59 [x21,x23] [] r2.2) r2.2).bind fun r24 =>
(gd x19 false (un .not r24.1)).bind fun x25 =>
(pickA x19 (B true) x25).bind fun x26 =>
(gd x26 false (fldA 4 r1.1)).bind fun x27 =>
(gd x26 false (ld false 1 x27 r24.2)).bind fun x28 =>
(gd x26 false (lenA .slice x28 r24.2)).bind fun x29 =>
(gd x26 false (fldA 4 r2.1)).bind fun x30 =>
(gd x26 false (ld false 1 x30 r24.2)).bind fun x31 =>
(gd x26 false (lenA .slice x31 r24.2)).bind fun x32 =>
(gd x26 false (bin .neq .int x29 x32)).bind fun x33 =>
(pickA x26 (B true) x33).bind fun x34 =>
(gd x34 false (fldA 5 r1.1)).bind fun x35 =>
(gd x34 false (ld true 4 x35 r24.2)).bind fun x36 =>
(gd x34 false (fldA 5 r2.1)).bind fun x37 =>
(gd x34 false (ld true 4 x37 r24.2)).bind fun x38 =>
(gdH x34 false (callA cfg O 53 [x36,x38] [] r24.2) r24.2).bind fun r39 =>
(gd x34 false (un .not r39.1)).bind fun x40 =>
(pickA x34 (B true) x40).bind fun x41 =>
(gd x41 false (fldA 9 r1.1)).bind fun x42 =>
(gd x41 false (ld true 4 x42 r39.2)).bind fun x43 =>
(gd x41 false (fldA 9 r2.1)).bind fun x44 =>
(gd x41 false (ld true 4 x44 r39.2)).bind fun x45 =>
(gdH x41 false (callA cfg O 53 [x43,x45] [] r39.2) r39.2).bind fun r46 =>
(gd x41 false (un .not r46.1)).bind fun x47 =>
(pickA x41 (B true) x47).bind fun x48 =>
cond x48 (
leave 0 [] [B false] r46.2) (
(fldA 4 r1.1).bind fun x49 =>
(ld false 1 x49 r46.2).bind fun x50 =>
(lenA .slice x50 r46.2).bind fun x51 =>
L26_10 [r1.1,r2.1,x51,I 0] [] r46.2)) := by
  rw [O_ent]
  kernel_rfl
-- (*backstitch/ir.cutter).ins
noncomputable def T55_21:List It := labAt Tryd.prog cfg 55 21 (fun _ => none)
noncomputable def L55_21 (vals:List AV) (lo:List Nat) (H:Heap):Res := O.lab 55 [3,4] (T55_21) vals lo H
noncomputable def T55_12:List It := labAt Tryd.prog cfg 55 12 (fun _ => none)
noncomputable def L55_12 (vals:List AV) (lo:List Nat) (H:Heap):Res := O.lab 55 [0,3,4,23,24,25] (T55_12) vals lo H
theorem L55_21_eq (lo:List Nat)(v3 v4:AV)(H:Heap):L55_21 [v3,v4] lo H = (
(ld true 8 v3 H).bind fun x1 =>
((stA 8 v4 x1 lo H).map fun H' => (undefA,H')).bind fun r2 =>
((ld true 8 v4 r2.2).bind fun x4 => (some []).map fun q5 => x4 :: q5).bind fun xs3 => leave 7 lo xs3 r2.2) := by
  show O.lab _ _ _ _ _ _ = _
  rw [O_lab]
  kernel_rfl
theorem L55_12_eq (lo:List Nat)(v0 v3 v4 v23 v24 v25:AV)(H:Heap):L55_12 [v0,v3,v4,v23,v24,v25] lo H = (
(bin .lss .int v25 v24).bind fun x1 =>
cond x1 (
(idxA 1 v23 v25).bind fun x2 =>
(ld false 1 x2 H).bind fun x3 =>
(nilCheckA x3).bind fun x4 =>
(ld false 1 x4 H).bind fun x5 =>
(callA cfg O 110 [v0,x5] lo H).bind fun r6 =>
(nilCheckA x3).bind fun x7 =>
((stA 1 x7 r6.1 lo r6.2).map fun H' => (undefA,H')).bind fun r8 =>
(bin .add .int v25 (I 1)).bind fun x9 =>
L55_12 [v0,v3,v4,v23,v24,x9] lo r8.2) (
L55_21 [v3,v4] lo H)) := by
  show O.lab _ _ _ _ _ _ = _
  rw [O_lab]
  kernel_rfl
theorem f55_eq (a0 a1:AV)(lo:List Nat)(H:Heap):O.ent 55 [a0,a1] lo H = (
(boxO [] (AV.cells a1) H).bind fun r1 =>
(boxO [] [(I 0),(I 0),(I 0),(I 0),(I 0),(I 0),(I 0),(I 0)] r1.2).bind fun r2 =>
(fldA 0 r1.1).bind fun x3 =>
(ld false 1 x3 r2.2).bind fun x4 =>
(callA cfg O 40 [x4] (List.length H :: lo) r2.2).bind fun r5 =>
(extractA r5.1 0).bind fun x6 =>
(extractA r5.1 1).bind fun x7 =>
(boxO [] [(I 0),(I 0),(I 0),(B false),(B false),(I 0)] r5.2).bind fun r8 =>
((stA 6 r8.1 x6 (List.length H :: lo) r8.2).map fun H' => (undefA,H')).bind fun r9 =>
(fldA 1 r1.1).bind fun x10 =>
(fldA 2 r1.1).bind fun x11 =>
(fldA 3 r1.1).bind fun x12 =>
(buildA [(.p (.v (.pointer none))),(.p (.v (.pointer none))),(.p (.v (.pointer none)))] [(0,1,x10),(1,1,x11),(2,1,x12)]).bind fun x13 =>
(boxO [] [(.p (.v (.pointer none))),(.p (.v (.pointer none))),(.p (.v (.pointer none)))] r9.2).bind fun r14 =>
((stA 3 r14.1 x13 (List.length H :: lo) r14.2).map fun H' => (undefA,H')).bind fun r15 =>
cond x7 (
(fldA 0 r8.1).bind fun x16 =>
(ld false 1 x16 r15.2).bind fun x17 =>
(cutArr 1 3 r14.1 none (some x17) r15.2).bind fun x18 =>
(lenA .slice x18 r15.2).bind fun x19 =>
L55_12 [a0,r1.1,r2.1,x18,x19,I 0] (List.length H :: lo) r15.2) (
L55_21 [r1.1,r2.1] (List.length H :: lo) r15.2)) := by
  rw [O_ent]
  kernel_rfl
-- (*backstitch/ir.cutter).exit
noncomputable def T56_8:List It := labAt Tryd.prog cfg 56 8 (fun _ => none)
noncomputable def L56_8 (vals:List AV) (lo:List Nat) (H:Heap):Res := O.lab 56 [0,3,4,5,19,20,21] (T56_8) vals lo H
noncomputable def T56_18:List It := labAt Tryd.prog cfg 56 18 (fun _ => none)
noncomputable def L56_18 (vals:List AV) (lo:List Nat) (H:Heap):Res := O.lab 56 [0,4,5,39,40,41] (T56_18) vals lo H
noncomputable def T56_26:List It := labAt Tryd.prog cfg 56 26 (fun _ => none)
noncomputable def L56_26 (vals:List AV) (lo:List Nat) (H:Heap):Res := O.lab 56 [0,4,5,10,39,40,41,55,56,57] (T56_26) vals lo H
theorem L56_8_eq (lo:List Nat)(v0 v3 v4 v5 v19 v20 v21:AV)(H:Heap):L56_8 [v0,v3,v4,v5,v19,v20,v21] lo H = (
(bin .lss .int v21 v20).bind fun x1 =>
cond x1 (
(idxA 2 v19 v21).bind fun x2 =>
(ld true 2 x2 H).bind fun x3 =>
(boxO [] [(I 0),(I 0)] H).bind fun r4 =>
((stA 2 r4.1 x3 lo r4.2).map fun H' => (undefA,H')).bind fun r5 =>
(fldA 2 v5).bind fun x6 =>
(ldN false 1 x6 r5.2).bind fun x7 =>
(fldA 0 r4.1).bind fun x8 =>
(ldN false 1 x8 r5.2).bind fun x9 =>
(fldA 1 r4.1).bind fun x10 =>
(ld false 1 x10 r5.2).bind fun x11 =>
(callA cfg O 110 [v0,x11] lo r5.2).bind fun r12 =>
(buildA [(I 0),(I 0)] [(0,1,x9),(1,1,r12.1)]).bind fun x13 =>
(litA false 2 [x13] r12.2).bind fun r14 =>
(appA 2 16 x7 r14.1 r14.2).bind fun r15 =>
(fldA 2 v5).bind fun x16 =>
((stA 1 x16 r15.1 lo r15.2).map fun H' => (undefA,H')).bind fun r17 =>
(bin .add .int v21 (I 1)).bind fun x18 =>
L56_8 [v0,v3,v4,v5,v19,v20,x18] lo r17.2) (
(fldA 3 v3).bind fun x19 =>
(ld false 1 x19 H).bind fun x20 =>
(lenA .slice x20 H).bind fun x21 =>
L56_18 [v0,v4,v5,x20,x21,I 0] lo H)) := by
  show O.lab _ _ _ _ _ _ = _
  rw [O_lab]
  kernel_rfl
theorem L56_18_eq (lo:List Nat)(v0 v4 v5 v39 v40 v41:AV)(H:Heap):L56_18 [v0,v4,v5,v39,v40,v41] lo H = (
(bin .lss .int v41 v40).bind fun x1 =>
cond x1 (
(idxA 4 v39 v41).bind fun x2 =>
(ld true 4 x2 H).bind fun x3 =>
(boxO [] [(I 0),(I 0),(I 0),(.p nilS)] H).bind fun r4 =>
((stA 4 r4.1 x3 lo r4.2).map fun H' => (undefA,H')).bind fun r5 =>
(fldA 0 r4.1).bind fun x6 =>
(ldN false 1 x6 (r5.2 ++ List.replicate 1 AObj.hole)).bind fun x7 =>
(callA cfg O 110 [v0,x7] lo (r5.2 ++ List.replicate 1 AObj.hole)).bind fun r8 =>
(fldA 1 r4.1).bind fun x9 =>
(ldN false 1 x9 r8.2).bind fun x10 =>
(fldA 2 r4.1).bind fun x11 =>
(ldN false 1 x11 r8.2).bind fun x12 =>
(buildA [(I 0),(I 0),(I 0),(.p nilS)] [(0,1,r8.1),(1,1,x10),(2,1,x12)]).bind fun x13 =>
(fillA 1 0 [(I 0),(I 0),(I 0),(.p nilS)] r8.2).bind fun r14 =>
((stA 4 r14.1 x13 lo r14.2).map fun H' => (undefA,H')).bind fun r15 =>
(fldA 3 r4.1).bind fun x16 =>
(ld false 1 x16 r15.2).bind fun x17 =>
(lenA .slice x17 r15.2).bind fun x18 =>
L56_26 [v0,v4,v5,r14.1,v39,v40,v41,x17,x18,I 0] lo r15.2) (
(ld true 4 v5 H).bind fun x19 =>
((stA 4 v4 x19 lo H).map fun H' => (undefA,H')).bind fun r20 =>
((ld true 4 v4 r20.2).bind fun x22 => (some []).map fun q23 => x22 :: q23).bind fun xs21 => leave 7 lo xs21 r20.2)) := by
  show O.lab _ _ _ _ _ _ = _
  rw [O_lab]
  kernel_rfl
theorem L56_26_eq (lo:List Nat)(v0 v4 v5 v10 v39 v40 v41 v55 v56 v57:AV)(H:Heap):L56_26 [v0,v4,v5,v10,v39,v40,v41,v55,v56,v57] lo H = (
(bin .lss .int v57 v56).bind fun x1 =>
cond x1 (
(idxA 1 v55 v57).bind fun x2 =>
(ld false 1 x2 H).bind fun x3 =>
(fldA 3 v10).bind fun x4 =>
(ldN false 1 x4 H).bind fun x5 =>
(callA cfg O 110 [v0,x3] lo H).bind fun r6 =>
(litA false 1 [r6.1] r6.2).bind fun r7 =>
(appA 1 8 x5 r7.1 r7.2).bind fun r8 =>
(fldA 3 v10).bind fun x9 =>
((stA 1 x9 r8.1 lo r8.2).map fun H' => (undefA,H')).bind fun r10 =>
(bin .add .int v57 (I 1)).bind fun x11 =>
L56_26 [v0,v4,v5,v10,v39,v40,v41,v55,v56,x11] lo r10.2) (
(fldA 3 v5).bind fun x12 =>
(ld false 1 x12 H).bind fun x13 =>
(ld true 4 v10 H).bind fun x14 =>
(litA false 4 [x14] H).bind fun r15 =>
(appA 4 48 x13 r15.1 r15.2).bind fun r16 =>
(fldA 3 v5).bind fun x17 =>
((stA 1 x17 r16.1 lo r16.2).map fun H' => (undefA,H')).bind fun r18 =>
(bin .add .int v41 (I 1)).bind fun x19 =>
L56_18 [v0,v4,v5,v39,v40,x19] lo r18.2)) := by
  show O.lab _ _ _ _ _ _ = _
  rw [O_lab]
  kernel_rfl
theorem f56_eq (a0 a1:AV)(lo:List Nat)(H:Heap):O.ent 56 [a0,a1] lo H = (
(boxO [] (AV.cells a1) H).bind fun r1 =>
(boxO [] [(I 0),(I 0),(.p nilS),(.p nilS)] r1.2).bind fun r2 =>
(fldA 0 r1.1).bind fun x3 =>
(ld false 1 x3 r2.2).bind fun x4 =>
(fldA 1 r1.1).bind fun x5 =>
(ld false 1 x5 r2.2).bind fun x6 =>
(buildA [(I 0),(I 0),(.p nilS),(.p nilS)] [(0,1,x4),(1,1,x6)]).bind fun x7 =>
(boxO [] [(I 0),(I 0),(.p nilS),(.p nilS)] r2.2).bind fun r8 =>
((stA 4 r8.1 x7 (List.length H :: lo) r8.2).map fun H' => (undefA,H')).bind fun r9 =>
(fldA 2 r1.1).bind fun x10 =>
(ld false 1 x10 r9.2).bind fun x11 =>
(lenA .slice x11 r9.2).bind fun x12 =>
L56_8 [a0,r1.1,r2.1,r8.1,x11,x12,I 0] (List.length H :: lo) r9.2) := by
  rw [O_ent]
  kernel_rfl
-- backstitch/backstitchref2.Cut$1
noncomputable def T57_4:List It := labAt Tryd.prog cfg 57 4 (fun _ => none)
noncomputable def L57_4 (vals:List AV) (lo:List Nat) (H:Heap):Res := O.lab 57 [0,1,2] (T57_4) vals lo H
noncomputable def T57_18:List It := labAt Tryd.prog cfg 57 18 (fun _ => none)
noncomputable def L57_18 (vals:List AV) (lo:List Nat) (H:Heap):Res := O.lab 57 [1,5,35,36] (T57_18) vals lo H
noncomputable def T57_27:List It := labAt Tryd.prog cfg 57 27 (fun _ => none)
noncomputable def L57_27 (vals:List AV) (lo:List Nat) (H:Heap):Res := O.lab 57 [1,5,35,36] (T57_27) vals lo H
theorem L57_4_eq (lo:List Nat)(v0 v1 v2:AV)(H:Heap):L57_4 [v0,v1,v2] lo H = (
(bin .geq .int v0 (I 0)).bind fun x1 =>
(gd x1 true (some v0)).bind fun x2 =>
(gd x1 true (ld false 1 v1 H)).bind fun x3 =>
(gd x1 true (lenA .slice x3 H)).bind fun x4 =>
(gd x1 true (bin .lss .int x2 x4)).bind fun x5 =>
(pickA x1 x5 (B false)).bind fun x6 =>
(gd x6 true (ld false 1 v1 H)).bind fun x7 =>
(gd x6 true (some v0)).bind fun x8 =>
(gd x6 true (idxA 1 x7 x8)).bind fun x9 =>
(gd x6 true (ld false 1 x9 H)).bind fun x10 =>
(gd x6 true (some v0)).bind fun x11 =>
(gd x6 true (bin .neq .int x10 x11)).bind fun x12 =>
(pickA x6 x12 (B false)).bind fun x13 =>
cond x13 (
(ld false 1 v1 H).bind fun x14 =>
(idxA 1 x14 v0).bind fun x15 =>
(ld false 1 x15 H).bind fun x16 =>
L57_4 [x16,v1,v2] lo H) (
(bin .lss .int v0 (I 0)).bind fun x17 =>
(gd x17 false (some v0)).bind fun x18 =>
(gd x17 false (ld false 1 v1 H)).bind fun x19 =>
(gd x17 false (lenA .slice x19 H)).bind fun x20 =>
(gd x17 false (bin .geq .int x18 x20)).bind fun x21 =>
(pickA x17 (B true) x21).bind fun x22 =>
cond x22 (
((stA 1 v2 (B false) lo H).map fun H' => (undefA,H')).bind fun r23 =>
leave 10 lo [I (-1)] r23.2) (
L57_18 [v1,I 0,v0,I 0] lo H))) := by
  show O.lab _ _ _ _ _ _ = _
  rw [O_lab]
  kernel_rfl
theorem L57_18_eq (lo:List Nat)(v1 v5 v35 v36:AV)(H:Heap):L57_18 [v1,v5,v35,v36] lo H = (
(bin .lss .int v36 v35).bind fun x1 =>
cond x1 (
(ld false 1 v1 H).bind fun x2 =>
(idxA 1 x2 v36).bind fun x3 =>
(ld false 1 x3 H).bind fun x4 =>
(bin .eql .int x4 v36).bind fun x5 =>
cond x5 (
(bin .add .int v5 (I 1)).bind fun x6 =>
L57_27 [v1,x6,v35,v36] lo H) (
L57_27 [v1,v5,v35,v36] lo H)) (
leave 10 lo [v5] H)) := by
  show O.lab _ _ _ _ _ _ = _
  rw [O_lab]
  kernel_rfl
theorem L57_27_eq (lo:List Nat)(v1 v5 v35 v36:AV)(H:Heap):L57_27 [v1,v5,v35,v36] lo H = (
(bin .add .int v36 (I 1)).bind fun x1 =>
L57_18 [v1,v5,v35,x1] lo H) := by
  show O.lab _ _ _ _ _ _ = _
  rw [O_lab]
  kernel_rfl
theorem f57_eq (a0 a1 a2:AV)(lo:List Nat)(H:Heap):O.ent 57 [a0,a1,a2] lo H = (
L57_4 [a0,a1,a2] (List.length H :: lo) H) := by
  rw [O_ent]
  kernel_rfl
-- backstitch/backstitchref2.Cut$2
noncomputable def T58_8:List It := labAt Tryd.prog cfg 58 8 (fun _ => none)
noncomputable def L58_8 (vals:List AV) (lo:List Nat) (H:Heap):Res := O.lab 58 [1,2,3,4,18,19,20] (T58_8) vals lo H
noncomputable def T58_18:List It := labAt Tryd.prog cfg 58 18 (fun _ => none)
noncomputable def L58_18 (vals:List AV) (lo:List Nat) (H:Heap):Res := O.lab 58 [1,3,4,38,39,40] (T58_18) vals lo H
noncomputable def T58_26:List It := labAt Tryd.prog cfg 58 26 (fun _ => none)
noncomputable def L58_26 (vals:List AV) (lo:List Nat) (H:Heap):Res := O.lab 58 [1,3,4,9,38,39,40,54,55,56] (T58_26) vals lo H
theorem L58_8_eq (lo:List Nat)(v1 v2 v3 v4 v18 v19 v20:AV)(H:Heap):L58_8 [v1,v2,v3,v4,v18,v19,v20] lo H = (
(bin .lss .int v20 v19).bind fun x1 =>
cond x1 (
(idxA 2 v18 v20).bind fun x2 =>
(ld true 2 x2 H).bind fun x3 =>
(boxO [] [(I 0),(I 0)] H).bind fun r4 =>
((stA 2 r4.1 x3 lo r4.2).map fun H' => (undefA,H')).bind fun r5 =>
(fldA 2 v4).bind fun x6 =>
(ldN false 1 x6 r5.2).bind fun x7 =>
(fldA 0 r4.1).bind fun x8 =>
(ldN false 1 x8 r5.2).bind fun x9 =>
(ld false 1 v1 r5.2).bind fun x10 =>
(fldA 1 r4.1).bind fun x11 =>
(ld false 1 x11 r5.2).bind fun x12 =>
(callC cfg O (some ClK.bools) x10 [x12] lo r5.2).bind fun r13 =>
(buildA [(I 0),(I 0)] [(0,1,x9),(1,1,r13.1)]).bind fun x14 =>
(litA false 2 [x14] r13.2).bind fun r15 =>
(appA 2 16 x7 r15.1 r15.2).bind fun r16 =>
(fldA 2 v4).bind fun x17 =>
((stA 1 x17 r16.1 lo r16.2).map fun H' => (undefA,H')).bind fun r18 =>
(bin .add .int v20 (I 1)).bind fun x19 =>
L58_8 [v1,v2,v3,v4,v18,v19,x19] lo r18.2) (
(fldA 3 v2).bind fun x20 =>
(ld false 1 x20 H).bind fun x21 =>
(lenA .slice x21 H).bind fun x22 =>
L58_18 [v1,v3,v4,x21,x22,I 0] lo H)) := by
  show O.lab _ _ _ _ _ _ = _
  rw [O_lab]
  kernel_rfl
theorem L58_18_eq (lo:List Nat)(v1 v3 v4 v38 v39 v40:AV)(H:Heap):L58_18 [v1,v3,v4,v38,v39,v40] lo H = (
(bin .lss .int v40 v39).bind fun x1 =>
cond x1 (
(idxA 4 v38 v40).bind fun x2 =>
(ld true 4 x2 H).bind fun x3 =>
(boxO [] [(I 0),(I 0),(I 0),(.p nilS)] H).bind fun r4 =>
((stA 4 r4.1 x3 lo r4.2).map fun H' => (undefA,H')).bind fun r5 =>
(ldN false 1 v1 (r5.2 ++ List.replicate 1 AObj.hole)).bind fun x6 =>
(fldA 0 r4.1).bind fun x7 =>
(ldN false 1 x7 (r5.2 ++ List.replicate 1 AObj.hole)).bind fun x8 =>
(callC cfg O (some (ClK.past [(.v (.int .i64 0)),(.v (.int .i64 0)),(.v (.int .i64 0)),nilS])) x6 [x8] lo (r5.2 ++ List.replicate 1 AObj.hole)).bind fun r9 =>
(fldA 1 r4.1).bind fun x10 =>
(ldN false 1 x10 r9.2).bind fun x11 =>
(fldA 2 r4.1).bind fun x12 =>
(ldN false 1 x12 r9.2).bind fun x13 =>
(buildA [(I 0),(I 0),(I 0),(.p nilS)] [(0,1,r9.1),(1,1,x11),(2,1,x13)]).bind fun x14 =>
(fillA 1 0 [(I 0),(I 0),(I 0),(.p nilS)] r9.2).bind fun r15 =>
((stA 4 r15.1 x14 lo r15.2).map fun H' => (undefA,H')).bind fun r16 =>
(fldA 3 r4.1).bind fun x17 =>
(ld false 1 x17 r16.2).bind fun x18 =>
(lenA .slice x18 r16.2).bind fun x19 =>
L58_26 [v1,v3,v4,r15.1,v38,v39,v40,x18,x19,I 0] lo r16.2) (
(ld true 4 v4 H).bind fun x20 =>
((stA 4 v3 x20 lo H).map fun H' => (undefA,H')).bind fun r21 =>
((ld true 4 v3 r21.2).bind fun x23 => (some []).map fun q24 => x23 :: q24).bind fun xs22 => leave 10 lo xs22 r21.2)) := by
  show O.lab _ _ _ _ _ _ = _
  rw [O_lab]
  kernel_rfl
theorem L58_26_eq (lo:List Nat)(v1 v3 v4 v9 v38 v39 v40 v54 v55 v56:AV)(H:Heap):L58_26 [v1,v3,v4,v9,v38,v39,v40,v54,v55,v56] lo H = (
(bin .lss .int v56 v55).bind fun x1 =>
cond x1 (
(idxA 1 v54 v56).bind fun x2 =>
(ld false 1 x2 H).bind fun x3 =>
(fldA 3 v9).bind fun x4 =>
(ldN false 1 x4 H).bind fun x5 =>
(ld false 1 v1 H).bind fun x6 =>
(callC cfg O (some ClK.bools) x6 [x3] lo H).bind fun r7 =>
(litA false 1 [r7.1] r7.2).bind fun r8 =>
(appA 1 8 x5 r8.1 r8.2).bind fun r9 =>
(fldA 3 v9).bind fun x10 =>
((stA 1 x10 r9.1 lo r9.2).map fun H' => (undefA,H')).bind fun r11 =>
(bin .add .int v56 (I 1)).bind fun x12 =>
L58_26 [v1,v3,v4,v9,v38,v39,v40,v54,v55,x12] lo r11.2) (
(fldA 3 v4).bind fun x13 =>
(ld false 1 x13 H).bind fun x14 =>
(ld true 4 v9 H).bind fun x15 =>
(litA false 4 [x15] H).bind fun r16 =>
(appA 4 48 x14 r16.1 r16.2).bind fun r17 =>
(fldA 3 v4).bind fun x18 =>
((stA 1 x18 r17.1 lo r17.2).map fun H' => (undefA,H')).bind fun r19 =>
(bin .add .int v40 (I 1)).bind fun x20 =>
L58_18 [v1,v3,v4,v38,v39,x20] lo r19.2)) := by
  show O.lab _ _ _ _ _ _ = _
  rw [O_lab]
  kernel_rfl
theorem f58_eq (a0 a1:AV)(lo:List Nat)(H:Heap):O.ent 58 [a0,a1] lo H = (
(boxO [] (AV.cells a0) H).bind fun r1 =>
(boxO [] [(I 0),(I 0),(.p nilS),(.p nilS)] r1.2).bind fun r2 =>
(fldA 0 r1.1).bind fun x3 =>
(ld false 1 x3 r2.2).bind fun x4 =>
(fldA 1 r1.1).bind fun x5 =>
(ld false 1 x5 r2.2).bind fun x6 =>
(buildA [(I 0),(I 0),(.p nilS),(.p nilS)] [(0,1,x4),(1,1,x6)]).bind fun x7 =>
(boxO [] [(I 0),(I 0),(.p nilS),(.p nilS)] r2.2).bind fun r8 =>
((stA 4 r8.1 x7 (List.length H :: lo) r8.2).map fun H' => (undefA,H')).bind fun r9 =>
(fldA 2 r1.1).bind fun x10 =>
(ld false 1 x10 r9.2).bind fun x11 =>
(lenA .slice x11 r9.2).bind fun x12 =>
L58_8 [a1,r1.1,r2.1,r8.1,x11,x12,I 0] (List.length H :: lo) r9.2) := by
  rw [O_ent]
  kernel_rfl
-- backstitch/backstitchref2.Eq[backstitch/api.TIns]
noncomputable def T59_10:List It := labAt Tryd.prog cfg 59 10 (fun _ => none)
noncomputable def L59_10 (vals:List AV) (lo:List Nat) (H:Heap):Res := O.lab 59 [1,12,13,14] (T59_10) vals lo H
theorem L59_10_eq (lo:List Nat)(v1 v12 v13 v14:AV)(H:Heap):L59_10 [v1,v12,v13,v14] lo H = (
(bin .lss .int v14 v13).bind fun x1 =>
cond x1 (
(idxA 8 v12 v14).bind fun x2 =>
(ld true 8 x2 H).bind fun x3 =>
(boxO [] [(I 0),(I 0),(I 0),(I 0),(I 0),(I 0),(I 0),(I 0)] H).bind fun r4 =>
((stA 8 r4.1 x3 lo r4.2).map fun H' => (undefA,H')).bind fun r5 =>
(ld true 8 r4.1 r5.2).bind fun x6 =>
(idxA 8 v1 v14).bind fun x7 =>
(ld true 8 x7 r5.2).bind fun x8 =>
(bin .neq (.agg 8 [(0,.int),(1,.int),(2,.int),(3,.int),(4,.int),(5,.int),(6,.int),(7,.int)]) x6 x8).bind fun x9 =>
cond x9 (
leave 0 lo [B false] r5.2) (
(bin .add .int v14 (I 1)).bind fun x10 =>
L59_10 [v1,v12,v13,x10] lo r5.2)) (
leave 0 lo [B true] H)) := by
  show O.lab _ _ _ _ _ _ = _
  rw [O_lab]
  kernel_rfl
theorem f59_eq (a0 a1:AV):O.ent 59 [a0,a1] [] [] = (
(lenA .slice a0 []).bind fun x1 =>
(lenA .slice a1 []).bind fun x2 =>
(bin .neq .int x1 x2).bind fun x3 =>
cond x3 (
leave 0 [] [B false] []) (
(lenA .slice a0 []).bind fun x4 =>
L59_10 [a1,a0,x4,I 0] [] [])) := by
  rw [O_ent]
  kernel_rfl
-- (*backstitch/ir.cutter).one
theorem f110_eq (a0 a1:AV)(lo:List Nat)(H:Heap):O.ent 110 [a0,a1] lo H = (
(bin .lss .int a1 (I 0)).bind fun x1 =>
(gd x1 false (some a1)).bind fun x2 =>
(gd x1 false (some a0)).bind fun x3 =>
(gd x1 false (nilCheckA x3)).bind fun x4 =>
(gd x1 false (fldA 0 x4)).bind fun x5 =>
(gd x1 false (ld false 1 x5 H)).bind fun x6 =>
(gd x1 false (lenA .slice x6 H)).bind fun x7 =>
(gd x1 false (bin .geq .int x2 x7)).bind fun x8 =>
(pickA x1 (B true) x8).bind fun x9 =>
(gd x9 false (some a0)).bind fun x10 =>
(gd x9 false (nilCheckA x10)).bind fun x11 =>
(gd x9 false (fldA 0 x11)).bind fun x12 =>
(gd x9 false (ld false 1 x12 H)).bind fun x13 =>
(gd x9 false (some a1)).bind fun x14 =>
(gd x9 false (idxA 1 x13 x14)).bind fun x15 =>
(gd x9 false (ld false 1 x15 H)).bind fun x16 =>
(gd x9 false (bin .lss .int x16 (I 0))).bind fun x17 =>
(pickA x9 (B true) x17).bind fun x18 =>
cond x18 (
(nilCheckA a0).bind fun x19 =>
(fldA 1 x19).bind fun x20 =>
((stA 1 x20 (B false) (List.length H :: lo) H).map fun H' => (undefA,H')).bind fun r21 =>
leave 10 (List.length H :: lo) [I (-1)] r21.2) (
(nilCheckA a0).bind fun x22 =>
(fldA 0 x22).bind fun x23 =>
(ld false 1 x23 H).bind fun x24 =>
(idxA 1 x24 a1).bind fun x25 =>
(ld false 1 x25 H).bind fun x26 =>
leave 10 (List.length H :: lo) [x26] H)) := by
  rw [O_ent]
  kernel_rfl
end Go.Proofs.YtnjfpnoamgipjaaDoor

