import Derived.Test.YtnjfpnoamgipjaaDoorCf
set_option linter.unusedVariables false
set_option maxRecDepth 100000
namespace Go.Proofs.YtnjfpnoamgipjaaDoor
open Go Go.AM
-- backstitch/backstitchlaw2.IrKinds
-- backstitch/backstitchlaw2.irred
theorem f18_eq:O.ent 18 [] [] [] = (
(buildA [(I 0),(I 0),(I 0),(I 0),(I 0),(I 0),(I 0),(I 0)] [(0,1,I 14),(1,1,I 4),(2,1,I 5),(3,1,I 6)]).bind fun x1 =>
(callA cfg O 13 [x1] [] []).bind fun r2 =>
(litA false 1 [I 4,I 5,I 6] r2.2).bind fun r3 =>
(callA cfg O 12 [r2.1,r3.1] [] r3.2).bind fun r4 =>
(gdH r4.1 true (callA cfg O 15 [I 13] [] r4.2) r4.2).bind fun r5 =>
(pickA r4.1 r5.1 (B false)).bind fun x6 =>
(gdH x6 true (callA cfg O 15 [I 11] [] r5.2) r5.2).bind fun r7 =>
(gd x6 true (un .not r7.1)).bind fun x8 =>
(pickA x6 x8 (B false)).bind fun x9 =>
leave 0 [] [x9] r7.2) := by
  rw [O_ent]
  kernel_rfl
-- backstitch/backstitchlaw2.may
-- backstitch/ir.Kind
noncomputable def T22_16:List It := labAt Tryd.prog cfg 22 16 (fun _ => none)
noncomputable def L22_16 (vals:List AV) (lo:List Nat) (H:Heap):Res := O.lab 22 [1,2,3,8] (T22_16) vals lo H
noncomputable def T22_19:List It := labAt Tryd.prog cfg 22 19 (fun _ => none)
noncomputable def L22_19 (vals:List AV) (lo:List Nat) (H:Heap):Res := O.lab 22 [1,2,3,8] (T22_19) vals lo H
theorem L22_16_eq (lo:List Nat)(v1 v2 v3 v8:AV)(H:Heap):L22_16 [v1,v2,v3,v8] lo H = (
(bin .lss .int v8 v2).bind fun x1 =>
cond x1 (
(fldA 3 v3).bind fun x2 =>
(ld false 1 x2 H).bind fun x3 =>
(idxA 8 x3 v8).bind fun x4 =>
(ld true 8 x4 H).bind fun x5 =>
(boxO [] [(I 0),(I 0),(I 0),(I 0),(I 0),(I 0),(I 0),(I 0)] H).bind fun r6 =>
((stA 8 r6.1 x5 lo r6.2).map fun H' => (undefA,H')).bind fun r7 =>
(fldA 1 r6.1).bind fun x8 =>
(ld false 1 x8 r7.2).bind fun x9 =>
(bin .neq .int x9 v1).bind fun x10 =>
cond x10 (
L22_19 [v1,v2,v3,v8] lo r7.2) (
(fldA 0 r6.1).bind fun x11 =>
(ld false 1 x11 r7.2).bind fun x12 =>
(bin .eql .int x12 (I 4)).bind fun x13 =>
cond x13 (
(fldA 4 r6.1).bind fun x14 =>
(ld false 1 x14 r7.2).bind fun x15 =>
leave 0 lo [x15] r7.2) (
(fldA 0 r6.1).bind fun x16 =>
(ld false 1 x16 r7.2).bind fun x17 =>
(bin .eql .int x17 (I 6)).bind fun x18 =>
cond x18 (
(fldA 6 r6.1).bind fun x19 =>
(fldA 0 x19).bind fun x20 =>
(ld false 1 x20 r7.2).bind fun x21 =>
leave 0 lo [x21] r7.2) (
(fldA 0 r6.1).bind fun x22 =>
(ld false 1 x22 r7.2).bind fun x23 =>
(bin .eql .int x23 (I 9)).bind fun x24 =>
cond x24 (
leave 0 lo [I 5] r7.2) (
L22_19 [v1,v2,v3,v8] lo r7.2))))) (
leave 0 lo [I (-1)] H)) := by
  show O.lab _ _ _ _ _ _ = _
  rw [O_lab]
  kernel_rfl
theorem L22_19_eq (lo:List Nat)(v1 v2 v3 v8:AV)(H:Heap):L22_19 [v1,v2,v3,v8] lo H = (
(bin .add .int v8 (I 1)).bind fun x1 =>
L22_16 [v1,v2,v3,x1] lo H) := by
  show O.lab _ _ _ _ _ _ = _
  rw [O_lab]
  kernel_rfl
theorem f22_eq (a0 a1 a2:AV):O.ent 22 [a0,a1,a2] [] [] = (
(boxO [] (AV.cells a0) []).bind fun r1 =>
(bin .lss .int a1 (I 0)).bind fun x2 =>
(gd x2 false (some a1)).bind fun x3 =>
(gd x2 false (some a2)).bind fun x4 =>
(gd x2 false (bin .geq .int x3 x4)).bind fun x5 =>
(pickA x2 (B true) x5).bind fun x6 =>
(gd x6 false (some a2)).bind fun x7 =>
(gd x6 false (fldA 3 r1.1)).bind fun x8 =>
(gd x6 false (ld false 1 x8 r1.2)).bind fun x9 =>
(gd x6 false (lenA .slice x9 r1.2)).bind fun x10 =>
(gd x6 false (bin .gtr .int x7 x10)).bind fun x11 =>
(pickA x6 (B true) x11).bind fun x12 =>
(gd x12 false (fldA 3 r1.1)).bind fun x13 =>
(gd x12 false (ld false 1 x13 r1.2)).bind fun x14 =>
(gd x12 false (some a1)).bind fun x15 =>
(gd x12 false (idxA 8 x14 x15)).bind fun x16 =>
(gd x12 false (fldA 0 x16)).bind fun x17 =>
(gd x12 false (ld false 1 x17 r1.2)).bind fun x18 =>
(gdH x12 false (callA cfg O 15 [x18] [] r1.2) r1.2).bind fun r19 =>
(gd x12 false (un .not r19.1)).bind fun x20 =>
(pickA x12 (B true) x20).bind fun x21 =>
cond x21 (
leave 0 [] [I (-1)] r19.2) (
(ld true 13 r1.1 r19.2).bind fun x22 =>
(callA cfg O 54 [x22,a1] [] r19.2).bind fun r23 =>
(bin .geq .int r23.1 (I 0)).bind fun x24 =>
cond x24 (
leave 0 [] [r23.1] r23.2) (
(bin .add .int a1 (I 1)).bind fun x25 =>
L22_16 [a1,a2,r1.1,x25] [] r23.2))) := by
  rw [O_ent]
  kernel_rfl
-- backstitch/backstitchref2.Kind
noncomputable def T23_37:List It := labAt Tryd.prog cfg 23 37 (fun _ => none)
noncomputable def L23_37 (vals:List AV) (lo:List Nat) (H:Heap):Res := O.lab 23 [1,2,3,8] (T23_37) vals lo H
noncomputable def T23_42:List It := labAt Tryd.prog cfg 23 42 (fun _ => none)
noncomputable def L23_42 (vals:List AV) (lo:List Nat) (H:Heap):Res := O.lab 23 [1,3,8,10] (T23_42) vals lo H
noncomputable def T23_45:List It := labAt Tryd.prog cfg 23 45 (fun _ => none)
noncomputable def L23_45 (vals:List AV) (lo:List Nat) (H:Heap):Res := O.lab 23 [1,3,8,10] (T23_45) vals lo H
theorem L23_37_eq (lo:List Nat)(v1 v2 v3 v8:AV)(H:Heap):L23_37 [v1,v2,v3,v8] lo H = (
(bin .geq .int v8 (I 0)).bind fun x1 =>
cond x1 (
leave 0 lo [v8] H) (
(bin .sub .int v2 (I 1)).bind fun x2 =>
L23_42 [v1,v3,v8,x2] lo H)) := by
  show O.lab _ _ _ _ _ _ = _
  rw [O_lab]
  kernel_rfl
theorem L23_42_eq (lo:List Nat)(v1 v3 v8 v10:AV)(H:Heap):L23_42 [v1,v3,v8,v10] lo H = (
(bin .gtr .int v10 v1).bind fun x1 =>
cond x1 (
(fldA 3 v3).bind fun x2 =>
(ld false 1 x2 H).bind fun x3 =>
(idxA 8 x3 v10).bind fun x4 =>
(ld true 8 x4 H).bind fun x5 =>
(boxO [] [(I 0),(I 0),(I 0),(I 0),(I 0),(I 0),(I 0),(I 0)] H).bind fun r6 =>
((stA 8 r6.1 x5 lo r6.2).map fun H' => (undefA,H')).bind fun r7 =>
(fldA 1 r6.1).bind fun x8 =>
(ld false 1 x8 r7.2).bind fun x9 =>
(bin .eql .int x9 v1).bind fun x10 =>
cond x10 (
(fldA 0 r6.1).bind fun x11 =>
(ld false 1 x11 r7.2).bind fun x12 =>
(bin .eql .int x12 (I 4)).bind fun x13 =>
cond x13 (
(fldA 4 r6.1).bind fun x14 =>
(ld false 1 x14 r7.2).bind fun x15 =>
L23_45 [v1,v3,x15,v10] lo r7.2) (
(bin .eql .int x12 (I 6)).bind fun x16 =>
cond x16 (
(fldA 6 r6.1).bind fun x17 =>
(fldA 0 x17).bind fun x18 =>
(ld false 1 x18 r7.2).bind fun x19 =>
L23_45 [v1,v3,x19,v10] lo r7.2) (
(bin .eql .int x12 (I 9)).bind fun x20 =>
cond x20 (
L23_45 [v1,v3,I 5,v10] lo r7.2) (
L23_45 [v1,v3,v8,v10] lo r7.2)))) (
L23_45 [v1,v3,v8,v10] lo r7.2)) (
leave 0 lo [v8] H)) := by
  show O.lab _ _ _ _ _ _ = _
  rw [O_lab]
  kernel_rfl
theorem L23_45_eq (lo:List Nat)(v1 v3 v8 v10:AV)(H:Heap):L23_45 [v1,v3,v8,v10] lo H = (
(bin .sub .int v10 (I 1)).bind fun x1 =>
L23_42 [v1,v3,v8,x1] lo H) := by
  show O.lab _ _ _ _ _ _ = _
  rw [O_lab]
  kernel_rfl
theorem f23_eq (a0 a1 a2:AV):O.ent 23 [a0,a1,a2] [] [] = (
(boxO [] (AV.cells a0) []).bind fun r1 =>
(bin .lss .int a1 (I 0)).bind fun x2 =>
(gd x2 false (some a1)).bind fun x3 =>
(gd x2 false (some a2)).bind fun x4 =>
(gd x2 false (bin .geq .int x3 x4)).bind fun x5 =>
(pickA x2 (B true) x5).bind fun x6 =>
(gd x6 false (some a2)).bind fun x7 =>
(gd x6 false (fldA 3 r1.1)).bind fun x8 =>
(gd x6 false (ld false 1 x8 r1.2)).bind fun x9 =>
(gd x6 false (lenA .slice x9 r1.2)).bind fun x10 =>
(gd x6 false (bin .gtr .int x7 x10)).bind fun x11 =>
(pickA x6 (B true) x11).bind fun x12 =>
(gd x12 false (fldA 3 r1.1)).bind fun x13 =>
(gd x12 false (ld false 1 x13 r1.2)).bind fun x14 =>
(gd x12 false (some a1)).bind fun x15 =>
(gd x12 false (idxA 8 x14 x15)).bind fun x16 =>
(gd x12 false (fldA 0 x16)).bind fun x17 =>
(gd x12 false (ld false 1 x17 r1.2)).bind fun x18 =>
(gdH x12 false (callA cfg O 16 [x18] [] r1.2) r1.2).bind fun r19 =>
(gd x12 false (un .not r19.1)).bind fun x20 =>
(pickA x12 (B true) x20).bind fun x21 =>
cond x21 (
leave 0 [] [I (-1)] r19.2) (
(fldA 3 r1.1).bind fun x22 =>
(ld false 1 x22 r19.2).bind fun x23 =>
(idxA 8 x23 a1).bind fun x24 =>
(ld true 8 x24 r19.2).bind fun x25 =>
(boxO [] [(I 0),(I 0),(I 0),(I 0),(I 0),(I 0),(I 0),(I 0)] r19.2).bind fun r26 =>
((stA 8 r26.1 x25 [] r26.2).map fun H' => (undefA,H')).bind fun r27 =>
(fldA 0 r26.1).bind fun x28 =>
(ld false 1 x28 r27.2).bind fun x29 =>
(bin .eql .int x29 (I 2)).bind fun x30 =>
cond x30 (
(fldA 6 r26.1).bind fun x31 =>
(fldA 0 x31).bind fun x32 =>
(ld false 1 x32 r27.2).bind fun x33 =>
L23_37 [a1,a2,r1.1,x33] [] r27.2) (
(fldA 0 r26.1).bind fun x34 =>
(ld false 1 x34 r27.2).bind fun x35 =>
(bin .eql .int x35 (I 15)).bind fun x36 =>
cond x36 (
L23_37 [a1,a2,r1.1,I 2] [] r27.2) (
(fldA 0 r26.1).bind fun x37 =>
(ld false 1 x37 r27.2).bind fun x38 =>
(bin .eql .int x38 (I 16)).bind fun x39 =>
(gd x39 false (fldA 0 r26.1)).bind fun x40 =>
(gd x39 false (ld false 1 x40 r27.2)).bind fun x41 =>
(gd x39 false (bin .eql .int x41 (I 18))).bind fun x42 =>
(pickA x39 (B true) x42).bind fun x43 =>
cond x43 (
L23_37 [a1,a2,r1.1,I 5] [] r27.2) (
(fldA 0 r26.1).bind fun x44 =>
(ld false 1 x44 r27.2).bind fun x45 =>
(bin .eql .int x45 (I 7)).bind fun x46 =>
(gdH x46 true (litA false 1 [I 8,I 9,I 10] r27.2) r27.2).bind fun r47 =>
(gd x46 true (fldA 4 r26.1)).bind fun x48 =>
(gd x46 true (ld false 1 x48 r47.2)).bind fun x49 =>
(gdH x46 true (callA cfg O 42 [r47.1,x49] [] r47.2) r47.2).bind fun r50 =>
(pickA x46 r50.1 (B false)).bind fun x51 =>
(gd x51 false (fldA 0 r26.1)).bind fun x52 =>
(gd x51 false (ld false 1 x52 r50.2)).bind fun x53 =>
(gd x51 false (bin .eql .int x53 (I 8))).bind fun x54 =>
(gd x51 false (some x54)).bind fun x55 =>
(gd x55 true (fldA 4 r26.1)).bind fun x56 =>
(gd x55 true (ld false 1 x56 r50.2)).bind fun x57 =>
(gd x55 true (bin .eql .int x57 (I 11))).bind fun x58 =>
(gd x51 false (pickA x55 x58 (B false))).bind fun x59 =>
(pickA x51 (B true) x59).bind fun x60 =>
cond x60 (
L23_37 [a1,a2,r1.1,I 1] [] r50.2) (
(fldA 0 r26.1).bind fun x61 =>
(ld false 1 x61 r50.2).bind fun x62 =>
(bin .eql .int x62 (I 7)).bind fun x63 =>
(gd x63 false (fldA 0 r26.1)).bind fun x64 =>
(gd x63 false (ld false 1 x64 r50.2)).bind fun x65 =>
(gd x63 false (bin .eql .int x65 (I 8))).bind fun x66 =>
(pickA x63 (B true) x66).bind fun x67 =>
cond x67 (
(ld true 13 r1.1 r50.2).bind fun x68 =>
(fldA 1 r26.1).bind fun x69 =>
(ld false 1 x69 r50.2).bind fun x70 =>
(callA cfg O 23 [x68,x70,a1] [] r50.2).bind fun r71 =>
(bin .eql .int r71.1 (I 2)).bind fun x72 =>
(gd x72 false (some r71.1)).bind fun x73 =>
(gd x72 false (bin .eql .int x73 (I 3))).bind fun x74 =>
(pickA x72 (B true) x74).bind fun x75 =>
cond x75 (
L23_37 [a1,a2,r1.1,r71.1] [] r71.2) (
L23_37 [a1,a2,r1.1,I (-1)] [] r71.2)) (
L23_37 [a1,a2,r1.1,I (-1)] [] r50.2))))))) := by
  rw [O_ent]
  kernel_rfl
-- backstitch/backstitchref2.Eq[int]
noncomputable def T12_10:List It := labAt Tryd.prog cfg 12 10 (fun _ => none)
noncomputable def L12_10 (vals:List AV) (lo:List Nat) (H:Heap):Res := O.lab 12 [1,12,13,14] (T12_10) vals lo H
theorem L12_10_eq (lo:List Nat)(v1 v12 v13 v14:AV)(H:Heap):L12_10 [v1,v12,v13,v14] lo H = (
(bin .lss .int v14 v13).bind fun x1 =>
cond x1 (
(idxA 1 v12 v14).bind fun x2 =>
(ld false 1 x2 H).bind fun x3 =>
(idxA 1 v1 v14).bind fun x4 =>
(ld false 1 x4 H).bind fun x5 =>
(bin .neq .int x3 x5).bind fun x6 =>
cond x6 (
leave 0 lo [B false] H) (
(bin .add .int v14 (I 1)).bind fun x7 =>
L12_10 [v1,v12,v13,x7] lo H)) (
leave 0 lo [B true] H)) := by
  show O.lab _ _ _ _ _ _ = _
  rw [O_lab]
  kernel_rfl
theorem f12_eq (a0 a1:AV):O.ent 12 [a0,a1] [] [] = (
(lenA .slice a0 []).bind fun x1 =>
(lenA .slice a1 []).bind fun x2 =>
(bin .neq .int x1 x2).bind fun x3 =>
cond x3 (
leave 0 [] [B false] []) (
(lenA .slice a0 []).bind fun x4 =>
L12_10 [a1,a0,x4,I 0] [] [])) := by
  rw [O_ent]
  kernel_rfl
-- backstitch/ir.Asks
theorem f13_eq (a0:AV):O.ent 13 [a0] [] [] = (
(boxO [] (AV.cells a0) []).bind fun r1 =>
(fldA 0 r1.1).bind fun x2 =>
(ld false 1 x2 r1.2).bind fun x3 =>
(callA cfg O 40 [x3] [] r1.2).bind fun r4 =>
(extractA r4.1 0).bind fun x5 =>
(extractA r4.1 1).bind fun x6 =>
(boxO [] [(I 0),(I 0),(I 0),(B false),(B false),(I 0)] r4.2).bind fun r7 =>
((stA 6 r7.1 x5 [] r7.2).map fun H' => (undefA,H')).bind fun r8 =>
(un .not x6).bind fun x9 =>
cond x9 (
leave 0 [] [.p nilS] r8.2) (
(fldA 1 r1.1).bind fun x10 =>
(ld false 1 x10 r8.2).bind fun x11 =>
(fldA 2 r1.1).bind fun x12 =>
(ld false 1 x12 r8.2).bind fun x13 =>
(fldA 3 r1.1).bind fun x14 =>
(ld false 1 x14 r8.2).bind fun x15 =>
(buildA [(I 0),(I 0),(I 0)] [(0,1,x11),(1,1,x13),(2,1,x15)]).bind fun x16 =>
(some (mkArr 1 [(.v (.int .i64 0)),(.v (.int .i64 0)),(.v (.int .i64 0))] r8.2)).bind fun r17 =>
((stA 3 r17.1 x16 [] r17.2).map fun H' => (undefA,H')).bind fun r18 =>
(fldA 0 r7.1).bind fun x19 =>
(ld false 1 x19 r18.2).bind fun x20 =>
(cutArr 1 3 r17.1 none (some x20) r18.2).bind fun x21 =>
(appA 1 8 (.p nilS) x21 r18.2).bind fun r22 =>
leave 0 [] [r22.1] r22.2)) := by
  rw [O_ent]
  kernel_rfl
-- backstitch/ir.Tells
theorem f15_eq (a0:AV):O.ent 15 [a0] [] [] = (
(callA cfg O 40 [a0] [] []).bind fun r1 =>
(extractA r1.1 0).bind fun x2 =>
(extractA r1.1 1).bind fun x3 =>
(boxO [] [(I 0),(I 0),(I 0),(B false),(B false),(I 0)] r1.2).bind fun r4 =>
((stA 6 r4.1 x2 [] r4.2).map fun H' => (undefA,H')).bind fun r5 =>
(fldA 4 r4.1).bind fun x6 =>
(ld false 1 x6 r5.2).bind fun x7 =>
leave 0 [] [x7] r5.2) := by
  rw [O_ent]
  kernel_rfl
-- backstitch/code.Check
theorem f17_eq (a0:AV):O.ent 17 [a0] [] [] = (
(boxO [] (AV.cells a0) []).bind fun r1 =>
(ld true 3 r1.1 r1.2).bind fun x2 =>
(callA cfg O 43 [x2] [] r1.2).bind fun r3 =>
cond r3.1 (
leave 0 [] [I 2] r3.2) (
(ld true 3 r1.1 r3.2).bind fun x4 =>
(callA cfg O 44 [x4] [] r3.2).bind fun r5 =>
(un .not r5.1).bind fun x6 =>
(gd x6 false (fldA 0 r1.1)).bind fun x7 =>
(gd x6 false (ld false 1 x7 r5.2)).bind fun x8 =>
(gd x6 false (lenA .slice x8 r5.2)).bind fun x9 =>
(gd x6 false (bin .eql .int x9 (I 0))).bind fun x10 =>
(pickA x6 (B true) x10).bind fun x11 =>
(gd x11 false (fldA 0 r1.1)).bind fun x12 =>
(gd x11 false (ld false 1 x12 r5.2)).bind fun x13 =>
(gd x11 false (idxA 5 x13 (I 0))).bind fun x14 =>
(gd x11 false (fldA 0 x14)).bind fun x15 =>
(gd x11 false (ld false 1 x15 r5.2)).bind fun x16 =>
(gd x11 false (bin .neq .int x16 (I 0))).bind fun x17 =>
(pickA x11 (B true) x17).bind fun x18 =>
(gd x18 false (fldA 0 r1.1)).bind fun x19 =>
(gd x18 false (ld false 1 x19 r5.2)).bind fun x20 =>
(gd x18 false (idxA 5 x20 (I 0))).bind fun x21 =>
(gd x18 false (fldA 3 x21)).bind fun x22 =>
(gd x18 false (ld false 1 x22 r5.2)).bind fun x23 =>
(gd x18 false (lenA .slice x23 r5.2)).bind fun x24 =>
(gd x18 false (bin .gtr .int x24 (I 0))).bind fun x25 =>
(pickA x18 (B true) x25).bind fun x26 =>
(gd x26 false (fldA 0 r1.1)).bind fun x27 =>
(gd x26 false (ld false 1 x27 r5.2)).bind fun x28 =>
(gd x26 false (idxA 5 x28 (I 0))).bind fun x29 =>
(gd x26 false (fldA 2 x29)).bind fun x30 =>
(gd x26 false (ld false 1 x30 r5.2)).bind fun x31 =>
(pickA x26 (B true) x31).bind fun x32 =>
cond x32 (
leave 0 [] [I 3] r5.2) (
(fldA 0 r1.1).bind fun x33 =>
(ld false 1 x33 r5.2).bind fun x34 =>
(callA cfg O 45 [x34,.fn 46 [] [r1.1]] [] r5.2).bind fun r35 =>
cond r35.1 (
leave 0 [] [I 3] r35.2) (
leave 0 [] [I 0] r35.2)))) := by
  rw [O_ent]
  kernel_rfl
-- backstitch/backstitchref2.Check
-- backstitch/ir.own
noncomputable def T54_37:List It := labAt Tryd.prog cfg 54 37 (fun _ => none)
noncomputable def L54_37 (vals:List AV) (lo:List Nat) (H:Heap):Res := O.lab 54 [] (T54_37) vals lo H
theorem L54_37_eq (lo:List Nat)(H:Heap):L54_37 [] lo H = (
leave 0 lo [I (-1)] H) := by
  show O.lab _ _ _ _ _ _ = _
  rw [O_lab]
  kernel_rfl
theorem f54_eq (a0 a1:AV):O.ent 54 [a0,a1] [] [] = (
(boxO [] (AV.cells a0) []).bind fun r1 =>
(fldA 3 r1.1).bind fun x2 =>
(ld false 1 x2 r1.2).bind fun x3 =>
(idxA 8 x3 a1).bind fun x4 =>
(ld true 8 x4 r1.2).bind fun x5 =>
(boxO [] [(I 0),(I 0),(I 0),(I 0),(I 0),(I 0),(I 0),(I 0)] r1.2).bind fun r6 =>
((stA 8 r6.1 x5 [] r6.2).map fun H' => (undefA,H')).bind fun r7 =>
(fldA 0 r6.1).bind fun x8 =>
(ld false 1 x8 r7.2).bind fun x9 =>
(bin .eql .int x9 (I 2)).bind fun x10 =>
cond x10 (
(fldA 6 r6.1).bind fun x11 =>
(fldA 0 x11).bind fun x12 =>
(ld false 1 x12 r7.2).bind fun x13 =>
leave 0 [] [x13] r7.2) (
(bin .eql .int x9 (I 15)).bind fun x14 =>
cond x14 (
leave 0 [] [I 2] r7.2) (
(bin .eql .int x9 (I 16)).bind fun x15 =>
cond x15 (
cond x15 (
leave 0 [] [I 5] r7.2) (
(bin .eql .int x9 (I 7)).bind fun x16 =>
cond x16 (
cond x16 (
(fldA 4 r6.1).bind fun x17 =>
(ld false 1 x17 r7.2).bind fun x18 =>
(bin .geq .int x18 (I 8)).bind fun x19 =>
(gd x19 true (fldA 4 r6.1)).bind fun x20 =>
(gd x19 true (ld false 1 x20 r7.2)).bind fun x21 =>
(gd x19 true (bin .leq .int x21 (I 10))).bind fun x22 =>
(pickA x19 x22 (B false)).bind fun x23 =>
(gd x23 true (fldA 0 r6.1)).bind fun x24 =>
(gd x23 true (ld false 1 x24 r7.2)).bind fun x25 =>
(gd x23 true (bin .eql .int x25 (I 7))).bind fun x26 =>
(pickA x23 x26 (B false)).bind fun x27 =>
(gd x27 false (fldA 4 r6.1)).bind fun x28 =>
(gd x27 false (ld false 1 x28 r7.2)).bind fun x29 =>
(gd x27 false (bin .eql .int x29 (I 11))).bind fun x30 =>
(gd x27 false (some x30)).bind fun x31 =>
(gd x31 true (fldA 0 r6.1)).bind fun x32 =>
(gd x31 true (ld false 1 x32 r7.2)).bind fun x33 =>
(gd x31 true (bin .eql .int x33 (I 8))).bind fun x34 =>
(gd x27 false (pickA x31 x34 (B false))).bind fun x35 =>
(pickA x27 (B true) x35).bind fun x36 =>
cond x36 (
leave 0 [] [I 1] r7.2) (
(ld true 13 r1.1 r7.2).bind fun x37 =>
(fldA 1 r6.1).bind fun x38 =>
(ld false 1 x38 r7.2).bind fun x39 =>
(callA cfg O 22 [x37,x39,a1] [] r7.2).bind fun r40 =>
(bin .eql .int r40.1 (I 2)).bind fun x41 =>
(gd x41 false (some r40.1)).bind fun x42 =>
(gd x41 false (bin .eql .int x42 (I 3))).bind fun x43 =>
(pickA x41 (B true) x43).bind fun x44 =>
cond x44 (
leave 0 [] [r40.1] r40.2) (
L54_37 [] [] r40.2))) (
L54_37 [] [] r7.2)) (
(bin .eql .int x9 (I 8)).bind fun x45 =>
cond x45 (
(fldA 4 r6.1).bind fun x46 =>
(ld false 1 x46 r7.2).bind fun x47 =>
(bin .geq .int x47 (I 8)).bind fun x48 =>
(gd x48 true (fldA 4 r6.1)).bind fun x49 =>
(gd x48 true (ld false 1 x49 r7.2)).bind fun x50 =>
(gd x48 true (bin .leq .int x50 (I 10))).bind fun x51 =>
(pickA x48 x51 (B false)).bind fun x52 =>
(gd x52 true (fldA 0 r6.1)).bind fun x53 =>
(gd x52 true (ld false 1 x53 r7.2)).bind fun x54 =>
(gd x52 true (bin .eql .int x54 (I 7))).bind fun x55 =>
(pickA x52 x55 (B false)).bind fun x56 =>
(gd x56 false (fldA 4 r6.1)).bind fun x57 =>
(gd x56 false (ld false 1 x57 r7.2)).bind fun x58 =>
(gd x56 false (bin .eql .int x58 (I 11))).bind fun x59 =>
(gd x56 false (some x59)).bind fun x60 =>
(gd x60 true (fldA 0 r6.1)).bind fun x61 =>
(gd x60 true (ld false 1 x61 r7.2)).bind fun x62 =>
(gd x60 true (bin .eql .int x62 (I 8))).bind fun x63 =>
(gd x56 false (pickA x60 x63 (B false))).bind fun x64 =>
(pickA x56 (B true) x64).bind fun x65 =>
cond x65 (
leave 0 [] [I 1] r7.2) (
(ld true 13 r1.1 r7.2).bind fun x66 =>
(fldA 1 r6.1).bind fun x67 =>
(ld false 1 x67 r7.2).bind fun x68 =>
(callA cfg O 22 [x66,x68,a1] [] r7.2).bind fun r69 =>
(bin .eql .int r69.1 (I 2)).bind fun x70 =>
(gd x70 false (some r69.1)).bind fun x71 =>
(gd x70 false (bin .eql .int x71 (I 3))).bind fun x72 =>
(pickA x70 (B true) x72).bind fun x73 =>
cond x73 (
leave 0 [] [r69.1] r69.2) (
L54_37 [] [] r69.2))) (
L54_37 [] [] r7.2)))) (
(bin .eql .int x9 (I 18)).bind fun x74 =>
cond x74 (
leave 0 [] [I 5] r7.2) (
(bin .eql .int x9 (I 7)).bind fun x75 =>
cond x75 (
cond x75 (
(fldA 4 r6.1).bind fun x76 =>
(ld false 1 x76 r7.2).bind fun x77 =>
(bin .geq .int x77 (I 8)).bind fun x78 =>
(gd x78 true (fldA 4 r6.1)).bind fun x79 =>
(gd x78 true (ld false 1 x79 r7.2)).bind fun x80 =>
(gd x78 true (bin .leq .int x80 (I 10))).bind fun x81 =>
(pickA x78 x81 (B false)).bind fun x82 =>
(gd x82 true (fldA 0 r6.1)).bind fun x83 =>
(gd x82 true (ld false 1 x83 r7.2)).bind fun x84 =>
(gd x82 true (bin .eql .int x84 (I 7))).bind fun x85 =>
(pickA x82 x85 (B false)).bind fun x86 =>
(gd x86 false (fldA 4 r6.1)).bind fun x87 =>
(gd x86 false (ld false 1 x87 r7.2)).bind fun x88 =>
(gd x86 false (bin .eql .int x88 (I 11))).bind fun x89 =>
(gd x86 false (some x89)).bind fun x90 =>
(gd x90 true (fldA 0 r6.1)).bind fun x91 =>
(gd x90 true (ld false 1 x91 r7.2)).bind fun x92 =>
(gd x90 true (bin .eql .int x92 (I 8))).bind fun x93 =>
(gd x86 false (pickA x90 x93 (B false))).bind fun x94 =>
(pickA x86 (B true) x94).bind fun x95 =>
cond x95 (
leave 0 [] [I 1] r7.2) (
(ld true 13 r1.1 r7.2).bind fun x96 =>
(fldA 1 r6.1).bind fun x97 =>
(ld false 1 x97 r7.2).bind fun x98 =>
(callA cfg O 22 [x96,x98,a1] [] r7.2).bind fun r99 =>
(bin .eql .int r99.1 (I 2)).bind fun x100 =>
(gd x100 false (some r99.1)).bind fun x101 =>
(gd x100 false (bin .eql .int x101 (I 3))).bind fun x102 =>
(pickA x100 (B true) x102).bind fun x103 =>
cond x103 (
leave 0 [] [r99.1] r99.2) (
L54_37 [] [] r99.2))) (
L54_37 [] [] r7.2)) (
(bin .eql .int x9 (I 8)).bind fun x104 =>
cond x104 (
(fldA 4 r6.1).bind fun x105 =>
(ld false 1 x105 r7.2).bind fun x106 =>
(bin .geq .int x106 (I 8)).bind fun x107 =>
(gd x107 true (fldA 4 r6.1)).bind fun x108 =>
(gd x107 true (ld false 1 x108 r7.2)).bind fun x109 =>
(gd x107 true (bin .leq .int x109 (I 10))).bind fun x110 =>
(pickA x107 x110 (B false)).bind fun x111 =>
(gd x111 true (fldA 0 r6.1)).bind fun x112 =>
(gd x111 true (ld false 1 x112 r7.2)).bind fun x113 =>
(gd x111 true (bin .eql .int x113 (I 7))).bind fun x114 =>
(pickA x111 x114 (B false)).bind fun x115 =>
(gd x115 false (fldA 4 r6.1)).bind fun x116 =>
(gd x115 false (ld false 1 x116 r7.2)).bind fun x117 =>
(gd x115 false (bin .eql .int x117 (I 11))).bind fun x118 =>
(gd x115 false (some x118)).bind fun x119 =>
(gd x119 true (fldA 0 r6.1)).bind fun x120 =>
(gd x119 true (ld false 1 x120 r7.2)).bind fun x121 =>
(gd x119 true (bin .eql .int x121 (I 8))).bind fun x122 =>
(gd x115 false (pickA x119 x122 (B false))).bind fun x123 =>
(pickA x115 (B true) x123).bind fun x124 =>
cond x124 (
leave 0 [] [I 1] r7.2) (
(ld true 13 r1.1 r7.2).bind fun x125 =>
(fldA 1 r6.1).bind fun x126 =>
(ld false 1 x126 r7.2).bind fun x127 =>
(callA cfg O 22 [x125,x127,a1] [] r7.2).bind fun r128 =>
(bin .eql .int r128.1 (I 2)).bind fun x129 =>
(gd x129 false (some r128.1)).bind fun x130 =>
(gd x129 false (bin .eql .int x130 (I 3))).bind fun x131 =>
(pickA x129 (B true) x131).bind fun x132 =>
cond x132 (
leave 0 [] [r128.1] r128.2) (
L54_37 [] [] r128.2))) (
L54_37 [] [] r7.2))))))) := by
  rw [O_ent]
  kernel_rfl
-- backstitch/backstitchref2.Tells
theorem f16_eq (a0:AV):O.ent 16 [a0] [] [] = (
(litA false 1 [I 1,I 2,I 3,I 7,I 8,I 10,I 13,I 15,I 16,I 18] []).bind fun r1 =>
(callA cfg O 42 [r1.1,a0] [] r1.2).bind fun r2 =>
leave 0 [] [r2.1] r2.2) := by
  rw [O_ent]
  kernel_rfl
-- backstitch/backstitchref2.Has[int]
noncomputable def T42_6:List It := labAt Tryd.prog cfg 42 6 (fun _ => none)
noncomputable def L42_6 (vals:List AV) (lo:List Nat) (H:Heap):Res := O.lab 42 [1,7,8,9] (T42_6) vals lo H
theorem L42_6_eq (lo:List Nat)(v1 v7 v8 v9:AV)(H:Heap):L42_6 [v1,v7,v8,v9] lo H = (
(bin .lss .int v9 v8).bind fun x1 =>
cond x1 (
(idxA 1 v7 v9).bind fun x2 =>
(ld false 1 x2 H).bind fun x3 =>
(bin .eql .int v1 x3).bind fun x4 =>
cond x4 (
leave 0 lo [B true] H) (
(bin .add .int v9 (I 1)).bind fun x5 =>
L42_6 [v1,v7,v8,x5] lo H)) (
leave 0 lo [B false] H)) := by
  show O.lab _ _ _ _ _ _ = _
  rw [O_lab]
  kernel_rfl
theorem f42_eq (a0 a1:AV):O.ent 42 [a0,a1] [] [] = (
(lenA .slice a0 []).bind fun x1 =>
L42_6 [a1,a0,x1,I 0] [] []) := by
  rw [O_ent]
  kernel_rfl
-- backstitch/ir.of
theorem f40_eq (a0:AV):O.ent 40 [a0] [] [] = (
(boxO [] [(I 0),(I 0),(I 0),(B false),(B false),(I 0)] []).bind fun r1 =>
(bin .eql .int a0 (I 1)).bind fun x2 =>
cond x2 (
(buildA [(I 0),(I 0),(I 0),(B false),(B false),(I 0)] [(0,1,I 0),(1,1,I 0),(2,1,I 1073741824),(3,1,B false),(4,1,B true),(5,1,I 0)]).bind fun x3 =>
((stA 6 r1.1 x3 [] r1.2).map fun H' => (undefA,H')).bind fun r4 =>
((ld true 6 r1.1 r4.2).bind fun x6 => ((some []).map fun q8 => B true :: q8).map fun q7 => x6 :: q7).bind fun xs5 => leave 0 [] xs5 r4.2) (
(bin .eql .int a0 (I 2)).bind fun x9 =>
cond x9 (
(buildA [(I 0),(I 0),(I 0),(B false),(B false),(I 0)] [(0,1,I 0),(1,1,I 0),(2,1,I 0),(3,1,B true),(4,1,B true),(5,1,I 0)]).bind fun x10 =>
((stA 6 r1.1 x10 [] r1.2).map fun H' => (undefA,H')).bind fun r11 =>
((ld true 6 r1.1 r11.2).bind fun x13 => ((some []).map fun q15 => B true :: q15).map fun q14 => x13 :: q14).bind fun xs12 => leave 0 [] xs12 r11.2) (
(bin .eql .int a0 (I 3)).bind fun x16 =>
cond x16 (
(buildA [(I 0),(I 0),(I 0),(B false),(B false),(I 0)] [(0,1,I 0),(1,1,I 0),(2,1,I 0),(3,1,B false),(4,1,B true),(5,1,I 0)]).bind fun x17 =>
((stA 6 r1.1 x17 [] r1.2).map fun H' => (undefA,H')).bind fun r18 =>
((ld true 6 r1.1 r18.2).bind fun x20 => ((some []).map fun q22 => B true :: q22).map fun q21 => x20 :: q21).bind fun xs19 => leave 0 [] xs19 r18.2) (
(bin .eql .int a0 (I 4)).bind fun x23 =>
cond x23 (
(buildA [(I 0),(I 0),(I 0),(B false),(B false),(I 0)] [(0,1,I 1),(1,1,I 0),(2,1,I 6),(3,1,B false),(4,1,B false),(5,1,I 2)]).bind fun x24 =>
((stA 6 r1.1 x24 [] r1.2).map fun H' => (undefA,H')).bind fun r25 =>
((ld true 6 r1.1 r25.2).bind fun x27 => ((some []).map fun q29 => B true :: q29).map fun q28 => x27 :: q28).bind fun xs26 => leave 0 [] xs26 r25.2) (
(bin .eql .int a0 (I 5)).bind fun x30 =>
cond x30 (
(buildA [(I 0),(I 0),(I 0),(B false),(B false),(I 0)] [(0,1,I 1),(1,1,I 0),(2,1,I 1),(3,1,B false),(4,1,B false),(5,1,I 2)]).bind fun x31 =>
((stA 6 r1.1 x31 [] r1.2).map fun H' => (undefA,H')).bind fun r32 =>
((ld true 6 r1.1 r32.2).bind fun x34 => ((some []).map fun q36 => B true :: q36).map fun q35 => x34 :: q35).bind fun xs33 => leave 0 [] xs33 r32.2) (
(bin .eql .int a0 (I 6)).bind fun x37 =>
cond x37 (
(buildA [(I 0),(I 0),(I 0),(B false),(B false),(I 0)] [(0,1,I 1),(1,1,I 0),(2,1,I 0),(3,1,B true),(4,1,B false),(5,1,I 2)]).bind fun x38 =>
((stA 6 r1.1 x38 [] r1.2).map fun H' => (undefA,H')).bind fun r39 =>
((ld true 6 r1.1 r39.2).bind fun x41 => ((some []).map fun q43 => B true :: q43).map fun q42 => x41 :: q42).bind fun xs40 => leave 0 [] xs40 r39.2) (
(bin .eql .int a0 (I 7)).bind fun x44 =>
cond x44 (
(buildA [(I 0),(I 0),(I 0),(B false),(B false),(I 0)] [(0,1,I 2),(1,1,I 3),(2,1,I 10),(3,1,B false),(4,1,B true),(5,1,I 1)]).bind fun x45 =>
((stA 6 r1.1 x45 [] r1.2).map fun H' => (undefA,H')).bind fun r46 =>
((ld true 6 r1.1 r46.2).bind fun x48 => ((some []).map fun q50 => B true :: q50).map fun q49 => x48 :: q49).bind fun xs47 => leave 0 [] xs47 r46.2) (
(bin .eql .int a0 (I 8)).bind fun x51 =>
cond x51 (
(buildA [(I 0),(I 0),(I 0),(B false),(B false),(I 0)] [(0,1,I 1),(1,1,I 11),(2,1,I 12),(3,1,B false),(4,1,B true),(5,1,I 1)]).bind fun x52 =>
((stA 6 r1.1 x52 [] r1.2).map fun H' => (undefA,H')).bind fun r53 =>
((ld true 6 r1.1 r53.2).bind fun x55 => ((some []).map fun q57 => B true :: q57).map fun q56 => x55 :: q56).bind fun xs54 => leave 0 [] xs54 r53.2) (
(bin .eql .int a0 (I 9)).bind fun x58 =>
cond x58 (
(buildA [(I 0),(I 0),(I 0),(B false),(B false),(I 0)] [(0,1,I 1),(1,1,I 1),(2,1,I 7),(3,1,B false),(4,1,B false),(5,1,I 2)]).bind fun x59 =>
((stA 6 r1.1 x59 [] r1.2).map fun H' => (undefA,H')).bind fun r60 =>
((ld true 6 r1.1 r60.2).bind fun x62 => ((some []).map fun q64 => B true :: q64).map fun q63 => x62 :: q63).bind fun xs61 => leave 0 [] xs61 r60.2) (
(bin .eql .int a0 (I 10)).bind fun x65 =>
cond x65 (
(buildA [(I 0),(I 0),(I 0),(B false),(B false),(I 0)] [(0,1,I 1),(1,1,I 0),(2,1,I 99),(3,1,B false),(4,1,B true),(5,1,I 0)]).bind fun x66 =>
((stA 6 r1.1 x66 [] r1.2).map fun H' => (undefA,H')).bind fun r67 =>
((ld true 6 r1.1 r67.2).bind fun x69 => ((some []).map fun q71 => B true :: q71).map fun q70 => x69 :: q70).bind fun xs68 => leave 0 [] xs68 r67.2) (
(bin .eql .int a0 (I 11)).bind fun x72 =>
cond x72 (
(buildA [(I 0),(I 0),(I 0),(B false),(B false),(I 0)] [(0,1,I 2),(1,1,I 0),(2,1,I 99),(3,1,B false),(4,1,B false),(5,1,I 0)]).bind fun x73 =>
((stA 6 r1.1 x73 [] r1.2).map fun H' => (undefA,H')).bind fun r74 =>
((ld true 6 r1.1 r74.2).bind fun x76 => ((some []).map fun q78 => B true :: q78).map fun q77 => x76 :: q77).bind fun xs75 => leave 0 [] xs75 r74.2) (
(bin .eql .int a0 (I 12)).bind fun x79 =>
cond x79 (
(buildA [(I 0),(I 0),(I 0),(B false),(B false),(I 0)] [(0,1,I 2),(1,1,I 1),(2,1,I 1073741824),(3,1,B false),(4,1,B false),(5,1,I 2)]).bind fun x80 =>
((stA 6 r1.1 x80 [] r1.2).map fun H' => (undefA,H')).bind fun r81 =>
((ld true 6 r1.1 r81.2).bind fun x83 => ((some []).map fun q85 => B true :: q85).map fun q84 => x83 :: q84).bind fun xs82 => leave 0 [] xs82 r81.2) (
(bin .eql .int a0 (I 13)).bind fun x86 =>
cond x86 (
(buildA [(I 0),(I 0),(I 0),(B false),(B false),(I 0)] [(0,1,I 2),(1,1,I 0),(2,1,I 0),(3,1,B false),(4,1,B true),(5,1,I 2)]).bind fun x87 =>
((stA 6 r1.1 x87 [] r1.2).map fun H' => (undefA,H')).bind fun r88 =>
((ld true 6 r1.1 r88.2).bind fun x90 => ((some []).map fun q92 => B true :: q92).map fun q91 => x90 :: q91).bind fun xs89 => leave 0 [] xs89 r88.2) (
(bin .eql .int a0 (I 14)).bind fun x93 =>
cond x93 (
(buildA [(I 0),(I 0),(I 0),(B false),(B false),(I 0)] [(0,1,I 3),(1,1,I 0),(2,1,I 0),(3,1,B false),(4,1,B false),(5,1,I 2)]).bind fun x94 =>
((stA 6 r1.1 x94 [] r1.2).map fun H' => (undefA,H')).bind fun r95 =>
((ld true 6 r1.1 r95.2).bind fun x97 => ((some []).map fun q99 => B true :: q99).map fun q98 => x97 :: q98).bind fun xs96 => leave 0 [] xs96 r95.2) (
(bin .eql .int a0 (I 15)).bind fun x100 =>
cond x100 (
(buildA [(I 0),(I 0),(I 0),(B false),(B false),(I 0)] [(0,1,I 1),(1,1,I 0),(2,1,I 0),(3,1,B false),(4,1,B true),(5,1,I 0)]).bind fun x101 =>
((stA 6 r1.1 x101 [] r1.2).map fun H' => (undefA,H')).bind fun r102 =>
((ld true 6 r1.1 r102.2).bind fun x104 => ((some []).map fun q106 => B true :: q106).map fun q105 => x104 :: q105).bind fun xs103 => leave 0 [] xs103 r102.2) (
(bin .eql .int a0 (I 16)).bind fun x107 =>
cond x107 (
(buildA [(I 0),(I 0),(I 0),(B false),(B false),(I 0)] [(0,1,I 0),(1,1,I 1),(2,1,I 3),(3,1,B false),(4,1,B true),(5,1,I 2)]).bind fun x108 =>
((stA 6 r1.1 x108 [] r1.2).map fun H' => (undefA,H')).bind fun r109 =>
((ld true 6 r1.1 r109.2).bind fun x111 => ((some []).map fun q113 => B true :: q113).map fun q112 => x111 :: q112).bind fun xs110 => leave 0 [] xs110 r109.2) (
(bin .eql .int a0 (I 17)).bind fun x114 =>
cond x114 (
(buildA [(I 0),(I 0),(I 0),(B false),(B false),(I 0)] [(0,1,I 2),(1,1,I 0),(2,1,I 0),(3,1,B false),(4,1,B false),(5,1,I 1)]).bind fun x115 =>
((stA 6 r1.1 x115 [] r1.2).map fun H' => (undefA,H')).bind fun r116 =>
((ld true 6 r1.1 r116.2).bind fun x118 => ((some []).map fun q120 => B true :: q120).map fun q119 => x118 :: q119).bind fun xs117 => leave 0 [] xs117 r116.2) (
(bin .eql .int a0 (I 18)).bind fun x121 =>
cond x121 (
(buildA [(I 0),(I 0),(I 0),(B false),(B false),(I 0)] [(0,1,I 0),(1,1,I 0),(2,1,I 0),(3,1,B false),(4,1,B true),(5,1,I 2)]).bind fun x122 =>
((stA 6 r1.1 x122 [] r1.2).map fun H' => (undefA,H')).bind fun r123 =>
((ld true 6 r1.1 r123.2).bind fun x125 => ((some []).map fun q127 => B true :: q127).map fun q126 => x125 :: q126).bind fun xs124 => leave 0 [] xs124 r123.2) (
(bin .eql .int a0 (I 19)).bind fun x128 =>
cond x128 (
(buildA [(I 0),(I 0),(I 0),(B false),(B false),(I 0)] [(0,1,I 0),(1,1,I 1),(2,1,I 1073741824),(3,1,B false),(4,1,B false),(5,1,I 2)]).bind fun x129 =>
((stA 6 r1.1 x129 [] r1.2).map fun H' => (undefA,H')).bind fun r130 =>
((ld true 6 r1.1 r130.2).bind fun x132 => ((some []).map fun q134 => B true :: q134).map fun q133 => x132 :: q133).bind fun xs131 => leave 0 [] xs131 r130.2) (
(buildA [(I 0),(I 0),(I 0),(B false),(B false),(I 0)] []).bind fun x135 =>
((stA 6 r1.1 x135 [] r1.2).map fun H' => (undefA,H')).bind fun r136 =>
((ld true 6 r1.1 r136.2).bind fun x138 => ((some []).map fun q140 => B false :: q140).map fun q139 => x138 :: q139).bind fun xs137 => leave 0 [] xs137 r136.2)))))))))))))))))))) := by
  rw [O_ent]
  kernel_rfl
-- backstitch/code.large
theorem f43_eq (a0:AV):O.ent 43 [a0] [] [] = (
(boxO [] (AV.cells a0) []).bind fun r1 =>
(fldA 0 r1.1).bind fun x2 =>
(ld false 1 x2 r1.2).bind fun x3 =>
(lenA .slice x3 r1.2).bind fun x4 =>
(bin .gtr .int x4 (I 60)).bind fun x5 =>
(gd x5 false (fldA 1 r1.1)).bind fun x6 =>
(gd x5 false (ld false 1 x6 r1.2)).bind fun x7 =>
(gd x5 false (lenA .slice x7 r1.2)).bind fun x8 =>
(gd x5 false (bin .gtr .int x8 (I 200))).bind fun x9 =>
(pickA x5 (B true) x9).bind fun x10 =>
(gd x10 false (fldA 2 r1.1)).bind fun x11 =>
(gd x10 false (ld false 1 x11 r1.2)).bind fun x12 =>
(gd x10 false (lenA .slice x12 r1.2)).bind fun x13 =>
(gd x10 false (bin .gtr .int x13 (I 200))).bind fun x14 =>
(pickA x10 (B true) x14).bind fun x15 =>
(gd x15 false (fldA 2 r1.1)).bind fun x16 =>
(gd x15 false (ld false 1 x16 r1.2)).bind fun x17 =>
(gdH x15 false (callA cfg O 89 [x17,.fn 90 [] []] [] r1.2) r1.2).bind fun r18 =>
(pickA x15 (B true) r18.1).bind fun x19 =>
(gd x19 false (fldA 0 r1.1)).bind fun x20 =>
(gd x19 false (ld false 1 x20 r18.2)).bind fun x21 =>
(gdH x19 false (callA cfg O 45 [x21,.fn 91 [] []] [] r18.2) r18.2).bind fun r22 =>
(pickA x19 (B true) r22.1).bind fun x23 =>
leave 0 [] [x23] r22.2) := by
  rw [O_ent]
  kernel_rfl
-- backstitch/code.tables
noncomputable def T44_14:List It := labAt Tryd.prog cfg 44 14 (fun _ => none)
noncomputable def L44_14 (vals:List AV) (lo:List Nat) (H:Heap):Res := O.lab 44 [1,4,26,27,28] (T44_14) vals lo H
theorem L44_14_eq (lo:List Nat)(v1 v4 v26 v27 v28:AV)(H:Heap):L44_14 [v1,v4,v26,v27,v28] lo H = (
(bin .lss .int v28 v27).bind fun x1 =>
cond x1 (
(idxA 1 v26 v28).bind fun x2 =>
(ld false 1 x2 H).bind fun x3 =>
(lookA .str (I 0) false v4 x3 H).bind fun x4 =>
(bin .eql .int x4 (I 1)).bind fun x5 =>
cond x5 (
leave 0 lo [B false] H) (
((mapUpdA .str v4 x3 (I 1) lo H).map fun H' => (undefA,H')).bind fun r6 =>
(bin .add .int v28 (I 1)).bind fun x7 =>
L44_14 [v1,v4,v26,v27,x7] lo r6.2)) (
(fldA 1 v1).bind fun x8 =>
(ld false 1 x8 H).bind fun x9 =>
(callA cfg O 94 [x9,.fn 95 [] [v1]] lo H).bind fun r10 =>
(un .not r10.1).bind fun x11 =>
leave 0 lo [x11] r10.2)) := by
  show O.lab _ _ _ _ _ _ = _
  rw [O_lab]
  kernel_rfl
theorem f44_eq (a0:AV):O.ent 44 [a0] [] [] = (
(boxO [] (AV.cells a0) []).bind fun r1 =>
(callA cfg O 92 [] [] r1.2).bind fun r2 =>
(fldA 2 r1.1).bind fun x3 =>
(ld false 1 x3 r2.2).bind fun x4 =>
(lenA .slice x4 r2.2).bind fun x5 =>
(lenA .slice r2.1 r2.2).bind fun x6 =>
(bin .lss .int x5 x6).bind fun x7 =>
(gd x7 false (fldA 2 r1.1)).bind fun x8 =>
(gd x7 false (ld false 1 x8 r2.2)).bind fun x9 =>
(gd x7 false (some r2.1)).bind fun x10 =>
(gd x7 false (lenA .slice x10 r2.2)).bind fun x11 =>
(gd x7 false (cutA 1 x9 none (some x11) none r2.2)).bind fun x12 =>
(gd x7 false (some r2.1)).bind fun x13 =>
(gdH x7 false (callA cfg O 93 [x12,x13] [] r2.2) r2.2).bind fun r14 =>
(gd x7 false (un .not r14.1)).bind fun x15 =>
(pickA x7 (B true) x15).bind fun x16 =>
cond x16 (
leave 0 [] [B false] r14.2) (
(some (mkMap r14.2)).bind fun r17 =>
(fldA 2 r1.1).bind fun x18 =>
(ld false 1 x18 r17.2).bind fun x19 =>
(lenA .slice x19 r17.2).bind fun x20 =>
L44_14 [r1.1,r17.1,x19,x20,I 0] [] r17.2)) := by
  rw [O_ent]
  kernel_rfl
-- slices.ContainsFunc[[]backstitch/api.Fn,backstitch/api.Fn]
theorem f45_eq (a0 a1:AV)(lo:List Nat)(H:Heap):O.ent 45 [a0,a1] lo H = (
(callA cfg O 97 [a0,a1] (List.length H :: lo) H).bind fun r1 =>
(bin .geq .int r1.1 (I 0)).bind fun x2 =>
leave 3 (List.length H :: lo) [x2] r1.2) := by
  rw [O_ent]
  kernel_rfl
-- backstitch/code.Check$1
theorem f46_eq (a0 a1:AV)(lo:List Nat)(H:Heap):O.ent 46 [a0,a1] lo H = (
(boxO [] (AV.cells a0) H).bind fun r1 =>
(ld true 3 a1 r1.2).bind fun x2 =>
(ld true 5 r1.1 r1.2).bind fun x3 =>
(callA cfg O 47 [x2,x3] (List.length H :: lo) r1.2).bind fun r4 =>
(un .not r4.1).bind fun x5 =>
leave 3 (List.length H :: lo) [x5] r4.2) := by
  rw [O_ent]
  kernel_rfl
-- backstitch/backstitchref2.formed
-- backstitch/backstitchref2.RightExit
-- backstitch/backstitchref2.SameExit
noncomputable def T53_10:List It := labAt Tryd.prog cfg 53 10 (fun _ => none)
noncomputable def L53_10 (vals:List AV) (lo:List Nat) (H:Heap):Res := O.lab 53 [2,3,37,38] (T53_10) vals lo H
theorem L53_10_eq (lo:List Nat)(v2 v3 v37 v38:AV)(H:Heap):L53_10 [v2,v3,v37,v38] lo H = (
(bin .lss .int v38 v37).bind fun x1 =>
cond x1 (
(fldA 3 v2).bind fun x2 =>
(ld false 1 x2 H).bind fun x3 =>
(idxA 4 x3 v38).bind fun x4 =>
(ld true 4 x4 H).bind fun x5 =>
(fldA 3 v3).bind fun x6 =>
(ld false 1 x6 H).bind fun x7 =>
(idxA 4 x7 v38).bind fun x8 =>
(ld true 4 x8 H).bind fun x9 =>
(callA cfg O 109 [x5,x9] lo H).bind fun r10 =>
(un .not r10.1).bind fun x11 =>
cond x11 (
leave 0 lo [B false] r10.2) (
(bin .add .int v38 (I 1)).bind fun x12 =>
L53_10 [v2,v3,v37,x12] lo r10.2)) (
leave 0 lo [B true] H)) := by
  show O.lab _ _ _ _ _ _ = _
  rw [O_lab]
  kernel_rfl
theorem f53_eq (a0 a1:AV):O.ent 53 [a0,a1] [] [] = (
(boxO [] (AV.cells a0) []).bind fun r1 =>
(boxO [] (AV.cells a1) r1.2).bind fun r2 =>
(fldA 0 r1.1).bind fun x3 =>
(ld false 1 x3 r2.2).bind fun x4 =>
(fldA 0 r2.1).bind fun x5 =>
(ld false 1 x5 r2.2).bind fun x6 =>
(bin .neq .int x4 x6).bind fun x7 =>
(gd x7 false (fldA 1 r1.1)).bind fun x8 =>
(gd x7 false (ld false 1 x8 r2.2)).bind fun x9 =>
(gd x7 false (fldA 1 r2.1)).bind fun x10 =>
(gd x7 false (ld false 1 x10 r2.2)).bind fun x11 =>
(gd x7 false (bin .neq .int x9 x11)).bind fun x12 =>
(pickA x7 (B true) x12).bind fun x13 =>
(gd x13 false (fldA 2 r1.1)).bind fun x14 =>
(gd x13 false (ld false 1 x14 r2.2)).bind fun x15 =>
(gd x13 false (fldA 2 r2.1)).bind fun x16 =>
(gd x13 false (ld false 1 x16 r2.2)).bind fun x17 =>
(gdH x13 false (callA cfg O 108 [x15,x17] [] r2.2) r2.2).bind fun r18 =>
(gd x13 false (un .not r18.1)).bind fun x19 =>
(pickA x13 (B true) x19).bind fun x20 =>
(gd x20 false (fldA 3 r1.1)).bind fun x21 =>
(gd x20 false (ld false 1 x21 r18.2)).bind fun x22 =>
(gd x20 false (lenA .slice x22 r18.2)).bind fun x23 =>
(gd x20 false (fldA 3 r2.1)).bind fun x24 =>
(gd x20 false (ld false 1 x24 r18.2)).bind fun x25 =>
(gd x20 false (lenA .slice x25 r18.2)).bind fun x26 =>
(gd x20 false (bin .neq .int x23 x26)).bind fun x27 =>
(pickA x20 (B true) x27).bind fun x28 =>
cond x28 (
leave 0 [] [B false] r18.2) (
(fldA 3 r1.1).bind fun x29 =>
(ld false 1 x29 r18.2).bind fun x30 =>
(lenA .slice x30 r18.2).bind fun x31 =>
L53_10 [r1.1,r2.1,x31,I 0] [] r18.2)) := by
  rw [O_ent]
  kernel_rfl
-- slices.ContainsFunc[[]string,string]
theorem f89_eq (a0 a1:AV)(lo:List Nat)(H:Heap):O.ent 89 [a0,a1] lo H = (
(callA cfg O 133 [a0,a1] (List.length H :: lo) H).bind fun r1 =>
(bin .geq .int r1.1 (I 0)).bind fun x2 =>
leave 3 (List.length H :: lo) [x2] r1.2) := by
  rw [O_ent]
  kernel_rfl
-- backstitch/code.large$1
theorem f90_eq (a0:AV):O.ent 90 [a0] [] [] = (
(lenA .str a0 []).bind fun x1 =>
(bin .gtr .int x1 (I 200)).bind fun x2 =>
leave 0 [] [x2] []) := by
  rw [O_ent]
  kernel_rfl
-- backstitch/code.large$2
theorem f91_eq (a0:AV):O.ent 91 [a0] [] [] = (
(boxO [] (AV.cells a0) []).bind fun r1 =>
(fldA 4 r1.1).bind fun x2 =>
(ld false 1 x2 r1.2).bind fun x3 =>
(lenA .slice x3 r1.2).bind fun x4 =>
(bin .gtr .int x4 (I 600)).bind fun x5 =>
(gd x5 false (fldA 1 r1.1)).bind fun x6 =>
(gd x5 false (ld false 1 x6 r1.2)).bind fun x7 =>
(gd x5 false (bin .gtr .int x7 (I 60))).bind fun x8 =>
(pickA x5 (B true) x8).bind fun x9 =>
leave 0 [] [x9] r1.2) := by
  rw [O_ent]
  kernel_rfl
-- backstitch/ops.Words
theorem f92_eq:O.ent 92 [] [] [] = (
(callA cfg O 134 [.p (.v (.string ⟨#[107,105,110,100,32,114,97,110,103,101,32,122,101,114,111,32,105,110,100,101,120,32,108,97,114,103,101,32,100,101,101,112,32,115,116,97,116,101,32,99,111,117,110,116,32,110,105,108,32,98,111,111,108,32,105,110,116,32,102,108,111,97,116,32,116,101,120,116,32,111,98,106,101,99,116,32,108,105,115,116,32,102,117,110,99,116,105,111,110,32,103,101,110,101,114,97,116,111,114,32,108,111,99,107,32,119,101,97,107]⟩))] [] []).bind fun r1 =>
leave 0 [] [r1.1] r1.2) := by
  rw [O_ent]
  kernel_rfl
-- slices.Equal[[]string,string]
noncomputable def T93_10:List It := labAt Tryd.prog cfg 93 10 (fun _ => none)
noncomputable def L93_10 (vals:List AV) (lo:List Nat) (H:Heap):Res := O.lab 93 [0,1,12,13] (T93_10) vals lo H
theorem L93_10_eq (lo:List Nat)(v0 v1 v12 v13:AV)(H:Heap):L93_10 [v0,v1,v12,v13] lo H = (
(bin .lss .int v13 v12).bind fun x1 =>
cond x1 (
(idxA 1 v0 v13).bind fun x2 =>
(ld false 1 x2 H).bind fun x3 =>
(idxA 1 v1 v13).bind fun x4 =>
(ld false 1 x4 H).bind fun x5 =>
(bin .neq .str x3 x5).bind fun x6 =>
cond x6 (
leave 0 lo [B false] H) (
(bin .add .int v13 (I 1)).bind fun x7 =>
L93_10 [v0,v1,v12,x7] lo H)) (
leave 0 lo [B true] H)) := by
  show O.lab _ _ _ _ _ _ = _
  rw [O_lab]
  kernel_rfl
theorem f93_eq (a0 a1:AV):O.ent 93 [a0,a1] [] [] = (
(lenA .slice a0 []).bind fun x1 =>
(lenA .slice a1 []).bind fun x2 =>
(bin .neq .int x1 x2).bind fun x3 =>
cond x3 (
leave 0 [] [B false] []) (
(lenA .slice a0 []).bind fun x4 =>
L93_10 [a0,a1,x4,I 0] [] [])) := by
  rw [O_ent]
  kernel_rfl
-- slices.ContainsFunc[[]backstitch/api.Val,backstitch/api.Val]
theorem f94_eq (a0 a1:AV)(lo:List Nat)(H:Heap):O.ent 94 [a0,a1] lo H = (
(callA cfg O 135 [a0,a1] (List.length H :: lo) H).bind fun r1 =>
(bin .geq .int r1.1 (I 0)).bind fun x2 =>
leave 3 (List.length H :: lo) [x2] r1.2) := by
  rw [O_ent]
  kernel_rfl
-- backstitch/code.tables$1
theorem f95_eq (a0 a1:AV)(lo:List Nat)(H:Heap):O.ent 95 [a0,a1] lo H = (
(boxO [] (AV.cells a0) H).bind fun r1 =>
(ld true 2 r1.1 r1.2).bind fun x2 =>
(callA cfg O 96 [x2] (List.length H :: lo) r1.2).bind fun r3 =>
(un .not r3.1).bind fun x4 =>
(gd x4 false (fldA 0 r1.1)).bind fun x5 =>
(gd x4 false (ld false 1 x5 r3.2)).bind fun x6 =>
(gd x4 false (bin .eql .int x6 (I 5))).bind fun x7 =>
(pickA x4 (B true) x7).bind fun x8 =>
(gd x8 false (fldA 0 r1.1)).bind fun x9 =>
(gd x8 false (ld false 1 x9 r3.2)).bind fun x10 =>
(gd x8 false (bin .eql .int x10 (I 4))).bind fun x11 =>
(gd x8 false (some x11)).bind fun x12 =>
(gd x12 true (fldA 1 r1.1)).bind fun x13 =>
(gd x12 true (ld false 1 x13 r3.2)).bind fun x14 =>
(gd x12 true (fldA 2 a1)).bind fun x15 =>
(gd x12 true (ld false 1 x15 r3.2)).bind fun x16 =>
(gd x12 true (lenA .slice x16 r3.2)).bind fun x17 =>
(gd x12 true (bin .geq .int x14 x17)).bind fun x18 =>
(gd x8 false (pickA x12 x18 (B false))).bind fun x19 =>
(pickA x8 (B true) x19).bind fun x20 =>
leave 3 (List.length H :: lo) [x20] r3.2) := by
  rw [O_ent]
  kernel_rfl
-- slices.IndexFunc[[]backstitch/api.Fn,backstitch/api.Fn]
noncomputable def T97_6:List It := labAt Tryd.prog cfg 97 6 (fun _ => none)
noncomputable def L97_6 (vals:List AV) (lo:List Nat) (H:Heap):Res := O.lab 97 [0,1,7,8] (T97_6) vals lo H
theorem L97_6_eq (lo:List Nat)(v0 v1 v7 v8:AV)(H:Heap):L97_6 [v0,v1,v7,v8] lo H = (
(bin .lss .int v8 v7).bind fun x1 =>
cond x1 (
(idxA 5 v0 v8).bind fun x2 =>
(ld true 5 x2 H).bind fun x3 =>
(callV cfg O v1 [x3] lo H).bind fun r4 =>
cond r4.1 (
leave 3 lo [v8] r4.2) (
(bin .add .int v8 (I 1)).bind fun x5 =>
L97_6 [v0,v1,v7,x5] lo r4.2)) (
leave 3 lo [I (-1)] H)) := by
  show O.lab _ _ _ _ _ _ = _
  rw [O_lab]
  kernel_rfl
theorem f97_eq (a0 a1:AV)(lo:List Nat)(H:Heap):O.ent 97 [a0,a1] lo H = (
(lenA .slice a0 H).bind fun x1 =>
L97_6 [a0,a1,x1,I 0] (List.length H :: lo) H) := by
  rw [O_ent]
  kernel_rfl
-- backstitch/code.function
noncomputable def T47_12:List It := labAt Tryd.prog cfg 47 12 (fun _ => none)
noncomputable def L47_12 (vals:List AV) (lo:List Nat) (H:Heap):Res := O.lab 47 [3,5,30,31,32] (T47_12) vals lo H
theorem L47_12_eq (lo:List Nat)(v3 v5 v30 v31 v32:AV)(H:Heap):L47_12 [v3,v5,v30,v31,v32] lo H = (
(bin .lss .int v32 v31).bind fun x1 =>
cond x1 (
(idxA 5 v30 v32).bind fun x2 =>
(ld true 5 x2 H).bind fun x3 =>
(boxO [] [(I 0),(I 0),(I 0),(I 0),(I 0)] H).bind fun r4 =>
((stA 5 r4.1 x3 lo r4.2).map fun H' => (undefA,H')).bind fun r5 =>
(ld true 8 v5 r5.2).bind fun x6 =>
(ld true 5 r4.1 r5.2).bind fun x7 =>
(callA cfg O 98 [x6,v32,x7] lo r5.2).bind fun r8 =>
(un .not r8.1).bind fun x9 =>
cond x9 (
leave 0 lo [B false] r8.2) (
(bin .add .int v32 (I 1)).bind fun x10 =>
L47_12 [v3,v5,v30,v31,x10] lo r8.2)) (
(ld true 5 v3 H).bind fun x11 =>
(callA cfg O 99 [x11] lo H).bind fun r12 =>
(extractA r12.1 0).bind fun x13 =>
(extractA r12.1 1).bind fun x14 =>
(extractA r12.1 2).bind fun x15 =>
leave 0 lo [x15] r12.2)) := by
  show O.lab _ _ _ _ _ _ = _
  rw [O_lab]
  kernel_rfl
theorem f47_eq (a0 a1:AV):O.ent 47 [a0,a1] [] [] = (
(boxO [] (AV.cells a0) []).bind fun r1 =>
(boxO [] (AV.cells a1) r1.2).bind fun r2 =>
(ld true 3 r1.1 r2.2).bind fun x3 =>
(ld true 5 r2.1 r2.2).bind fun x4 =>
(buildA [(.p nilS),(.p nilS),(.p nilS),(I 0),(I 0),(B false),(.p nilS),(.p nilS)] [(0,3,x3),(3,5,x4)]).bind fun x5 =>
(boxO [] [(.p nilS),(.p nilS),(.p nilS),(I 0),(I 0),(B false),(.p nilS),(.p nilS)] r2.2).bind fun r6 =>
((stA 8 r6.1 x5 [] r6.2).map fun H' => (undefA,H')).bind fun r7 =>
(fldA 0 r2.1).bind fun x8 =>
(ld false 1 x8 r7.2).bind fun x9 =>
(bin .lss .int x9 (I 0)).bind fun x10 =>
(gd x10 false (fldA 1 r2.1)).bind fun x11 =>
(gd x10 false (ld false 1 x11 r7.2)).bind fun x12 =>
(gd x10 false (bin .lss .int x12 (I 1))).bind fun x13 =>
(pickA x10 (B true) x13).bind fun x14 =>
(gd x14 false (fldA 0 r2.1)).bind fun x15 =>
(gd x14 false (ld false 1 x15 r7.2)).bind fun x16 =>
(gd x14 false (fldA 1 r2.1)).bind fun x17 =>
(gd x14 false (ld false 1 x17 r7.2)).bind fun x18 =>
(gd x14 false (bin .gtr .int x16 x18)).bind fun x19 =>
(pickA x14 (B true) x19).bind fun x20 =>
cond x20 (
leave 0 [] [B false] r7.2) (
(fldA 4 r2.1).bind fun x21 =>
(ld false 1 x21 r7.2).bind fun x22 =>
(lenA .slice x22 r7.2).bind fun x23 =>
L47_12 [r2.1,r6.1,x22,x23,I 0] [] r7.2)) := by
  rw [O_ent]
  kernel_rfl
-- backstitch/backstitchref2.values
theorem f41_eq (a0:AV):O.ent 41 [a0] [] [] = (
(litA false 1 [I 4,I 5,I 6,I 8,I 9,I 10,I 15] []).bind fun r1 =>
(callA cfg O 42 [r1.1,a0] [] r1.2).bind fun r2 =>
cond r2.1 (
leave 0 [] [I 1] r2.2) (
(litA false 1 [I 7,I 11,I 12,I 13,I 17] r2.2).bind fun r3 =>
(callA cfg O 42 [r3.1,a0] [] r3.2).bind fun r4 =>
cond r4.1 (
leave 0 [] [I 2] r4.2) (
(bin .eql .int a0 (I 14)).bind fun x5 =>
cond x5 (
leave 0 [] [I 3] r4.2) (
leave 0 [] [I 0] r4.2)))) := by
  rw [O_ent]
  kernel_rfl
-- backstitch/backstitchref2.value
-- backstitch/backstitchref2.number
-- backstitch/backstitchref2.RightVal
-- backstitch/backstitchref2.must
-- backstitch/backstitchref2.may
-- backstitch/backstitchref2.Eq[backstitch/api.TSet]
noncomputable def T108_10:List It := labAt Tryd.prog cfg 108 10 (fun _ => none)
noncomputable def L108_10 (vals:List AV) (lo:List Nat) (H:Heap):Res := O.lab 108 [1,12,13,14] (T108_10) vals lo H
theorem L108_10_eq (lo:List Nat)(v1 v12 v13 v14:AV)(H:Heap):L108_10 [v1,v12,v13,v14] lo H = (
(bin .lss .int v14 v13).bind fun x1 =>
cond x1 (
(idxA 2 v12 v14).bind fun x2 =>
(ld true 2 x2 H).bind fun x3 =>
(boxO [] [(I 0),(I 0)] H).bind fun r4 =>
((stA 2 r4.1 x3 lo r4.2).map fun H' => (undefA,H')).bind fun r5 =>
(ld true 2 r4.1 r5.2).bind fun x6 =>
(idxA 2 v1 v14).bind fun x7 =>
(ld true 2 x7 r5.2).bind fun x8 =>
(bin .neq (.agg 2 [(0,.int),(1,.int)]) x6 x8).bind fun x9 =>
cond x9 (
leave 0 lo [B false] r5.2) (
(bin .add .int v14 (I 1)).bind fun x10 =>
L108_10 [v1,v12,v13,x10] lo r5.2)) (
leave 0 lo [B true] H)) := by
  show O.lab _ _ _ _ _ _ = _
  rw [O_lab]
  kernel_rfl
theorem f108_eq (a0 a1:AV):O.ent 108 [a0,a1] [] [] = (
(lenA .slice a0 []).bind fun x1 =>
(lenA .slice a1 []).bind fun x2 =>
(bin .neq .int x1 x2).bind fun x3 =>
cond x3 (
leave 0 [] [B false] []) (
(lenA .slice a0 []).bind fun x4 =>
L108_10 [a1,a0,x4,I 0] [] [])) := by
  rw [O_ent]
  kernel_rfl
-- backstitch/backstitchref2.SameMake
theorem f109_eq (a0 a1:AV):O.ent 109 [a0,a1] [] [] = (
(boxO [] (AV.cells a0) []).bind fun r1 =>
(boxO [] (AV.cells a1) r1.2).bind fun r2 =>
(fldA 0 r1.1).bind fun x3 =>
(ld false 1 x3 r2.2).bind fun x4 =>
(fldA 0 r2.1).bind fun x5 =>
(ld false 1 x5 r2.2).bind fun x6 =>
(bin .eql .int x4 x6).bind fun x7 =>
(gd x7 true (fldA 1 r1.1)).bind fun x8 =>
(gd x7 true (ld false 1 x8 r2.2)).bind fun x9 =>
(gd x7 true (fldA 1 r2.1)).bind fun x10 =>
(gd x7 true (ld false 1 x10 r2.2)).bind fun x11 =>
(gd x7 true (bin .eql .int x9 x11)).bind fun x12 =>
(pickA x7 x12 (B false)).bind fun x13 =>
(gd x13 true (fldA 2 r1.1)).bind fun x14 =>
(gd x13 true (ld false 1 x14 r2.2)).bind fun x15 =>
(gd x13 true (fldA 2 r2.1)).bind fun x16 =>
(gd x13 true (ld false 1 x16 r2.2)).bind fun x17 =>
(gd x13 true (bin .eql .int x15 x17)).bind fun x18 =>
(pickA x13 x18 (B false)).bind fun x19 =>
(gd x19 true (fldA 3 r1.1)).bind fun x20 =>
(gd x19 true (ld false 1 x20 r2.2)).bind fun x21 =>
(gd x19 true (fldA 3 r2.1)).bind fun x22 =>
(gd x19 true (ld false 1 x22 r2.2)).bind fun x23 =>
(gdH x19 true (callA cfg O 12 [x21,x23] [] r2.2) r2.2).bind fun r24 =>
(pickA x19 r24.1 (B false)).bind fun x25 =>
leave 0 [] [x25] r24.2) := by
  rw [O_ent]
  kernel_rfl
-- slices.IndexFunc[[]string,string]
noncomputable def T133_6:List It := labAt Tryd.prog cfg 133 6 (fun _ => none)
noncomputable def L133_6 (vals:List AV) (lo:List Nat) (H:Heap):Res := O.lab 133 [0,1,7,8] (T133_6) vals lo H
theorem L133_6_eq (lo:List Nat)(v0 v1 v7 v8:AV)(H:Heap):L133_6 [v0,v1,v7,v8] lo H = (
(bin .lss .int v8 v7).bind fun x1 =>
cond x1 (
(idxA 1 v0 v8).bind fun x2 =>
(ld false 1 x2 H).bind fun x3 =>
(callV cfg O v1 [x3] lo H).bind fun r4 =>
cond r4.1 (
leave 3 lo [v8] r4.2) (
(bin .add .int v8 (I 1)).bind fun x5 =>
L133_6 [v0,v1,v7,x5] lo r4.2)) (
leave 3 lo [I (-1)] H)) := by
  show O.lab _ _ _ _ _ _ = _
  rw [O_lab]
  kernel_rfl
theorem f133_eq (a0 a1:AV)(lo:List Nat)(H:Heap):O.ent 133 [a0,a1] lo H = (
(lenA .slice a0 H).bind fun x1 =>
L133_6 [a0,a1,x1,I 0] (List.length H :: lo) H) := by
  rw [O_ent]
  kernel_rfl
-- slices.IndexFunc[[]backstitch/api.Val,backstitch/api.Val]
noncomputable def T135_6:List It := labAt Tryd.prog cfg 135 6 (fun _ => none)
noncomputable def L135_6 (vals:List AV) (lo:List Nat) (H:Heap):Res := O.lab 135 [0,1,7,8] (T135_6) vals lo H
theorem L135_6_eq (lo:List Nat)(v0 v1 v7 v8:AV)(H:Heap):L135_6 [v0,v1,v7,v8] lo H = (
(bin .lss .int v8 v7).bind fun x1 =>
cond x1 (
(idxA 2 v0 v8).bind fun x2 =>
(ld true 2 x2 H).bind fun x3 =>
(callV cfg O v1 [x3] lo H).bind fun r4 =>
cond r4.1 (
leave 3 lo [v8] r4.2) (
(bin .add .int v8 (I 1)).bind fun x5 =>
L135_6 [v0,v1,v7,x5] lo r4.2)) (
leave 3 lo [I (-1)] H)) := by
  show O.lab _ _ _ _ _ _ = _
  rw [O_lab]
  kernel_rfl
theorem f135_eq (a0 a1:AV)(lo:List Nat)(H:Heap):O.ent 135 [a0,a1] lo H = (
(lenA .slice a0 H).bind fun x1 =>
L135_6 [a0,a1,x1,I 0] (List.length H :: lo) H) := by
  rw [O_ent]
  kernel_rfl
-- backstitch/ops.Right
theorem f96_eq (a0:AV):O.ent 96 [a0] [] [] = (
(boxO [] (AV.cells a0) []).bind fun r1 =>
(fldA 0 r1.1).bind fun x2 =>
(ld false 1 x2 r1.2).bind fun x3 =>
(bin .eql .int x3 (I 0)).bind fun x4 =>
cond x4 (
(fldA 1 r1.1).bind fun x5 =>
(ld false 1 x5 r1.2).bind fun x6 =>
(bin .eql .int x6 (I 0)).bind fun x7 =>
leave 0 [] [x7] r1.2) (
(bin .eql .int x3 (I 1)).bind fun x8 =>
cond x8 (
(fldA 1 r1.1).bind fun x9 =>
(ld false 1 x9 r1.2).bind fun x10 =>
(callA cfg O 136 [x10,I 0,I 1] [] r1.2).bind fun r11 =>
leave 0 [] [r11.1] r11.2) (
(bin .eql .int x3 (I 2)).bind fun x12 =>
cond x12 (
(fldA 1 r1.1).bind fun x13 =>
(ld false 1 x13 r1.2).bind fun x14 =>
(callA cfg O 136 [x14,I (-2147483648),I 2147483647] [] r1.2).bind fun r15 =>
leave 0 [] [r15.1] r15.2) (
(bin .eql .int x3 (I 3)).bind fun x16 =>
cond x16 (
(ld true 2 r1.1 r1.2).bind fun x17 =>
(callA cfg O 137 [x17] [] r1.2).bind fun r18 =>
(ld true 2 r1.1 r18.2).bind fun x19 =>
(callA cfg O 137 [x19] [] r18.2).bind fun r20 =>
(bin .eql .float r18.1 r20.1).bind fun x21 =>
(gd x21 false (fldA 1 r1.1)).bind fun x22 =>
(gd x21 false (ld false 1 x22 r20.2)).bind fun x23 =>
(gd x21 false (bin .eql .int x23 (I 9221120237041090561))).bind fun x24 =>
(pickA x21 (B true) x24).bind fun x25 =>
leave 0 [] [x25] r20.2) (
(bin .eql .int x3 (I 4)).bind fun x26 =>
cond x26 (
cond x26 (
(fldA 1 r1.1).bind fun x27 =>
(ld false 1 x27 r1.2).bind fun x28 =>
(bin .geq .int x28 (I 0)).bind fun x29 =>
leave 0 [] [x29] r1.2) (
(bin .eql .int x3 (I 6)).bind fun x30 =>
cond x30 (
(fldA 1 r1.1).bind fun x31 =>
(ld false 1 x31 r1.2).bind fun x32 =>
(callA cfg O 136 [x32,I 0,I 15] [] r1.2).bind fun r33 =>
leave 0 [] [r33.1] r33.2) (
leave 0 [] [B false] r1.2))) (
(bin .eql .int x3 (I 5)).bind fun x34 =>
cond x34 (
(fldA 1 r1.1).bind fun x35 =>
(ld false 1 x35 r1.2).bind fun x36 =>
(bin .geq .int x36 (I 0)).bind fun x37 =>
leave 0 [] [x37] r1.2) (
(bin .eql .int x3 (I 6)).bind fun x38 =>
cond x38 (
(fldA 1 r1.1).bind fun x39 =>
(ld false 1 x39 r1.2).bind fun x40 =>
(callA cfg O 136 [x40,I 0,I 15] [] r1.2).bind fun r41 =>
leave 0 [] [r41.1] r41.2) (
leave 0 [] [B false] r1.2)))))))) := by
  rw [O_ent]
  kernel_rfl
-- (backstitch/code.look).order
theorem f98_eq (a0 a1 a2:AV):O.ent 98 [a0,a1,a2] [] [] = (
(boxO [] (AV.cells a0) []).bind fun r1 =>
(boxO [] (AV.cells a2) r1.2).bind fun r2 =>
(fldA 0 r2.1).bind fun x3 =>
(ld false 1 x3 r2.2).bind fun x4 =>
(callA cfg O 138 [x4] [] r2.2).bind fun r5 =>
(bin .eql .str r5.1 (.p (.v (.string ⟨#[]⟩)))).bind fun x6 =>
(gd x6 false (fldA 4 r2.1)).bind fun x7 =>
(gd x6 false (ld false 1 x7 r5.2)).bind fun x8 =>
(gdH x6 false (callA cfg O 139 [x8,I 0,I 2000] [] r5.2) r5.2).bind fun r9 =>
(gd x6 false (un .not r9.1)).bind fun x10 =>
(pickA x6 (B true) x10).bind fun x11 =>
(gd x11 false (ld true 8 r1.1 r9.2)).bind fun x12 =>
(gd x11 false (some r5.1)).bind fun x13 =>
(gd x11 false (strAt x13 (I 0))).bind fun x14 =>
(gd x11 false (fldA 1 r2.1)).bind fun x15 =>
(gd x11 false (ld false 1 x15 r9.2)).bind fun x16 =>
(gdH x11 false (callA cfg O 140 [x12,x14,x16] [] r9.2) r9.2).bind fun r17 =>
(gd x11 false (un .not r17.1)).bind fun x18 =>
(pickA x11 (B true) x18).bind fun x19 =>
(gd x19 false (ld true 8 r1.1 r17.2)).bind fun x20 =>
(gd x19 false (some r5.1)).bind fun x21 =>
(gd x19 false (strAt x21 (I 1))).bind fun x22 =>
(gd x19 false (fldA 2 r2.1)).bind fun x23 =>
(gd x19 false (ld false 1 x23 r17.2)).bind fun x24 =>
(gdH x19 false (callA cfg O 140 [x20,x22,x24] [] r17.2) r17.2).bind fun r25 =>
(gd x19 false (un .not r25.1)).bind fun x26 =>
(pickA x19 (B true) x26).bind fun x27 =>
(gd x27 false (ld true 8 r1.1 r25.2)).bind fun x28 =>
(gd x27 false (some r5.1)).bind fun x29 =>
(gd x27 false (strAt x29 (I 2))).bind fun x30 =>
(gd x27 false (fldA 3 r2.1)).bind fun x31 =>
(gd x27 false (ld false 1 x31 r25.2)).bind fun x32 =>
(gdH x27 false (callA cfg O 140 [x28,x30,x32] [] r25.2) r25.2).bind fun r33 =>
(gd x27 false (un .not r33.1)).bind fun x34 =>
(pickA x27 (B true) x34).bind fun x35 =>
cond x35 (
leave 0 [] [B false] r33.2) (
(fldA 0 r2.1).bind fun x36 =>
(ld false 1 x36 r33.2).bind fun x37 =>
(bin .eql .int x37 (I 14)).bind fun x38 =>
cond x38 (
(fldA 1 r2.1).bind fun x39 =>
(ld false 1 x39 r33.2).bind fun x40 =>
(bin .leq .int x40 a1).bind fun x41 =>
leave 0 [] [x41] r33.2) (
(bin .eql .int x37 (I 19)).bind fun x42 =>
cond x42 (
(fldA 2 r2.1).bind fun x43 =>
(ld false 1 x43 r33.2).bind fun x44 =>
(fldA 3 r2.1).bind fun x45 =>
(ld false 1 x45 r33.2).bind fun x46 =>
(bin .add .int x44 x46).bind fun x47 =>
(fldA 3 r1.1).bind fun x48 =>
(fldA 1 x48).bind fun x49 =>
(ld false 1 x49 r33.2).bind fun x50 =>
(bin .leq .int x47 x50).bind fun x51 =>
leave 0 [] [x51] r33.2) (
(bin .eql .int x37 (I 27)).bind fun x52 =>
cond x52 (
(ld true 8 r1.1 r33.2).bind fun x53 =>
(fldA 2 r2.1).bind fun x54 =>
(ld false 1 x54 r33.2).bind fun x55 =>
(fldA 3 r2.1).bind fun x56 =>
(ld false 1 x56 r33.2).bind fun x57 =>
(bin .add .int x55 x57).bind fun x58 =>
(callA cfg O 141 [x53,x58] [] r33.2).bind fun r59 =>
leave 0 [] [r59.1] r59.2) (
(bin .eql .int x37 (I 26)).bind fun x60 =>
cond x60 (
(ld true 8 r1.1 r33.2).bind fun x61 =>
(fldA 0 r1.1).bind fun x62 =>
(fldA 0 x62).bind fun x63 =>
(ld false 1 x63 r33.2).bind fun x64 =>
(fldA 2 r2.1).bind fun x65 =>
(ld false 1 x65 r33.2).bind fun x66 =>
(idxA 5 x64 x66).bind fun x67 =>
(ld true 5 x67 r33.2).bind fun x68 =>
(callA cfg O 142 [x61,x68] [] r33.2).bind fun r69 =>
leave 0 [] [r69.1] r69.2) (
(bin .eql .int x37 (I 32)).bind fun x70 =>
cond x70 (
(fldA 3 r1.1).bind fun x71 =>
(fldA 2 x71).bind fun x72 =>
(ld false 1 x72 r33.2).bind fun x73 =>
leave 0 [] [x73] r33.2) (
leave 0 [] [B true] r33.2))))))) := by
  rw [O_ent]
  kernel_rfl
-- backstitch/code.tries
noncomputable def T99_8:List It := labAt Tryd.prog cfg 99 8 (fun _ => none)
noncomputable def L99_8 (vals:List AV) (lo:List Nat) (H:Heap):Res := O.lab 99 [5] (T99_8) vals lo H
theorem L99_8_eq (lo:List Nat)(v5:AV)(H:Heap):L99_8 [v5] lo H = (
(nilCheckA v5).bind fun x1 =>
(fldA 7 x1).bind fun x2 =>
(ld false 1 x2 H).bind fun x3 =>
(lenA .slice x3 H).bind fun x4 =>
(bin .gtr .int x4 (I 0)).bind fun x5 =>
(gd x5 true (some v5)).bind fun x6 =>
(gd x5 true (nilCheckA x6)).bind fun x7 =>
(gd x5 true (fldA 8 x7)).bind fun x8 =>
(gd x5 true (ld false 1 x8 H)).bind fun x9 =>
(gd x5 true (un .not x9)).bind fun x10 =>
(pickA x5 x10 (B false)).bind fun x11 =>
cond x11 (
(nilCheckA v5).bind fun x12 =>
(fldA 7 x12).bind fun x13 =>
(ld false 1 x13 H).bind fun x14 =>
(nilCheckA v5).bind fun x15 =>
(fldA 7 x15).bind fun x16 =>
(ld false 1 x16 H).bind fun x17 =>
(lenA .slice x17 H).bind fun x18 =>
(bin .sub .int x18 (I 1)).bind fun x19 =>
(idxA 1 x14 x19).bind fun x20 =>
(ld false 1 x20 H).bind fun x21 =>
(nilCheckA v5).bind fun x22 =>
(fldA 7 x22).bind fun x23 =>
(ld false 1 x23 H).bind fun x24 =>
(nilCheckA v5).bind fun x25 =>
(fldA 7 x25).bind fun x26 =>
(ld false 1 x26 H).bind fun x27 =>
(lenA .slice x27 H).bind fun x28 =>
(bin .sub .int x28 (I 1)).bind fun x29 =>
(cutA 1 x24 none (some x29) none H).bind fun x30 =>
(nilCheckA v5).bind fun x31 =>
(fldA 7 x31).bind fun x32 =>
((stA 1 x32 x30 lo H).map fun H' => (undefA,H')).bind fun r33 =>
(callA cfg O 144 [v5,x21] lo r33.2).bind fun r34 =>
L99_8 [v5] lo r34.2) (
(nilCheckA v5).bind fun x35 =>
(fldA 6 x35).bind fun x36 =>
(ld false 1 x36 H).bind fun x37 =>
(nilCheckA v5).bind fun x38 =>
(fldA 5 x38).bind fun x39 =>
(ld false 1 x39 H).bind fun x40 =>
(nilCheckA v5).bind fun x41 =>
(fldA 8 x41).bind fun x42 =>
(ld false 1 x42 H).bind fun x43 =>
(un .not x43).bind fun x44 =>
leave 0 lo [x37,x40,x44] H)) := by
  show O.lab _ _ _ _ _ _ = _
  rw [O_lab]
  kernel_rfl
theorem f99_eq (a0:AV):O.ent 99 [a0] [] [] = (
(boxO [] (AV.cells a0) []).bind fun r1 =>
(ldS true 5 r1.1 (r1.2 ++ List.replicate 2 AObj.hole)).bind fun x2 =>
(fldA 4 r1.1).bind fun x3 =>
(ldS false 1 x3 (r1.2 ++ List.replicate 2 AObj.hole)).bind fun x4 =>
(lenA .slice x4 (r1.2 ++ List.replicate 2 AObj.hole)).bind fun x5 =>
(fillRow 2 0 1 1 [(.v (.bool false))] x5 x5 (r1.2 ++ List.replicate 2 AObj.hole)).bind fun r6 =>
(fldA 4 r1.1).bind fun x7 =>
(ldS false 1 x7 r6.2).bind fun x8 =>
(lenA .slice x8 r6.2).bind fun x9 =>
(fillRow 2 1 1 24 [nilS] x9 x9 r6.2).bind fun r10 =>
(buildA [(I 0),(I 0),(B false),(.p nilS),(.p nilS),(.p nilS),(.p nilS),(.p nilS),(B false)] [(0,5,x2),(5,1,r6.1),(6,1,r10.1)]).bind fun x11 =>
(boxO [] (AV.cells x11) r10.2).bind fun r12 =>
(callA cfg O 143 [r12.1,I 0,.p nilS] [] r12.2).bind fun r13 =>
L99_8 [r12.1] [] r13.2) := by
  rw [O_ent]
  kernel_rfl
-- backstitch/ops.within
theorem f136_eq (a0 a1 a2:AV):O.ent 136 [a0,a1,a2] [] [] = (
(bin .geq .int a0 a1).bind fun x1 =>
(gd x1 true (some a0)).bind fun x2 =>
(gd x1 true (some a2)).bind fun x3 =>
(gd x1 true (bin .leq .int x2 x3)).bind fun x4 =>
(pickA x1 x4 (B false)).bind fun x5 =>
leave 0 [] [x5] []) := by
  rw [O_ent]
  kernel_rfl
-- backstitch/ops.float
theorem f137_eq (a0:AV):O.ent 137 [a0] [] [] = (
(boxO [] (AV.cells a0) []).bind fun r1 =>
(fldA 1 r1.1).bind fun x2 =>
(ld false 1 x2 r1.2).bind fun x3 =>
(conv (.int .u64) x3).bind fun x4 =>
(callA cfg O 161 [x4] [] r1.2).bind fun r5 =>
leave 0 [] [r5.1] r5.2) := by
  rw [O_ent]
  kernel_rfl
-- backstitch/code.form
theorem f138_eq (a0:AV):O.ent 138 [a0] [] [] = (
(buildA [(.p (.v (.string ⟨#[]⟩))),(.p (.v (.string ⟨#[]⟩))),(.p (.v (.string ⟨#[]⟩))),(.p (.v (.string ⟨#[]⟩))),(.p (.v (.string ⟨#[]⟩))),(.p (.v (.string ⟨#[]⟩))),(.p (.v (.string ⟨#[]⟩))),(.p (.v (.string ⟨#[]⟩))),(.p (.v (.string ⟨#[]⟩))),(.p (.v (.string ⟨#[]⟩))),(.p (.v (.string ⟨#[]⟩))),(.p (.v (.string ⟨#[]⟩))),(.p (.v (.string ⟨#[]⟩))),(.p (.v (.string ⟨#[]⟩))),(.p (.v (.string ⟨#[]⟩))),(.p (.v (.string ⟨#[]⟩))),(.p (.v (.string ⟨#[]⟩))),(.p (.v (.string ⟨#[]⟩))),(.p (.v (.string ⟨#[]⟩))),(.p (.v (.string ⟨#[]⟩))),(.p (.v (.string ⟨#[]⟩))),(.p (.v (.string ⟨#[]⟩))),(.p (.v (.string ⟨#[]⟩))),(.p (.v (.string ⟨#[]⟩))),(.p (.v (.string ⟨#[]⟩))),(.p (.v (.string ⟨#[]⟩))),(.p (.v (.string ⟨#[]⟩))),(.p (.v (.string ⟨#[]⟩))),(.p (.v (.string ⟨#[]⟩))),(.p (.v (.string ⟨#[]⟩))),(.p (.v (.string ⟨#[]⟩))),(.p (.v (.string ⟨#[]⟩))),(.p (.v (.string ⟨#[]⟩))),(.p (.v (.string ⟨#[]⟩))),(.p (.v (.string ⟨#[]⟩))),(.p (.v (.string ⟨#[]⟩))),(.p (.v (.string ⟨#[]⟩))),(.p (.v (.string ⟨#[]⟩))),(.p (.v (.string ⟨#[]⟩)))] [(0,1,.p (.v (.string ⟨#[]⟩))),(1,1,.p (.v (.string ⟨#[114,107,45]⟩))),(2,1,.p (.v (.string ⟨#[114,114,45]⟩))),(3,1,.p (.v (.string ⟨#[114,114,114]⟩))),(4,1,.p (.v (.string ⟨#[114,114,114]⟩))),(5,1,.p (.v (.string ⟨#[114,114,114]⟩))),(6,1,.p (.v (.string ⟨#[114,114,114]⟩))),(7,1,.p (.v (.string ⟨#[114,114,114]⟩))),(8,1,.p (.v (.string ⟨#[114,114,114]⟩))),(9,1,.p (.v (.string ⟨#[114,114,114]⟩))),(10,1,.p (.v (.string ⟨#[114,114,114]⟩))),(11,1,.p (.v (.string ⟨#[114,114,45]⟩))),(12,1,.p (.v (.string ⟨#[114,114,45]⟩))),(13,1,.p (.v (.string ⟨#[97,45,45]⟩))),(14,1,.p (.v (.string ⟨#[97,45,45]⟩))),(15,1,.p (.v (.string ⟨#[114,97,45]⟩))),(16,1,.p (.v (.string ⟨#[114,45,45]⟩))),(17,1,.p (.v (.string ⟨#[114,114,116]⟩))),(18,1,.p (.v (.string ⟨#[114,116,114]⟩))),(19,1,.p (.v (.string ⟨#[114,108,110]⟩))),(20,1,.p (.v (.string ⟨#[114,114,114]⟩))),(21,1,.p (.v (.string ⟨#[114,114,114]⟩))),(22,1,.p (.v (.string ⟨#[114,45,45]⟩))),(23,1,.p (.v (.string ⟨#[114,114,45]⟩))),(24,1,.p (.v (.string ⟨#[114,114,45]⟩))),(25,1,.p (.v (.string ⟨#[114,117,45]⟩))),(26,1,.p (.v (.string ⟨#[114,102,45]⟩))),(27,1,.p (.v (.string ⟨#[114,99,110]⟩))),(28,1,.p (.v (.string ⟨#[114,45,45]⟩))),(29,1,.p (.v (.string ⟨#[114,45,45]⟩))),(30,1,.p (.v (.string ⟨#[114,97,45]⟩))),(31,1,.p (.v (.string ⟨#[45,45,45]⟩))),(32,1,.p (.v (.string ⟨#[114,114,45]⟩))),(33,1,.p (.v (.string ⟨#[114,45,45]⟩))),(34,1,.p (.v (.string ⟨#[114,45,45]⟩))),(35,1,.p (.v (.string ⟨#[114,114,45]⟩))),(36,1,.p (.v (.string ⟨#[114,114,45]⟩))),(37,1,.p (.v (.string ⟨#[114,45,45]⟩))),(38,1,.p (.v (.string ⟨#[114,45,45]⟩)))]).bind fun x1 =>
(some (mkArr 1 [(.v (.string ⟨#[]⟩)),(.v (.string ⟨#[]⟩)),(.v (.string ⟨#[]⟩)),(.v (.string ⟨#[]⟩)),(.v (.string ⟨#[]⟩)),(.v (.string ⟨#[]⟩)),(.v (.string ⟨#[]⟩)),(.v (.string ⟨#[]⟩)),(.v (.string ⟨#[]⟩)),(.v (.string ⟨#[]⟩)),(.v (.string ⟨#[]⟩)),(.v (.string ⟨#[]⟩)),(.v (.string ⟨#[]⟩)),(.v (.string ⟨#[]⟩)),(.v (.string ⟨#[]⟩)),(.v (.string ⟨#[]⟩)),(.v (.string ⟨#[]⟩)),(.v (.string ⟨#[]⟩)),(.v (.string ⟨#[]⟩)),(.v (.string ⟨#[]⟩)),(.v (.string ⟨#[]⟩)),(.v (.string ⟨#[]⟩)),(.v (.string ⟨#[]⟩)),(.v (.string ⟨#[]⟩)),(.v (.string ⟨#[]⟩)),(.v (.string ⟨#[]⟩)),(.v (.string ⟨#[]⟩)),(.v (.string ⟨#[]⟩)),(.v (.string ⟨#[]⟩)),(.v (.string ⟨#[]⟩)),(.v (.string ⟨#[]⟩)),(.v (.string ⟨#[]⟩)),(.v (.string ⟨#[]⟩)),(.v (.string ⟨#[]⟩)),(.v (.string ⟨#[]⟩)),(.v (.string ⟨#[]⟩)),(.v (.string ⟨#[]⟩)),(.v (.string ⟨#[]⟩)),(.v (.string ⟨#[]⟩))] [])).bind fun r2 =>
((stA 39 r2.1 x1 [] r2.2).map fun H' => (undefA,H')).bind fun r3 =>
(bin .lss .int a0 (I 1)).bind fun x4 =>
(gd x4 false (some a0)).bind fun x5 =>
(gd x4 false (bin .geq .int x5 (I 39))).bind fun x6 =>
(pickA x4 (B true) x6).bind fun x7 =>
cond x7 (
leave 0 [] [.p (.v (.string ⟨#[]⟩))] r3.2) (
(idxArr 1 39 r2.1 a0).bind fun x8 =>
(ld false 1 x8 r3.2).bind fun x9 =>
leave 0 [] [x9] r3.2)) := by
  rw [O_ent]
  kernel_rfl
-- backstitch/code.within
theorem f139_eq (a0 a1 a2:AV):O.ent 139 [a0,a1,a2] [] [] = (
(bin .geq .int a0 a1).bind fun x1 =>
(gd x1 true (some a0)).bind fun x2 =>
(gd x1 true (some a2)).bind fun x3 =>
(gd x1 true (bin .leq .int x2 x3)).bind fun x4 =>
(pickA x1 x4 (B false)).bind fun x5 =>
leave 0 [] [x5] []) := by
  rw [O_ent]
  kernel_rfl
-- (backstitch/code.look).names
theorem f140_eq (a0 a1 a2:AV):O.ent 140 [a0,a1,a2] [] [] = (
(boxO [] (AV.cells a0) []).bind fun r1 =>
(bin .eql .int a1 (.p (.v (.int .u8 114)))).bind fun x2 =>
cond x2 (
(ld true 8 r1.1 r1.2).bind fun x3 =>
(callA cfg O 141 [x3,a2] [] r1.2).bind fun r4 =>
leave 0 [] [r4.1] r4.2) (
(bin .eql .int a1 (.p (.v (.int .u8 107)))).bind fun x5 =>
cond x5 (
(fldA 0 r1.1).bind fun x6 =>
(fldA 1 x6).bind fun x7 =>
(ld false 1 x7 r1.2).bind fun x8 =>
(lenA .slice x8 r1.2).bind fun x9 =>
(bin .sub .int x9 (I 1)).bind fun x10 =>
(callA cfg O 139 [a2,I 0,x10] [] r1.2).bind fun r11 =>
leave 0 [] [r11.1] r11.2) (
(bin .eql .int a1 (.p (.v (.int .u8 116)))).bind fun x12 =>
cond x12 (
(ld true 8 r1.1 r1.2).bind fun x13 =>
(callA cfg O 162 [x13,a2] [] r1.2).bind fun r14 =>
leave 0 [] [r14.1] r14.2) (
(bin .eql .int a1 (.p (.v (.int .u8 97)))).bind fun x15 =>
cond x15 (
(ld true 8 r1.1 r1.2).bind fun x16 =>
(callA cfg O 163 [x16,a2] [] r1.2).bind fun r17 =>
leave 0 [] [r17.1] r17.2) (
(bin .eql .int a1 (.p (.v (.int .u8 117)))).bind fun x18 =>
cond x18 (
(fldA 3 r1.1).bind fun x19 =>
(fldA 3 x19).bind fun x20 =>
(ld false 1 x20 r1.2).bind fun x21 =>
(lenA .slice x21 r1.2).bind fun x22 =>
(bin .sub .int x22 (I 1)).bind fun x23 =>
(callA cfg O 139 [a2,I 0,x23] [] r1.2).bind fun r24 =>
leave 0 [] [r24.1] r24.2) (
(bin .eql .int a1 (.p (.v (.int .u8 102)))).bind fun x25 =>
cond x25 (
(fldA 0 r1.1).bind fun x26 =>
(fldA 0 x26).bind fun x27 =>
(ld false 1 x27 r1.2).bind fun x28 =>
(lenA .slice x28 r1.2).bind fun x29 =>
(bin .sub .int x29 (I 1)).bind fun x30 =>
(callA cfg O 139 [a2,I 1,x30] [] r1.2).bind fun r31 =>
leave 0 [] [r31.1] r31.2) (
(bin .eql .int a1 (.p (.v (.int .u8 108)))).bind fun x32 =>
cond x32 (
cond x32 (
(fldA 3 r1.1).bind fun x33 =>
(fldA 1 x33).bind fun x34 =>
(ld false 1 x34 r1.2).bind fun x35 =>
(callA cfg O 139 [a2,I 0,x35] [] r1.2).bind fun r36 =>
leave 0 [] [r36.1] r36.2) (
(bin .eql .int a2 (I 0)).bind fun x37 =>
leave 0 [] [x37] r1.2)) (
(bin .eql .int a1 (.p (.v (.int .u8 99)))).bind fun x38 =>
cond x38 (
cond x38 (
(fldA 3 r1.1).bind fun x39 =>
(fldA 1 x39).bind fun x40 =>
(ld false 1 x40 r1.2).bind fun x41 =>
(callA cfg O 139 [a2,I 0,x41] [] r1.2).bind fun r42 =>
leave 0 [] [r42.1] r42.2) (
(bin .eql .int a2 (I 0)).bind fun x43 =>
leave 0 [] [x43] r1.2)) (
(bin .eql .int a1 (.p (.v (.int .u8 110)))).bind fun x44 =>
cond x44 (
(fldA 3 r1.1).bind fun x45 =>
(fldA 1 x45).bind fun x46 =>
(ld false 1 x46 r1.2).bind fun x47 =>
(callA cfg O 139 [a2,I 0,x47] [] r1.2).bind fun r48 =>
leave 0 [] [r48.1] r48.2) (
(bin .eql .int a2 (I 0)).bind fun x49 =>
leave 0 [] [x49] r1.2)))))))))) := by
  rw [O_ent]
  kernel_rfl
-- (backstitch/code.look).reg
theorem f141_eq (a0 a1:AV):O.ent 141 [a0,a1] [] [] = (
(boxO [] (AV.cells a0) []).bind fun r1 =>
(fldA 3 r1.1).bind fun x2 =>
(fldA 1 x2).bind fun x3 =>
(ld false 1 x3 r1.2).bind fun x4 =>
(bin .sub .int x4 (I 1)).bind fun x5 =>
(callA cfg O 139 [a1,I 0,x5] [] r1.2).bind fun r6 =>
leave 0 [] [r6.1] r6.2) := by
  rw [O_ent]
  kernel_rfl
-- (backstitch/code.look).caught
theorem f142_eq (a0 a1:AV):O.ent 142 [a0,a1] [] [] = (
(boxO [] (AV.cells a0) []).bind fun r1 =>
(boxO [] (AV.cells a1) r1.2).bind fun r2 =>
(fldA 3 r2.1).bind fun x3 =>
(ld false 1 x3 r2.2).bind fun x4 =>
(callA cfg O 71 [x4,.fn 164 [] [r1.1]] [] r2.2).bind fun r5 =>
(un .not r5.1).bind fun x6 =>
leave 0 [] [x6] r5.2) := by
  rw [O_ent]
  kernel_rfl
-- (*backstitch/code.walk).come
theorem f143_eq (a0 a1 a2:AV)(lo:List Nat)(H:Heap):O.ent 143 [a0,a1,a2] lo H = (
(nilCheckA a0).bind fun x1 =>
(fldA 0 x1).bind fun x2 =>
(fldA 4 x2).bind fun x3 =>
(ld false 1 x3 H).bind fun x4 =>
(lenA .slice x4 H).bind fun x5 =>
(bin .geq .int a1 x5).bind fun x6 =>
(gd x6 false (some a2)).bind fun x7 =>
(gd x6 false (lenA .slice x7 H)).bind fun x8 =>
(gd x6 false (bin .gtr .int x8 (I 20))).bind fun x9 =>
(pickA x6 (B true) x9).bind fun x10 =>
cond x10 (
(nilCheckA a0).bind fun x11 =>
(fldA 8 x11).bind fun x12 =>
((stA 1 x12 (B true) lo H).map fun H' => (undefA,H')).bind fun r13 =>
leave 1 lo [] r13.2) (
(nilCheckA a0).bind fun x14 =>
(fldA 5 x14).bind fun x15 =>
(ld false 1 x15 H).bind fun x16 =>
(idxA 1 x16 a1).bind fun x17 =>
(ld false 1 x17 H).bind fun x18 =>
(un .not x18).bind fun x19 =>
cond x19 (
(nilCheckA a0).bind fun x20 =>
(fldA 5 x20).bind fun x21 =>
(ld false 1 x21 H).bind fun x22 =>
(nilCheckA a0).bind fun x23 =>
(fldA 6 x23).bind fun x24 =>
(ld false 1 x24 H).bind fun x25 =>
(idxA 1 x22 a1).bind fun x26 =>
((stA 1 x26 (B true) lo H).map fun H' => (undefA,H')).bind fun r27 =>
(idxA 1 x25 a1).bind fun x28 =>
((stA 1 x28 a2 lo r27.2).map fun H' => (undefA,H')).bind fun r29 =>
(nilCheckA a0).bind fun x30 =>
(fldA 7 x30).bind fun x31 =>
(ld false 1 x31 r29.2).bind fun x32 =>
(litA false 1 [a1] r29.2).bind fun r33 =>
(appA 1 8 x32 r33.1 r33.2).bind fun r34 =>
(nilCheckA a0).bind fun x35 =>
(fldA 7 x35).bind fun x36 =>
((stA 1 x36 r34.1 lo r34.2).map fun H' => (undefA,H')).bind fun r37 =>
leave 1 lo [] r37.2) (
(nilCheckA a0).bind fun x38 =>
(fldA 6 x38).bind fun x39 =>
(ld false 1 x39 H).bind fun x40 =>
(idxA 1 x40 a1).bind fun x41 =>
(ld false 1 x41 H).bind fun x42 =>
(callA cfg O 165 [x42,a2] lo H).bind fun r43 =>
(un .not r43.1).bind fun x44 =>
cond x44 (
(nilCheckA a0).bind fun x45 =>
(fldA 8 x45).bind fun x46 =>
((stA 1 x46 (B true) lo r43.2).map fun H' => (undefA,H')).bind fun r47 =>
leave 1 lo [] r47.2) (
leave 1 lo [] r43.2)))) := by
  rw [O_ent]
  kernel_rfl
-- (*backstitch/code.walk).from
noncomputable def T144_35:List It := labAt Tryd.prog cfg 144 35 (fun _ => none)
noncomputable def L144_35 (vals:List AV) (lo:List Nat) (H:Heap):Res := O.lab 144 [0,1,5] (T144_35) vals lo H
theorem L144_35_eq (lo:List Nat)(v0 v1 v5:AV)(H:Heap):L144_35 [v0,v1,v5] lo H = (
(bin .add .int v1 (I 1)).bind fun x1 =>
(callA cfg O 143 [v0,x1,v5] lo H).bind fun r2 =>
leave 1 lo [] r2.2) := by
  show O.lab _ _ _ _ _ _ = _
  rw [O_lab]
  kernel_rfl
theorem f144_eq (a0 a1:AV)(lo:List Nat)(H:Heap):O.ent 144 [a0,a1] lo H = (
(nilCheckA a0).bind fun x1 =>
(fldA 0 x1).bind fun x2 =>
(fldA 4 x2).bind fun x3 =>
(ld false 1 x3 H).bind fun x4 =>
(idxA 5 x4 a1).bind fun x5 =>
(ld true 5 x5 H).bind fun x6 =>
(nilCheckA a0).bind fun x7 =>
(fldA 6 x7).bind fun x8 =>
(ldX false 1 x8 H).bind fun x9 =>
(idxA 1 x9 a1).bind fun x10 =>
(ldX false 1 x10 H).bind fun x11 =>
(boxO [] [(I 0),(I 0),(I 0),(I 0),(I 0)] H).bind fun r12 =>
((stX 5 r12.1 x6 lo r12.2).map fun H' => (undefA,H')).bind fun r13 =>
(fldA 0 r12.1).bind fun x14 =>
(ld false 1 x14 r13.2).bind fun x15 =>
(bin .eql .int x15 (I 28)).bind fun x16 =>
cond x16 (
cond x16 (
leave 1 lo [] r13.2) (
(bin .eql .int x15 (I 13)).bind fun x17 =>
cond x17 (
cond x17 (
(fldA 1 r12.1).bind fun x18 =>
(ld false 1 x18 r13.2).bind fun x19 =>
(callA cfg O 143 [a0,x19,x11] lo r13.2).bind fun r20 =>
leave 1 lo [] r20.2) (
(bin .eql .int x15 (I 15)).bind fun x21 =>
cond x21 (
(fldA 2 r12.1).bind fun x22 =>
(ld false 1 x22 r13.2).bind fun x23 =>
(callA cfg O 143 [a0,x23,x11] lo r13.2).bind fun r24 =>
L144_35 [a0,a1,x11] lo r24.2) (
(bin .eql .int x15 (I 30)).bind fun x25 =>
cond x25 (
(fldA 2 r12.1).bind fun x26 =>
(ld false 1 x26 r13.2).bind fun x27 =>
(callA cfg O 143 [a0,x27,x11] lo r13.2).bind fun r28 =>
(callA cfg O 166 [x11] lo r28.2).bind fun r29 =>
(fldA 1 r12.1).bind fun x30 =>
(ld false 1 x30 r29.2).bind fun x31 =>
(fldA 2 r12.1).bind fun x32 =>
(ld false 1 x32 r29.2).bind fun x33 =>
(buildA [(I 0),(I 0)] [(0,1,x31),(1,1,x33)]).bind fun x34 =>
(litP 2 [x34]).bind fun x35 =>
(appA 2 16 r29.1 x35 r29.2).bind fun r36 =>
L144_35 [a0,a1,r36.1] lo r36.2) (
(bin .eql .int x15 (I 31)).bind fun x37 =>
cond x37 (
(lenA .slice x11 r13.2).bind fun x38 =>
(bin .eql .int x38 (I 0)).bind fun x39 =>
cond x39 (
(nilCheckA a0).bind fun x40 =>
(fldA 8 x40).bind fun x41 =>
((stA 1 x41 (B true) lo r13.2).map fun H' => (undefA,H')).bind fun r42 =>
leave 1 lo [] r42.2) (
(lenA .slice x11 r13.2).bind fun x43 =>
(bin .sub .int x43 (I 1)).bind fun x44 =>
(cutA 2 x11 none (some x44) none r13.2).bind fun x45 =>
L144_35 [a0,a1,x45] lo r13.2)) (
L144_35 [a0,a1,x11] lo r13.2))))) (
(bin .eql .int x15 (I 14)).bind fun x46 =>
cond x46 (
(fldA 1 r12.1).bind fun x47 =>
(ld false 1 x47 r13.2).bind fun x48 =>
(callA cfg O 143 [a0,x48,x11] lo r13.2).bind fun r49 =>
leave 1 lo [] r49.2) (
(bin .eql .int x15 (I 15)).bind fun x50 =>
cond x50 (
(fldA 2 r12.1).bind fun x51 =>
(ld false 1 x51 r13.2).bind fun x52 =>
(callA cfg O 143 [a0,x52,x11] lo r13.2).bind fun r53 =>
L144_35 [a0,a1,x11] lo r53.2) (
(bin .eql .int x15 (I 30)).bind fun x54 =>
cond x54 (
(fldA 2 r12.1).bind fun x55 =>
(ld false 1 x55 r13.2).bind fun x56 =>
(callA cfg O 143 [a0,x56,x11] lo r13.2).bind fun r57 =>
(callA cfg O 166 [x11] lo r57.2).bind fun r58 =>
(fldA 1 r12.1).bind fun x59 =>
(ld false 1 x59 r58.2).bind fun x60 =>
(fldA 2 r12.1).bind fun x61 =>
(ld false 1 x61 r58.2).bind fun x62 =>
(buildA [(I 0),(I 0)] [(0,1,x60),(1,1,x62)]).bind fun x63 =>
(litP 2 [x63]).bind fun x64 =>
(appA 2 16 r58.1 x64 r58.2).bind fun r65 =>
L144_35 [a0,a1,r65.1] lo r65.2) (
(bin .eql .int x15 (I 31)).bind fun x66 =>
cond x66 (
(lenA .slice x11 r13.2).bind fun x67 =>
(bin .eql .int x67 (I 0)).bind fun x68 =>
cond x68 (
(nilCheckA a0).bind fun x69 =>
(fldA 8 x69).bind fun x70 =>
((stA 1 x70 (B true) lo r13.2).map fun H' => (undefA,H')).bind fun r71 =>
leave 1 lo [] r71.2) (
(lenA .slice x11 r13.2).bind fun x72 =>
(bin .sub .int x72 (I 1)).bind fun x73 =>
(cutA 2 x11 none (some x73) none r13.2).bind fun x74 =>
L144_35 [a0,a1,x74] lo r13.2)) (
L144_35 [a0,a1,x11] lo r13.2))))))) (
(bin .eql .int x15 (I 29)).bind fun x75 =>
cond x75 (
leave 1 lo [] r13.2) (
(bin .eql .int x15 (I 13)).bind fun x76 =>
cond x76 (
cond x76 (
(fldA 1 r12.1).bind fun x77 =>
(ld false 1 x77 r13.2).bind fun x78 =>
(callA cfg O 143 [a0,x78,x11] lo r13.2).bind fun r79 =>
leave 1 lo [] r79.2) (
(bin .eql .int x15 (I 15)).bind fun x80 =>
cond x80 (
(fldA 2 r12.1).bind fun x81 =>
(ld false 1 x81 r13.2).bind fun x82 =>
(callA cfg O 143 [a0,x82,x11] lo r13.2).bind fun r83 =>
L144_35 [a0,a1,x11] lo r83.2) (
(bin .eql .int x15 (I 30)).bind fun x84 =>
cond x84 (
(fldA 2 r12.1).bind fun x85 =>
(ld false 1 x85 r13.2).bind fun x86 =>
(callA cfg O 143 [a0,x86,x11] lo r13.2).bind fun r87 =>
(callA cfg O 166 [x11] lo r87.2).bind fun r88 =>
(fldA 1 r12.1).bind fun x89 =>
(ld false 1 x89 r88.2).bind fun x90 =>
(fldA 2 r12.1).bind fun x91 =>
(ld false 1 x91 r88.2).bind fun x92 =>
(buildA [(I 0),(I 0)] [(0,1,x90),(1,1,x92)]).bind fun x93 =>
(litP 2 [x93]).bind fun x94 =>
(appA 2 16 r88.1 x94 r88.2).bind fun r95 =>
L144_35 [a0,a1,r95.1] lo r95.2) (
(bin .eql .int x15 (I 31)).bind fun x96 =>
cond x96 (
(lenA .slice x11 r13.2).bind fun x97 =>
(bin .eql .int x97 (I 0)).bind fun x98 =>
cond x98 (
(nilCheckA a0).bind fun x99 =>
(fldA 8 x99).bind fun x100 =>
((stA 1 x100 (B true) lo r13.2).map fun H' => (undefA,H')).bind fun r101 =>
leave 1 lo [] r101.2) (
(lenA .slice x11 r13.2).bind fun x102 =>
(bin .sub .int x102 (I 1)).bind fun x103 =>
(cutA 2 x11 none (some x103) none r13.2).bind fun x104 =>
L144_35 [a0,a1,x104] lo r13.2)) (
L144_35 [a0,a1,x11] lo r13.2))))) (
(bin .eql .int x15 (I 14)).bind fun x105 =>
cond x105 (
(fldA 1 r12.1).bind fun x106 =>
(ld false 1 x106 r13.2).bind fun x107 =>
(callA cfg O 143 [a0,x107,x11] lo r13.2).bind fun r108 =>
leave 1 lo [] r108.2) (
(bin .eql .int x15 (I 15)).bind fun x109 =>
cond x109 (
(fldA 2 r12.1).bind fun x110 =>
(ld false 1 x110 r13.2).bind fun x111 =>
(callA cfg O 143 [a0,x111,x11] lo r13.2).bind fun r112 =>
L144_35 [a0,a1,x11] lo r112.2) (
(bin .eql .int x15 (I 30)).bind fun x113 =>
cond x113 (
(fldA 2 r12.1).bind fun x114 =>
(ld false 1 x114 r13.2).bind fun x115 =>
(callA cfg O 143 [a0,x115,x11] lo r13.2).bind fun r116 =>
(callA cfg O 166 [x11] lo r116.2).bind fun r117 =>
(fldA 1 r12.1).bind fun x118 =>
(ld false 1 x118 r117.2).bind fun x119 =>
(fldA 2 r12.1).bind fun x120 =>
(ld false 1 x120 r117.2).bind fun x121 =>
(buildA [(I 0),(I 0)] [(0,1,x119),(1,1,x121)]).bind fun x122 =>
(litP 2 [x122]).bind fun x123 =>
(appA 2 16 r117.1 x123 r117.2).bind fun r124 =>
L144_35 [a0,a1,r124.1] lo r124.2) (
(bin .eql .int x15 (I 31)).bind fun x125 =>
cond x125 (
(lenA .slice x11 r13.2).bind fun x126 =>
(bin .eql .int x126 (I 0)).bind fun x127 =>
cond x127 (
(nilCheckA a0).bind fun x128 =>
(fldA 8 x128).bind fun x129 =>
((stA 1 x129 (B true) lo r13.2).map fun H' => (undefA,H')).bind fun r130 =>
leave 1 lo [] r130.2) (
(lenA .slice x11 r13.2).bind fun x131 =>
(bin .sub .int x131 (I 1)).bind fun x132 =>
(cutA 2 x11 none (some x132) none r13.2).bind fun x133 =>
L144_35 [a0,a1,x133] lo r13.2)) (
L144_35 [a0,a1,x11] lo r13.2)))))))) := by
  rw [O_ent]
  kernel_rfl
-- math.Float64frombits
theorem f161_eq (a0:AV):O.ent 161 [a0] [] [] = (primA .f64from [a0]).map fun x => ([x],[]) := by
  rw [O_ent]
  kernel_rfl
-- (backstitch/code.look).text
theorem f162_eq (a0 a1:AV):O.ent 162 [a0,a1] [] [] = (
(boxO [] (AV.cells a0) []).bind fun r1 =>
(fldA 0 r1.1).bind fun x2 =>
(fldA 2 x2).bind fun x3 =>
(ld false 1 x3 r1.2).bind fun x4 =>
(lenA .slice x4 r1.2).bind fun x5 =>
(bin .sub .int x5 (I 1)).bind fun x6 =>
(callA cfg O 139 [a1,I 0,x6] [] r1.2).bind fun r7 =>
leave 0 [] [r7.1] r7.2) := by
  rw [O_ent]
  kernel_rfl
-- (backstitch/code.look).at
theorem f163_eq (a0 a1:AV):O.ent 163 [a0,a1] [] [] = (
(boxO [] (AV.cells a0) []).bind fun r1 =>
(fldA 3 r1.1).bind fun x2 =>
(fldA 4 x2).bind fun x3 =>
(ld false 1 x3 r1.2).bind fun x4 =>
(lenA .slice x4 r1.2).bind fun x5 =>
(bin .sub .int x5 (I 1)).bind fun x6 =>
(callA cfg O 139 [a1,I 0,x6] [] r1.2).bind fun r7 =>
leave 0 [] [r7.1] r7.2) := by
  rw [O_ent]
  kernel_rfl
-- slices.ContainsFunc[[]int,int]
theorem f71_eq (a0 a1:AV)(lo:List Nat)(H:Heap):O.ent 71 [a0,a1] lo H = (
(callA cfg O 122 [a0,a1] (List.length H :: lo) H).bind fun r1 =>
(bin .geq .int r1.1 (I 0)).bind fun x2 =>
leave 3 (List.length H :: lo) [x2] r1.2) := by
  rw [O_ent]
  kernel_rfl
-- (backstitch/code.look).caught$1
theorem f164_eq (a0 a1:AV)(lo:List Nat)(H:Heap):O.ent 164 [a0,a1] lo H = (
(ld true 8 a1 H).bind fun x1 =>
(callA cfg O 141 [x1,a0] (List.length H :: lo) H).bind fun r2 =>
(un .not r2.1).bind fun x3 =>
(gd x3 true (some a0)).bind fun x4 =>
(gd x3 true (fldA 3 a1)).bind fun x5 =>
(gd x3 true (fldA 3 x5)).bind fun x6 =>
(gd x3 true (ld false 1 x6 r2.2)).bind fun x7 =>
(gd x3 true (lenA .slice x7 r2.2)).bind fun x8 =>
(gd x3 true (un .neg x8)).bind fun x9 =>
(gdH x3 true (callA cfg O 139 [x4,x9,I (-1)] (List.length H :: lo) r2.2) r2.2).bind fun r10 =>
(gd x3 true (un .not r10.1)).bind fun x11 =>
(pickA x3 x11 (B false)).bind fun x12 =>
leave 3 (List.length H :: lo) [x12] r10.2) := by
  rw [O_ent]
  kernel_rfl
-- slices.Equal[[]backstitch/api.Try,backstitch/api.Try]
noncomputable def T165_10:List It := labAt Tryd.prog cfg 165 10 (fun _ => none)
noncomputable def L165_10 (vals:List AV) (lo:List Nat) (H:Heap):Res := O.lab 165 [0,1,12,13] (T165_10) vals lo H
theorem L165_10_eq (lo:List Nat)(v0 v1 v12 v13:AV)(H:Heap):L165_10 [v0,v1,v12,v13] lo H = (
(bin .lss .int v13 v12).bind fun x1 =>
cond x1 (
(idxA 2 v0 v13).bind fun x2 =>
(ld true 2 x2 H).bind fun x3 =>
(idxA 2 v1 v13).bind fun x4 =>
(ld true 2 x4 H).bind fun x5 =>
(bin .neq (.agg 2 [(0,.int),(1,.int)]) x3 x5).bind fun x6 =>
cond x6 (
leave 0 lo [B false] H) (
(bin .add .int v13 (I 1)).bind fun x7 =>
L165_10 [v0,v1,v12,x7] lo H)) (
leave 0 lo [B true] H)) := by
  show O.lab _ _ _ _ _ _ = _
  rw [O_lab]
  kernel_rfl
theorem f165_eq (a0 a1:AV):O.ent 165 [a0,a1] [] [] = (
(lenA .slice a0 []).bind fun x1 =>
(lenA .slice a1 []).bind fun x2 =>
(bin .neq .int x1 x2).bind fun x3 =>
cond x3 (
leave 0 [] [B false] []) (
(lenA .slice a0 []).bind fun x4 =>
L165_10 [a0,a1,x4,I 0] [] [])) := by
  rw [O_ent]
  kernel_rfl
-- slices.Clone[[]backstitch/api.Try,backstitch/api.Try]
theorem f166_eq (a0:AV)(lo:List Nat)(H:Heap):O.ent 166 [a0] lo H = (
(bin .eql .slice a0 (.p nilS)).bind fun x1 =>
cond x1 (
leave 4 lo [.p nilS] H) (
(litA false 2 [] H).bind fun r2 =>
(appA 2 16 r2.1 a0 r2.2).bind fun r3 =>
leave 4 lo [r3.1] r3.2)) := by
  rw [O_ent]
  kernel_rfl
-- slices.IndexFunc[[]int,int]
noncomputable def T122_6:List It := labAt Tryd.prog cfg 122 6 (fun _ => none)
noncomputable def L122_6 (vals:List AV) (lo:List Nat) (H:Heap):Res := O.lab 122 [0,1,7,8] (T122_6) vals lo H
theorem L122_6_eq (lo:List Nat)(v0 v1 v7 v8:AV)(H:Heap):L122_6 [v0,v1,v7,v8] lo H = (
(bin .lss .int v8 v7).bind fun x1 =>
cond x1 (
(idxA 1 v0 v8).bind fun x2 =>
(ld false 1 x2 H).bind fun x3 =>
(callV cfg O v1 [x3] lo H).bind fun r4 =>
cond r4.1 (
leave 3 lo [v8] r4.2) (
(bin .add .int v8 (I 1)).bind fun x5 =>
L122_6 [v0,v1,v7,x5] lo r4.2)) (
leave 3 lo [I (-1)] H)) := by
  show O.lab _ _ _ _ _ _ = _
  rw [O_lab]
  kernel_rfl
theorem f122_eq (a0 a1:AV)(lo:List Nat)(H:Heap):O.ent 122 [a0,a1] lo H = (
(lenA .slice a0 H).bind fun x1 =>
L122_6 [a0,a1,x1,I 0] (List.length H :: lo) H) := by
  rw [O_ent]
  kernel_rfl
end Go.Proofs.YtnjfpnoamgipjaaDoor

