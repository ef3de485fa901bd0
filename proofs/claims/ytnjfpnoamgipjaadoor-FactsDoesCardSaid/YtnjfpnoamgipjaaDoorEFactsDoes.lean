import Derived.Test.YtnjfpnoamgipjaaDoorCf
set_option linter.unusedVariables false
set_option maxRecDepth 100000
namespace Go.Proofs.YtnjfpnoamgipjaaDoor
open Go Go.AM
-- backstitch/backstitchlaw2.FactsDoes
theorem f8_eq (a0 a1:AV):O.ent 8 [a0,a1] [] [] = (
(boxO [] (AV.cells a0) []).bind fun r1 =>
(boxO [] (AV.cells a1) r1.2).bind fun r2 =>
(ld true 3 r1.1 r2.2).bind fun x3 =>
(ld true 13 r2.1 r2.2).bind fun x4 =>
(callA cfg O 32 [x3,x4] [] r2.2).bind fun r5 =>
(extractA r5.1 0).bind fun x6 =>
(extractA r5.1 1).bind fun x7 =>
(boxO [] [(I 0),(I 0),(I 0),(.p nilS),(.p nilS),(I 0),(I 0),(.p nilS),(.p nilS),(I 0),(I 0),(.p nilS),(.p nilS)] r5.2).bind fun r8 =>
((stA 13 r8.1 x6 [] r8.2).map fun H' => (undefA,H')).bind fun r9 =>
(ld true 3 r1.1 r9.2).bind fun x10 =>
(ld true 13 r2.1 r9.2).bind fun x11 =>
(ld true 13 r8.1 r9.2).bind fun x12 =>
(callA cfg O 30 [x10,x11,x12,x7,.fn 33 [] []] [] r9.2).bind fun r13 =>
leave 0 [] [r13.1] r13.2) := by
  rw [O_ent]
  kernel_rfl
-- backstitch/facts.Do
noncomputable def T32_14:List It := labAt Tryd.prog cfg 32 14 (fun _ => none)
noncomputable def L32_14 (vals:List AV) (lo:List Nat) (H:Heap):Res := O.lab 32 [3,4,7,21,22] (T32_14) vals lo H
noncomputable def T32_25:List It := labAt Tryd.prog cfg 32 25 (fun _ => none)
noncomputable def L32_25 (vals:List AV) (lo:List Nat) (H:Heap):Res := O.lab 32 [3,4,7,21,22] (T32_25) vals lo H
theorem L32_14_eq (lo:List Nat)(v3 v4 v7 v21 v22:AV)(H:Heap):L32_14 [v3,v4,v7,v21,v22] lo H = (
(bin .lss .int v22 v21).bind fun x1 =>
cond x1 (
(idxA 1 v7 v22).bind fun x2 =>
((stA 1 x2 v22 lo H).map fun H' => (undefA,H')).bind fun r3 =>
(ld true 13 v3 r3.2).bind fun x4 =>
(callA cfg O 68 [x4,v22] lo r3.2).bind fun r5 =>
cond r5.1 (
(idxA 1 v7 v22).bind fun x6 =>
((stA 1 x6 (I (-1)) lo r5.2).map fun H' => (undefA,H')).bind fun r7 =>
L32_25 [v3,v4,v7,v21,v22] lo r7.2) (
L32_25 [v3,v4,v7,v21,v22] lo r5.2)) (
(ld true 13 v3 H).bind fun x8 =>
(callA cfg O 24 [x8,v7] lo H).bind fun r9 =>
(extractA r9.1 0).bind fun x10 =>
(extractA r9.1 1).bind fun x11 =>
((stA 13 v4 x10 lo r9.2).map fun H' => (undefA,H')).bind fun r12 =>
((ld true 13 v4 r12.2).bind fun x14 => ((some []).map fun q16 => x11 :: q16).map fun q15 => x14 :: q15).bind fun xs13 => leave 0 lo xs13 r12.2)) := by
  show O.lab _ _ _ _ _ _ = _
  rw [O_lab]
  kernel_rfl
theorem L32_25_eq (lo:List Nat)(v3 v4 v7 v21 v22:AV)(H:Heap):L32_25 [v3,v4,v7,v21,v22] lo H = (
(bin .add .int v22 (I 1)).bind fun x1 =>
L32_14 [v3,v4,v7,v21,x1] lo H) := by
  show O.lab _ _ _ _ _ _ = _
  rw [O_lab]
  kernel_rfl
theorem f32_eq (a0 a1:AV):O.ent 32 [a0,a1] [] [] = (
(boxO [] (AV.cells a0) []).bind fun r1 =>
(boxO [] (AV.cells a1) r1.2).bind fun r2 =>
(boxO [] [(I 0),(I 0),(I 0),(.p nilS),(.p nilS),(I 0),(I 0),(.p nilS),(.p nilS),(I 0),(I 0),(.p nilS),(.p nilS)] r2.2).bind fun r3 =>
(ld true 3 r1.1 r3.2).bind fun x4 =>
(ld true 13 r2.1 r3.2).bind fun x5 =>
(callA cfg O 19 [x4,x5] [] r3.2).bind fun r6 =>
(bin .neq .int r6.1 (I 0)).bind fun x7 =>
cond x7 (
(buildA [(I 0),(I 0),(I 0),(.p nilS),(.p nilS),(I 0),(I 0),(.p nilS),(.p nilS),(I 0),(I 0),(.p nilS),(.p nilS)] []).bind fun x8 =>
((stA 13 r3.1 x8 [] r6.2).map fun H' => (undefA,H')).bind fun r9 =>
((ld true 13 r3.1 r9.2).bind fun x11 => ((some []).map fun q13 => r6.1 :: q13).map fun q12 => x11 :: q12).bind fun xs10 => leave 0 [] xs10 r9.2) (
(fldA 3 r2.1).bind fun x14 =>
(ld false 1 x14 r6.2).bind fun x15 =>
(lenA .slice x15 r6.2).bind fun x16 =>
(mkRow 1 8 [(.v (.int .i64 0))] x16 x16 r6.2).bind fun r17 =>
(lenA .slice r17.1 r17.2).bind fun x18 =>
L32_14 [r2.1,r3.1,r17.1,x18,I 0] [] r17.2)) := by
  rw [O_ent]
  kernel_rfl
-- backstitch/backstitchref2.Facts
noncomputable def T33_8:List It := labAt Tryd.prog cfg 33 8 (fun _ => none)
noncomputable def L33_8 (vals:List AV) (lo:List Nat) (H:Heap):Res := O.lab 33 [1,2,3,11,12] (T33_8) vals lo H
noncomputable def T33_17:List It := labAt Tryd.prog cfg 33 17 (fun _ => none)
noncomputable def L33_17 (vals:List AV) (lo:List Nat) (H:Heap):Res := O.lab 33 [1,2,3,11,12] (T33_17) vals lo H
theorem L33_8_eq (lo:List Nat)(v1 v2 v3 v11 v12:AV)(H:Heap):L33_8 [v1,v2,v3,v11,v12] lo H = (
(bin .lss .int v12 v11).bind fun x1 =>
cond x1 (
(ld true 13 v1 H).bind fun x2 =>
(callA cfg O 69 [x2,v12] lo H).bind fun r3 =>
cond r3.1 (
(idxA 1 v3 v12).bind fun x4 =>
((stA 1 x4 (I (-1)) lo r3.2).map fun H' => (undefA,H')).bind fun r5 =>
L33_17 [v1,v2,v3,v11,v12] lo r5.2) (
L33_17 [v1,v2,v3,v11,v12] lo r3.2)) (
(ld true 13 v1 H).bind fun x6 =>
(callA cfg O 25 [x6,v3] lo H).bind fun r7 =>
(extractA r7.1 0).bind fun x8 =>
(extractA r7.1 1).bind fun x9 =>
(boxO [] [(I 0),(I 0),(I 0),(.p nilS),(.p nilS),(I 0),(I 0),(.p nilS),(.p nilS),(I 0),(I 0),(.p nilS),(.p nilS)] r7.2).bind fun r10 =>
((stA 13 r10.1 x8 lo r10.2).map fun H' => (undefA,H')).bind fun r11 =>
(ld true 13 r10.1 r11.2).bind fun x12 =>
((stA 13 v2 x12 lo r11.2).map fun H' => (undefA,H')).bind fun r13 =>
((ld true 13 v2 r13.2).bind fun x15 => (some []).map fun q16 => x15 :: q16).bind fun xs14 => leave 0 lo xs14 r13.2)) := by
  show O.lab _ _ _ _ _ _ = _
  rw [O_lab]
  kernel_rfl
theorem L33_17_eq (lo:List Nat)(v1 v2 v3 v11 v12:AV)(H:Heap):L33_17 [v1,v2,v3,v11,v12] lo H = (
(bin .add .int v12 (I 1)).bind fun x1 =>
L33_8 [v1,v2,v3,v11,x1] lo H) := by
  show O.lab _ _ _ _ _ _ = _
  rw [O_lab]
  kernel_rfl
theorem f33_eq (a0:AV):O.ent 33 [a0] [] [] = (
(boxO [] (AV.cells a0) []).bind fun r1 =>
(boxO [] [(I 0),(I 0),(I 0),(.p nilS),(.p nilS),(I 0),(I 0),(.p nilS),(.p nilS),(I 0),(I 0),(.p nilS),(.p nilS)] r1.2).bind fun r2 =>
(ld true 13 r1.1 r2.2).bind fun x3 =>
(callA cfg O 65 [x3] [] r2.2).bind fun r4 =>
(fldA 3 r1.1).bind fun x5 =>
(ld false 1 x5 r4.2).bind fun x6 =>
(lenA .slice x6 r4.2).bind fun x7 =>
L33_8 [r1.1,r2.1,r4.1,x7,I 0] [] r4.2) := by
  rw [O_ent]
  kernel_rfl
-- backstitch/facts.said
theorem f68_eq (a0 a1:AV):O.ent 68 [a0,a1] [] [] = (
(boxO [] (AV.cells a0) []).bind fun r1 =>
(fldA 3 r1.1).bind fun x2 =>
(ld false 1 x2 r1.2).bind fun x3 =>
(idxA 8 x3 a1).bind fun x4 =>
(ld true 8 x4 r1.2).bind fun x5 =>
(boxO [] [(I 0),(I 0),(I 0),(I 0),(I 0),(I 0),(I 0),(I 0)] r1.2).bind fun r6 =>
((stA 8 r6.1 x5 [] r6.2).map fun H' => (undefA,H')).bind fun r7 =>
(fldA 0 r6.1).bind fun x8 =>
(ld false 1 x8 r7.2).bind fun x9 =>
(bin .eql .int x9 (I 4)).bind fun x10 =>
cond x10 (
(ld true 13 r1.1 r7.2).bind fun x11 =>
(fldA 1 r6.1).bind fun x12 =>
(ld false 1 x12 r7.2).bind fun x13 =>
(callA cfg O 22 [x11,x13,a1] [] r7.2).bind fun r14 =>
(fldA 4 r6.1).bind fun x15 =>
(ld false 1 x15 r14.2).bind fun x16 =>
(bin .eql .int r14.1 x16).bind fun x17 =>
leave 0 [] [x17] r14.2) (
(bin .eql .int x9 (I 5)).bind fun x18 =>
cond x18 (
(ld true 13 r1.1 r7.2).bind fun x19 =>
(callA cfg O 114 [x19,a1] [] r7.2).bind fun r20 =>
leave 0 [] [r20.1] r20.2) (
(bin .eql .int x9 (I 6)).bind fun x21 =>
cond x21 (
cond x21 (
(ld true 13 r1.1 r7.2).bind fun x22 =>
(callA cfg O 115 [x22,a1] [] r7.2).bind fun r23 =>
leave 0 [] [r23.1] r23.2) (
(bin .eql .int x9 (I 9)).bind fun x24 =>
cond x24 (
(fldA 4 r6.1).bind fun x25 =>
(ld false 1 x25 r7.2).bind fun x26 =>
(bin .eql .int x26 (I 1)).bind fun x27 =>
cond x27 (
(ld true 13 r1.1 r7.2).bind fun x28 =>
(callA cfg O 116 [x28,a1] [] r7.2).bind fun r29 =>
leave 0 [] [r29.1] r29.2) (
(fldA 3 r1.1).bind fun x30 =>
(ld false 1 x30 r7.2).bind fun x31 =>
(fldA 1 r6.1).bind fun x32 =>
(ld false 1 x32 r7.2).bind fun x33 =>
(idxA 8 x31 x33).bind fun x34 =>
(ld true 8 x34 r7.2).bind fun x35 =>
(boxO [] [(I 0),(I 0),(I 0),(I 0),(I 0),(I 0),(I 0),(I 0)] r7.2).bind fun r36 =>
((stA 8 r36.1 x35 [] r36.2).map fun H' => (undefA,H')).bind fun r37 =>
(ld true 13 r1.1 r37.2).bind fun x38 =>
(callA cfg O 115 [x38,a1] [] r37.2).bind fun r39 =>
(gd r39.1 false (fldA 0 r36.1)).bind fun x40 =>
(gd r39.1 false (ld false 1 x40 r39.2)).bind fun x41 =>
(gd r39.1 false (bin .eql .int x41 (I 16))).bind fun x42 =>
(gd r39.1 false (some x42)).bind fun x43 =>
(gd x43 true (fldA 4 r36.1)).bind fun x44 =>
(gd x43 true (ld false 1 x44 r39.2)).bind fun x45 =>
(gd x43 true (fldA 4 r6.1)).bind fun x46 =>
(gd x43 true (ld false 1 x46 r39.2)).bind fun x47 =>
(gd x43 true (bin .eql .int x45 x47)).bind fun x48 =>
(gd r39.1 false (pickA x43 x48 (B false))).bind fun x49 =>
(pickA r39.1 (B true) x49).bind fun x50 =>
leave 0 [] [x50] r39.2)) (
leave 0 [] [B false] r7.2))) (
(bin .eql .int x9 (I 19)).bind fun x51 =>
cond x51 (
(ld true 13 r1.1 r7.2).bind fun x52 =>
(callA cfg O 115 [x52,a1] [] r7.2).bind fun r53 =>
leave 0 [] [r53.1] r53.2) (
(bin .eql .int x9 (I 9)).bind fun x54 =>
cond x54 (
(fldA 4 r6.1).bind fun x55 =>
(ld false 1 x55 r7.2).bind fun x56 =>
(bin .eql .int x56 (I 1)).bind fun x57 =>
cond x57 (
(ld true 13 r1.1 r7.2).bind fun x58 =>
(callA cfg O 116 [x58,a1] [] r7.2).bind fun r59 =>
leave 0 [] [r59.1] r59.2) (
(fldA 3 r1.1).bind fun x60 =>
(ld false 1 x60 r7.2).bind fun x61 =>
(fldA 1 r6.1).bind fun x62 =>
(ld false 1 x62 r7.2).bind fun x63 =>
(idxA 8 x61 x63).bind fun x64 =>
(ld true 8 x64 r7.2).bind fun x65 =>
(boxO [] [(I 0),(I 0),(I 0),(I 0),(I 0),(I 0),(I 0),(I 0)] r7.2).bind fun r66 =>
((stA 8 r66.1 x65 [] r66.2).map fun H' => (undefA,H')).bind fun r67 =>
(ld true 13 r1.1 r67.2).bind fun x68 =>
(callA cfg O 115 [x68,a1] [] r67.2).bind fun r69 =>
(gd r69.1 false (fldA 0 r66.1)).bind fun x70 =>
(gd r69.1 false (ld false 1 x70 r69.2)).bind fun x71 =>
(gd r69.1 false (bin .eql .int x71 (I 16))).bind fun x72 =>
(gd r69.1 false (some x72)).bind fun x73 =>
(gd x73 true (fldA 4 r66.1)).bind fun x74 =>
(gd x73 true (ld false 1 x74 r69.2)).bind fun x75 =>
(gd x73 true (fldA 4 r6.1)).bind fun x76 =>
(gd x73 true (ld false 1 x76 r69.2)).bind fun x77 =>
(gd x73 true (bin .eql .int x75 x77)).bind fun x78 =>
(gd r69.1 false (pickA x73 x78 (B false))).bind fun x79 =>
(pickA r69.1 (B true) x79).bind fun x80 =>
leave 0 [] [x80] r69.2)) (
leave 0 [] [B false] r7.2)))))) := by
  rw [O_ent]
  kernel_rfl
-- backstitch/backstitchref2.said
noncomputable def T69_17:List It := labAt Tryd.prog cfg 69 17 (fun _ => none)
noncomputable def L69_17 (vals:List AV) (lo:List Nat) (H:Heap):Res := O.lab 69 [2,3,5,7,8] (T69_17) vals lo H
noncomputable def T69_42:List It := labAt Tryd.prog cfg 69 42 (fun _ => none)
noncomputable def L69_42 (vals:List AV) (lo:List Nat) (H:Heap):Res := O.lab 69 [2,3,5,9,98,99,100] (T69_42) vals lo H
noncomputable def T69_54:List It := labAt Tryd.prog cfg 69 54 (fun _ => none)
noncomputable def L69_54 (vals:List AV) (lo:List Nat) (H:Heap):Res := O.lab 69 [2,3,5,9,12,111,112] (T69_54) vals lo H
noncomputable def T69_75:List It := labAt Tryd.prog cfg 69 75 (fun _ => none)
noncomputable def L69_75 (vals:List AV) (lo:List Nat) (H:Heap):Res := O.lab 69 [2,3,5,9,12,111,112] (T69_75) vals lo H
theorem L69_17_eq (lo:List Nat)(v2 v3 v5 v7 v8:AV)(H:Heap):L69_17 [v2,v3,v5,v7,v8] lo H = (
(fldA 0 v5).bind fun x1 =>
(ld false 1 x1 H).bind fun x2 =>
(bin .eql .int x2 (I 4)).bind fun x3 =>
cond x3 (
(fldA 4 v5).bind fun x4 =>
(ld false 1 x4 H).bind fun x5 =>
(bin .eql .int v8 x5).bind fun x6 =>
leave 0 lo [x6] H) (
(bin .eql .int x2 (I 5)).bind fun x7 =>
cond x7 (
(gd v7 false (some v8)).bind fun x8 =>
(gd v7 false (bin .eql .int x8 (I 0))).bind fun x9 =>
(gd v7 false (some x9)).bind fun x10 =>
(gd x10 true (fldA 4 v5)).bind fun x11 =>
(gd x10 true (ld false 1 x11 H)).bind fun x12 =>
(gd x10 true (bin .eql .int x12 (I 0))).bind fun x13 =>
(gd v7 false (pickA x10 x13 (B false))).bind fun x14 =>
(pickA v7 (B true) x14).bind fun x15 =>
(gd x15 false (some v8)).bind fun x16 =>
(gd x15 false (bin .geq .int x16 (I 2))).bind fun x17 =>
(gd x15 false (some x17)).bind fun x18 =>
(gd x18 true (fldA 4 v5)).bind fun x19 =>
(gd x18 true (ld false 1 x19 H)).bind fun x20 =>
(gd x18 true (bin .eql .int x20 (I 1))).bind fun x21 =>
(gd x15 false (pickA x18 x21 (B false))).bind fun x22 =>
(pickA x15 (B true) x22).bind fun x23 =>
leave 0 lo [x23] H) (
(bin .eql .int x2 (I 6)).bind fun x24 =>
cond x24 (
cond x24 (
leave 0 lo [v7] H) (
(bin .eql .int x2 (I 9)).bind fun x25 =>
cond x25 (
(fldA 4 v5).bind fun x26 =>
(ld false 1 x26 H).bind fun x27 =>
(bin .neq .int x27 (I 1)).bind fun x28 =>
cond x28 (
(gd v7 false (fldA 3 v2)).bind fun x29 =>
(gd v7 false (ld false 1 x29 H)).bind fun x30 =>
(gd v7 false (fldA 1 v5)).bind fun x31 =>
(gd v7 false (ld false 1 x31 H)).bind fun x32 =>
(gd v7 false (idxA 8 x30 x32)).bind fun x33 =>
(gd v7 false (fldA 0 x33)).bind fun x34 =>
(gd v7 false (ld false 1 x34 H)).bind fun x35 =>
(gd v7 false (bin .eql .int x35 (I 16))).bind fun x36 =>
(gd v7 false (some x36)).bind fun x37 =>
(gd x37 true (fldA 3 v2)).bind fun x38 =>
(gd x37 true (ld false 1 x38 H)).bind fun x39 =>
(gd x37 true (fldA 1 v5)).bind fun x40 =>
(gd x37 true (ld false 1 x40 H)).bind fun x41 =>
(gd x37 true (idxA 8 x39 x41)).bind fun x42 =>
(gd x37 true (fldA 4 x42)).bind fun x43 =>
(gd x37 true (ld false 1 x43 H)).bind fun x44 =>
(gd x37 true (fldA 4 v5)).bind fun x45 =>
(gd x37 true (ld false 1 x45 H)).bind fun x46 =>
(gd x37 true (bin .eql .int x44 x46)).bind fun x47 =>
(gd v7 false (pickA x37 x47 (B false))).bind fun x48 =>
(pickA v7 (B true) x48).bind fun x49 =>
leave 0 lo [x49] H) (
(fldA 3 v2).bind fun x50 =>
(ld false 1 x50 H).bind fun x51 =>
(fldA 2 v2).bind fun x52 =>
(ld false 1 x52 H).bind fun x53 =>
(cutA 8 x51 (some x53) none none H).bind fun x54 =>
(lenA .slice x54 H).bind fun x55 =>
L69_42 [v2,v3,v5,B false,x54,x55,I 0] lo H)) (
leave 0 lo [B false] H))) (
(bin .eql .int x2 (I 19)).bind fun x56 =>
cond x56 (
leave 0 lo [v7] H) (
(bin .eql .int x2 (I 9)).bind fun x57 =>
cond x57 (
(fldA 4 v5).bind fun x58 =>
(ld false 1 x58 H).bind fun x59 =>
(bin .neq .int x59 (I 1)).bind fun x60 =>
cond x60 (
(gd v7 false (fldA 3 v2)).bind fun x61 =>
(gd v7 false (ld false 1 x61 H)).bind fun x62 =>
(gd v7 false (fldA 1 v5)).bind fun x63 =>
(gd v7 false (ld false 1 x63 H)).bind fun x64 =>
(gd v7 false (idxA 8 x62 x64)).bind fun x65 =>
(gd v7 false (fldA 0 x65)).bind fun x66 =>
(gd v7 false (ld false 1 x66 H)).bind fun x67 =>
(gd v7 false (bin .eql .int x67 (I 16))).bind fun x68 =>
(gd v7 false (some x68)).bind fun x69 =>
(gd x69 true (fldA 3 v2)).bind fun x70 =>
(gd x69 true (ld false 1 x70 H)).bind fun x71 =>
(gd x69 true (fldA 1 v5)).bind fun x72 =>
(gd x69 true (ld false 1 x72 H)).bind fun x73 =>
(gd x69 true (idxA 8 x71 x73)).bind fun x74 =>
(gd x69 true (fldA 4 x74)).bind fun x75 =>
(gd x69 true (ld false 1 x75 H)).bind fun x76 =>
(gd x69 true (fldA 4 v5)).bind fun x77 =>
(gd x69 true (ld false 1 x77 H)).bind fun x78 =>
(gd x69 true (bin .eql .int x76 x78)).bind fun x79 =>
(gd v7 false (pickA x69 x79 (B false))).bind fun x80 =>
(pickA v7 (B true) x80).bind fun x81 =>
leave 0 lo [x81] H) (
(fldA 3 v2).bind fun x82 =>
(ld false 1 x82 H).bind fun x83 =>
(fldA 2 v2).bind fun x84 =>
(ld false 1 x84 H).bind fun x85 =>
(cutA 8 x83 (some x85) none none H).bind fun x86 =>
(lenA .slice x86 H).bind fun x87 =>
L69_42 [v2,v3,v5,B false,x86,x87,I 0] lo H)) (
leave 0 lo [B false] H)))))) := by
  show O.lab _ _ _ _ _ _ = _
  rw [O_lab]
  kernel_rfl
theorem L69_42_eq (lo:List Nat)(v2 v3 v5 v9 v98 v99 v100:AV)(H:Heap):L69_42 [v2,v3,v5,v9,v98,v99,v100] lo H = (
(bin .lss .int v100 v99).bind fun x1 =>
cond x1 (
(idxA 8 v98 v100).bind fun x2 =>
(ld true 8 x2 H).bind fun x3 =>
(boxO [] [(I 0),(I 0),(I 0),(I 0),(I 0),(I 0),(I 0),(I 0)] H).bind fun r4 =>
((stA 8 r4.1 x3 lo r4.2).map fun H' => (undefA,H')).bind fun r5 =>
(gd v9 false (fldA 0 r4.1)).bind fun x6 =>
(gd v9 false (ld false 1 x6 r5.2)).bind fun x7 =>
(gd v9 false (bin .eql .int x7 (I 12))).bind fun x8 =>
(pickA v9 (B true) x8).bind fun x9 =>
(bin .add .int v100 (I 1)).bind fun x10 =>
L69_42 [v2,v3,v5,x9,v98,v99,x10] lo r5.2) (
(ld false 1 v3 H).bind fun x11 =>
L69_54 [v2,v3,v5,v9,B false,x11,I 0] lo H)) := by
  show O.lab _ _ _ _ _ _ = _
  rw [O_lab]
  kernel_rfl
theorem L69_54_eq (lo:List Nat)(v2 v3 v5 v9 v12 v111 v112:AV)(H:Heap):L69_54 [v2,v3,v5,v9,v12,v111,v112] lo H = (
(bin .lss .int v112 v111).bind fun x1 =>
cond x1 (
(gd v9 true (ld false 1 v3 H)).bind fun x2 =>
(gd v9 true (fldA 2 v2)).bind fun x3 =>
(gd v9 true (ld false 1 x3 H)).bind fun x4 =>
(gd v9 true (bin .geq .int x2 x4)).bind fun x5 =>
(pickA v9 x5 (B false)).bind fun x6 =>
(gd x6 true (some v112)).bind fun x7 =>
(gd x6 true (fldA 2 v2)).bind fun x8 =>
(gd x6 true (ld false 1 x8 H)).bind fun x9 =>
(gd x6 true (bin .lss .int x7 x9)).bind fun x10 =>
(pickA x6 x10 (B false)).bind fun x11 =>
cond x11 (
L69_75 [v2,v3,v5,v9,v12,v111,v112] lo H) (
(fldA 3 v2).bind fun x12 =>
(ld false 1 x12 H).bind fun x13 =>
(idxA 8 x13 v112).bind fun x14 =>
(ld true 8 x14 H).bind fun x15 =>
(boxO [] [(I 0),(I 0),(I 0),(I 0),(I 0),(I 0),(I 0),(I 0)] H).bind fun r16 =>
((stA 8 r16.1 x15 lo r16.2).map fun H' => (undefA,H')).bind fun r17 =>
(fldA 0 r16.1).bind fun x18 =>
(ld false 1 x18 r17.2).bind fun x19 =>
(bin .eql .int x19 (I 9)).bind fun x20 =>
(gd x20 true (fldA 4 r16.1)).bind fun x21 =>
(gd x20 true (ld false 1 x21 r17.2)).bind fun x22 =>
(gd x20 true (bin .eql .int x22 (I 1))).bind fun x23 =>
(pickA x20 x23 (B false)).bind fun x24 =>
(gd x24 true (fldA 1 r16.1)).bind fun x25 =>
(gd x24 true (ld false 1 x25 r17.2)).bind fun x26 =>
(gd x24 true (fldA 1 v5)).bind fun x27 =>
(gd x24 true (ld false 1 x27 r17.2)).bind fun x28 =>
(gd x24 true (bin .eql .int x26 x28)).bind fun x29 =>
(pickA x24 x29 (B false)).bind fun x30 =>
cond x30 (
(fldA 2 r16.1).bind fun x31 =>
(ld false 1 x31 r17.2).bind fun x32 =>
(fldA 2 v5).bind fun x33 =>
(ld false 1 x33 r17.2).bind fun x34 =>
(bin .eql .int x32 x34).bind fun x35 =>
L69_75 [v2,v3,v5,v9,x35,v111,v112] lo r17.2) (
(fldA 0 r16.1).bind fun x36 =>
(ld false 1 x36 r17.2).bind fun x37 =>
(bin .eql .int x37 (I 16)).bind fun x38 =>
(gd x38 true (fldA 4 r16.1)).bind fun x39 =>
(gd x38 true (ld false 1 x39 r17.2)).bind fun x40 =>
(gd x38 true (bin .eql .int x40 (I 1))).bind fun x41 =>
(pickA x38 x41 (B false)).bind fun x42 =>
(gd x42 true (some v112)).bind fun x43 =>
(gd x42 true (fldA 1 v5)).bind fun x44 =>
(gd x42 true (ld false 1 x44 r17.2)).bind fun x45 =>
(gd x42 true (bin .eql .int x43 x45)).bind fun x46 =>
(pickA x42 x46 (B false)).bind fun x47 =>
cond x47 (
(fldA 2 v5).bind fun x48 =>
(ld false 1 x48 r17.2).bind fun x49 =>
(bin .eql .int x49 (I 0)).bind fun x50 =>
L69_75 [v2,v3,v5,v9,x50,v111,v112] lo r17.2) (
(fldA 0 r16.1).bind fun x51 =>
(ld false 1 x51 r17.2).bind fun x52 =>
(bin .eql .int x52 (I 12)).bind fun x53 =>
cond x53 (
(fldA 1 r16.1).bind fun x54 =>
(ld false 1 x54 r17.2).bind fun x55 =>
(fldA 1 v5).bind fun x56 =>
(ld false 1 x56 r17.2).bind fun x57 =>
(bin .eql .int x55 x57).bind fun x58 =>
(gd x58 true (fldA 4 r16.1)).bind fun x59 =>
(gd x58 true (ld false 1 x59 r17.2)).bind fun x60 =>
(gd x58 true (fldA 2 v5)).bind fun x61 =>
(gd x58 true (ld false 1 x61 r17.2)).bind fun x62 =>
(gd x58 true (bin .eql .int x60 x62)).bind fun x63 =>
(pickA x58 x63 (B false)).bind fun x64 =>
L69_75 [v2,v3,v5,v9,x64,v111,v112] lo r17.2) (
L69_75 [v2,v3,v5,v9,v12,v111,v112] lo r17.2))))) (
leave 0 lo [v12] H)) := by
  show O.lab _ _ _ _ _ _ = _
  rw [O_lab]
  kernel_rfl
theorem L69_75_eq (lo:List Nat)(v2 v3 v5 v9 v12 v111 v112:AV)(H:Heap):L69_75 [v2,v3,v5,v9,v12,v111,v112] lo H = (
(bin .add .int v112 (I 1)).bind fun x1 =>
L69_54 [v2,v3,v5,v9,v12,v111,x1] lo H) := by
  show O.lab _ _ _ _ _ _ = _
  rw [O_lab]
  kernel_rfl
theorem f69_eq (a0 a1:AV):O.ent 69 [a0,a1] [] [] = (
(boxO [] (AV.cells a0) []).bind fun r1 =>
(boxO [] (AV.cells a1) r1.2).bind fun r2 =>
(fldA 3 r1.1).bind fun x3 =>
(ld false 1 x3 r2.2).bind fun x4 =>
(ld false 1 r2.1 r2.2).bind fun x5 =>
(idxA 8 x4 x5).bind fun x6 =>
(ld true 8 x6 r2.2).bind fun x7 =>
(boxO [] [(I 0),(I 0),(I 0),(I 0),(I 0),(I 0),(I 0),(I 0)] r2.2).bind fun r8 =>
((stA 8 r8.1 x7 [] r8.2).map fun H' => (undefA,H')).bind fun r9 =>
(callV cfg O (.fn 117 [] [r2.1,r1.1]) [.fn 118 [] [r8.1]] [] r9.2).bind fun r10 =>
(fldA 0 r8.1).bind fun x11 =>
(ld false 1 x11 r10.2).bind fun x12 =>
(callA cfg O 41 [x12] [] r10.2).bind fun r13 =>
(bin .gtr .int r13.1 (I 0)).bind fun x14 =>
cond x14 (
(ld true 13 r1.1 r13.2).bind fun x15 =>
(fldA 1 r8.1).bind fun x16 =>
(ld false 1 x16 r13.2).bind fun x17 =>
(ld false 1 r2.1 r13.2).bind fun x18 =>
(callA cfg O 23 [x15,x17,x18] [] r13.2).bind fun r19 =>
L69_17 [r1.1,r2.1,r8.1,r10.1,r19.1] [] r19.2) (
L69_17 [r1.1,r2.1,r8.1,r10.1,I (-1)] [] r13.2)) := by
  rw [O_ent]
  kernel_rfl
-- backstitch/facts.truth
noncomputable def T114_29:List It := labAt Tryd.prog cfg 114 29 (fun _ => none)
noncomputable def L114_29 (vals:List AV) (lo:List Nat) (H:Heap):Res := O.lab 114 [1,2] (T114_29) vals lo H
theorem L114_29_eq (lo:List Nat)(v1 v2:AV)(H:Heap):L114_29 [v1,v2] lo H = (
(ld true 13 v2 H).bind fun x1 =>
(callA cfg O 115 [x1,v1] lo H).bind fun r2 =>
leave 0 lo [r2.1] r2.2) := by
  show O.lab _ _ _ _ _ _ = _
  rw [O_lab]
  kernel_rfl
theorem f114_eq (a0 a1:AV):O.ent 114 [a0,a1] [] [] = (
(boxO [] (AV.cells a0) []).bind fun r1 =>
(fldA 3 r1.1).bind fun x2 =>
(ld false 1 x2 r1.2).bind fun x3 =>
(idxA 8 x3 a1).bind fun x4 =>
(ld true 8 x4 r1.2).bind fun x5 =>
(boxO [] [(I 0),(I 0),(I 0),(I 0),(I 0),(I 0),(I 0),(I 0)] r1.2).bind fun r6 =>
((stA 8 r6.1 x5 [] r6.2).map fun H' => (undefA,H')).bind fun r7 =>
(ld true 13 r1.1 r7.2).bind fun x8 =>
(fldA 1 r6.1).bind fun x9 =>
(ld false 1 x9 r7.2).bind fun x10 =>
(callA cfg O 22 [x8,x10,a1] [] r7.2).bind fun r11 =>
(bin .eql .int r11.1 (I 0)).bind fun x12 =>
cond x12 (
(fldA 4 r6.1).bind fun x13 =>
(ld false 1 x13 r11.2).bind fun x14 =>
(bin .eql .int x14 (I 0)).bind fun x15 =>
cond x15 (
leave 0 [] [B true] r11.2) (
L114_29 [a1,r1.1] [] r11.2)) (
(bin .eql .int r11.1 (I 2)).bind fun x16 =>
cond x16 (
cond x16 (
(fldA 4 r6.1).bind fun x17 =>
(ld false 1 x17 r11.2).bind fun x18 =>
(bin .eql .int x18 (I 1)).bind fun x19 =>
cond x19 (
leave 0 [] [B true] r11.2) (
L114_29 [a1,r1.1] [] r11.2)) (
L114_29 [a1,r1.1] [] r11.2)) (
(bin .eql .int r11.1 (I 3)).bind fun x20 =>
cond x20 (
cond x20 (
(fldA 4 r6.1).bind fun x21 =>
(ld false 1 x21 r11.2).bind fun x22 =>
(bin .eql .int x22 (I 1)).bind fun x23 =>
cond x23 (
leave 0 [] [B true] r11.2) (
L114_29 [a1,r1.1] [] r11.2)) (
L114_29 [a1,r1.1] [] r11.2)) (
(bin .eql .int r11.1 (I 4)).bind fun x24 =>
cond x24 (
cond x24 (
(fldA 4 r6.1).bind fun x25 =>
(ld false 1 x25 r11.2).bind fun x26 =>
(bin .eql .int x26 (I 1)).bind fun x27 =>
cond x27 (
leave 0 [] [B true] r11.2) (
L114_29 [a1,r1.1] [] r11.2)) (
L114_29 [a1,r1.1] [] r11.2)) (
(bin .eql .int r11.1 (I 5)).bind fun x28 =>
cond x28 (
cond x28 (
(fldA 4 r6.1).bind fun x29 =>
(ld false 1 x29 r11.2).bind fun x30 =>
(bin .eql .int x30 (I 1)).bind fun x31 =>
cond x31 (
leave 0 [] [B true] r11.2) (
L114_29 [a1,r1.1] [] r11.2)) (
L114_29 [a1,r1.1] [] r11.2)) (
(bin .eql .int r11.1 (I 6)).bind fun x32 =>
cond x32 (
(fldA 4 r6.1).bind fun x33 =>
(ld false 1 x33 r11.2).bind fun x34 =>
(bin .eql .int x34 (I 1)).bind fun x35 =>
cond x35 (
leave 0 [] [B true] r11.2) (
L114_29 [a1,r1.1] [] r11.2)) (
L114_29 [a1,r1.1] [] r11.2))))))) := by
  rw [O_ent]
  kernel_rfl
-- backstitch/facts.same
theorem f115_eq (a0 a1:AV):O.ent 115 [a0,a1] [] [] = (
(boxO [] (AV.cells a0) []).bind fun r1 =>
(fldA 3 r1.1).bind fun x2 =>
(ld false 1 x2 r1.2).bind fun x3 =>
(idxA 8 x3 a1).bind fun x4 =>
(ld true 8 x4 r1.2).bind fun x5 =>
(boxO [] [(I 0),(I 0),(I 0),(I 0),(I 0),(I 0),(I 0),(I 0)] r1.2).bind fun r6 =>
((stA 8 r6.1 x5 [] r6.2).map fun H' => (undefA,H')).bind fun r7 =>
(fldA 3 r1.1).bind fun x8 =>
(ld false 1 x8 r7.2).bind fun x9 =>
(cutA 8 x9 none (some a1) none r7.2).bind fun x10 =>
(callA cfg O 148 [x10,.fn 149 [] [r6.1]] [] r7.2).bind fun r11 =>
leave 0 [] [r11.1] r11.2) := by
  rw [O_ent]
  kernel_rfl
-- backstitch/facts.shaped
noncomputable def T116_8:List It := labAt Tryd.prog cfg 116 8 (fun _ => none)
noncomputable def L116_8 (vals:List AV) (lo:List Nat) (H:Heap):Res := O.lab 116 [1,2,5,6] (T116_8) vals lo H
theorem L116_8_eq (lo:List Nat)(v1 v2 v5 v6:AV)(H:Heap):L116_8 [v1,v2,v5,v6] lo H = (
(ld true 13 v2 H).bind fun x1 =>
(callA cfg O 150 [x1,v1] lo H).bind fun r2 =>
(bin .geq .int v6 r2.1).bind fun x3 =>
cond x3 (
(fldA 3 v2).bind fun x4 =>
(ld false 1 x4 r2.2).bind fun x5 =>
(idxA 8 x5 v6).bind fun x6 =>
(ld true 8 x6 r2.2).bind fun x7 =>
(boxO [] [(I 0),(I 0),(I 0),(I 0),(I 0),(I 0),(I 0),(I 0)] r2.2).bind fun r8 =>
((stA 8 r8.1 x7 lo r8.2).map fun H' => (undefA,H')).bind fun r9 =>
(fldA 0 r8.1).bind fun x10 =>
(ld false 1 x10 r9.2).bind fun x11 =>
(bin .eql .int x11 (I 9)).bind fun x12 =>
(gd x12 true (fldA 1 r8.1)).bind fun x13 =>
(gd x12 true (ld false 1 x13 r9.2)).bind fun x14 =>
(gd x12 true (fldA 1 v5)).bind fun x15 =>
(gd x12 true (ld false 1 x15 r9.2)).bind fun x16 =>
(gd x12 true (bin .eql .int x14 x16)).bind fun x17 =>
(pickA x12 x17 (B false)).bind fun x18 =>
(gd x18 true (fldA 4 r8.1)).bind fun x19 =>
(gd x18 true (ld false 1 x19 r9.2)).bind fun x20 =>
(gd x18 true (bin .eql .int x20 (I 1))).bind fun x21 =>
(pickA x18 x21 (B false)).bind fun x22 =>
cond x22 (
(fldA 2 r8.1).bind fun x23 =>
(ld false 1 x23 r9.2).bind fun x24 =>
(fldA 2 v5).bind fun x25 =>
(ld false 1 x25 r9.2).bind fun x26 =>
(bin .eql .int x24 x26).bind fun x27 =>
leave 0 lo [x27] r9.2) (
(fldA 0 r8.1).bind fun x28 =>
(ld false 1 x28 r9.2).bind fun x29 =>
(bin .eql .int x29 (I 16)).bind fun x30 =>
(gd x30 true (some v6)).bind fun x31 =>
(gd x30 true (fldA 1 v5)).bind fun x32 =>
(gd x30 true (ld false 1 x32 r9.2)).bind fun x33 =>
(gd x30 true (bin .eql .int x31 x33)).bind fun x34 =>
(pickA x30 x34 (B false)).bind fun x35 =>
(gd x35 true (fldA 4 r8.1)).bind fun x36 =>
(gd x35 true (ld false 1 x36 r9.2)).bind fun x37 =>
(gd x35 true (bin .eql .int x37 (I 1))).bind fun x38 =>
(pickA x35 x38 (B false)).bind fun x39 =>
cond x39 (
(fldA 2 v5).bind fun x40 =>
(ld false 1 x40 r9.2).bind fun x41 =>
(bin .eql .int x41 (I 0)).bind fun x42 =>
leave 0 lo [x42] r9.2) (
(fldA 0 r8.1).bind fun x43 =>
(ld false 1 x43 r9.2).bind fun x44 =>
(bin .eql .int x44 (I 12)).bind fun x45 =>
cond x45 (
(fldA 1 r8.1).bind fun x46 =>
(ld false 1 x46 r9.2).bind fun x47 =>
(fldA 1 v5).bind fun x48 =>
(ld false 1 x48 r9.2).bind fun x49 =>
(bin .eql .int x47 x49).bind fun x50 =>
(gd x50 true (fldA 4 r8.1)).bind fun x51 =>
(gd x50 true (ld false 1 x51 r9.2)).bind fun x52 =>
(gd x50 true (fldA 2 v5)).bind fun x53 =>
(gd x50 true (ld false 1 x53 r9.2)).bind fun x54 =>
(gd x50 true (bin .eql .int x52 x54)).bind fun x55 =>
(pickA x50 x55 (B false)).bind fun x56 =>
leave 0 lo [x56] r9.2) (
(bin .sub .int v6 (I 1)).bind fun x57 =>
L116_8 [v1,v2,v5,x57] lo r9.2)))) (
leave 0 lo [B false] r2.2)) := by
  show O.lab _ _ _ _ _ _ = _
  rw [O_lab]
  kernel_rfl
theorem f116_eq (a0 a1:AV):O.ent 116 [a0,a1] [] [] = (
(boxO [] (AV.cells a0) []).bind fun r1 =>
(fldA 3 r1.1).bind fun x2 =>
(ld false 1 x2 r1.2).bind fun x3 =>
(idxA 8 x3 a1).bind fun x4 =>
(ld true 8 x4 r1.2).bind fun x5 =>
(boxO [] [(I 0),(I 0),(I 0),(I 0),(I 0),(I 0),(I 0),(I 0)] r1.2).bind fun r6 =>
((stA 8 r6.1 x5 [] r6.2).map fun H' => (undefA,H')).bind fun r7 =>
(bin .sub .int a1 (I 1)).bind fun x8 =>
L116_8 [a1,r1.1,r6.1,x8] [] r7.2) := by
  rw [O_ent]
  kernel_rfl
-- backstitch/backstitchref2.said$1
noncomputable def T117_6:List It := labAt Tryd.prog cfg 117 6 (fun _ => none)
noncomputable def L117_6 (vals:List AV) (lo:List Nat) (H:Heap):Res := O.lab 117 [0,2,6,7] (T117_6) vals lo H
theorem L117_6_eq (lo:List Nat)(v0 v2 v6 v7:AV)(H:Heap):L117_6 [v0,v2,v6,v7] lo H = (
(bin .lss .int v7 v6).bind fun x1 =>
cond x1 (
(fldA 3 v2).bind fun x2 =>
(ld false 1 x2 H).bind fun x3 =>
(idxA 8 x3 v7).bind fun x4 =>
(ld true 8 x4 H).bind fun x5 =>
(callV cfg O v0 [v7,x5] lo H).bind fun r6 =>
cond r6.1 (
leave 3 lo [B true] r6.2) (
(bin .add .int v7 (I 1)).bind fun x7 =>
L117_6 [v0,v2,v6,x7] lo r6.2)) (
leave 3 lo [B false] H)) := by
  show O.lab _ _ _ _ _ _ = _
  rw [O_lab]
  kernel_rfl
theorem f117_eq (a0 a1 a2:AV)(lo:List Nat)(H:Heap):O.ent 117 [a0,a1,a2] lo H = (
(ld false 1 a1 H).bind fun x1 =>
L117_6 [a0,a2,x1,I 0] (List.length H :: lo) H) := by
  rw [O_ent]
  kernel_rfl
-- backstitch/backstitchref2.said$2
theorem f118_eq (a0 a1 a2:AV)(lo:List Nat)(H:Heap):O.ent 118 [a0,a1,a2] lo H = (
(boxO [] (AV.cells a1) H).bind fun r1 =>
(fldA 0 r1.1).bind fun x2 =>
(ld false 1 x2 r1.2).bind fun x3 =>
(fldA 0 a2).bind fun x4 =>
(ld false 1 x4 r1.2).bind fun x5 =>
(bin .eql .int x3 x5).bind fun x6 =>
(gd x6 true (fldA 1 r1.1)).bind fun x7 =>
(gd x6 true (ld false 1 x7 r1.2)).bind fun x8 =>
(gd x6 true (fldA 1 a2)).bind fun x9 =>
(gd x6 true (ld false 1 x9 r1.2)).bind fun x10 =>
(gd x6 true (bin .eql .int x8 x10)).bind fun x11 =>
(pickA x6 x11 (B false)).bind fun x12 =>
(gd x12 true (fldA 2 r1.1)).bind fun x13 =>
(gd x12 true (ld false 1 x13 r1.2)).bind fun x14 =>
(gd x12 true (fldA 2 a2)).bind fun x15 =>
(gd x12 true (ld false 1 x15 r1.2)).bind fun x16 =>
(gd x12 true (bin .eql .int x14 x16)).bind fun x17 =>
(pickA x12 x17 (B false)).bind fun x18 =>
(gd x18 true (fldA 4 r1.1)).bind fun x19 =>
(gd x18 true (ld false 1 x19 r1.2)).bind fun x20 =>
(gd x18 true (fldA 4 a2)).bind fun x21 =>
(gd x18 true (ld false 1 x21 r1.2)).bind fun x22 =>
(gd x18 true (bin .eql .int x20 x22)).bind fun x23 =>
(pickA x18 x23 (B false)).bind fun x24 =>
(gd x24 true (fldA 6 r1.1)).bind fun x25 =>
(gd x24 true (ld true 2 x25 r1.2)).bind fun x26 =>
(gd x24 true (fldA 6 a2)).bind fun x27 =>
(gd x24 true (ld true 2 x27 r1.2)).bind fun x28 =>
(gd x24 true (bin .eql (.agg 2 [(0,.int),(1,.int)]) x26 x28)).bind fun x29 =>
(pickA x24 x29 (B false)).bind fun x30 =>
leave 3 (List.length H :: lo) [x30] r1.2) := by
  rw [O_ent]
  kernel_rfl
-- slices.ContainsFunc[[]backstitch/api.TIns,backstitch/api.TIns]
theorem f148_eq (a0 a1:AV)(lo:List Nat)(H:Heap):O.ent 148 [a0,a1] lo H = (
(callA cfg O 167 [a0,a1] (List.length H :: lo) H).bind fun r1 =>
(bin .geq .int r1.1 (I 0)).bind fun x2 =>
leave 3 (List.length H :: lo) [x2] r1.2) := by
  rw [O_ent]
  kernel_rfl
-- backstitch/facts.same$1
theorem f149_eq (a0 a1:AV)(lo:List Nat)(H:Heap):O.ent 149 [a0,a1] lo H = (
(boxO [] (AV.cells a0) H).bind fun r1 =>
(fldA 0 r1.1).bind fun x2 =>
(ld false 1 x2 r1.2).bind fun x3 =>
(fldA 0 a1).bind fun x4 =>
(ld false 1 x4 r1.2).bind fun x5 =>
(bin .eql .int x3 x5).bind fun x6 =>
(gd x6 true (fldA 1 r1.1)).bind fun x7 =>
(gd x6 true (ld false 1 x7 r1.2)).bind fun x8 =>
(gd x6 true (fldA 1 a1)).bind fun x9 =>
(gd x6 true (ld false 1 x9 r1.2)).bind fun x10 =>
(gd x6 true (bin .eql .int x8 x10)).bind fun x11 =>
(pickA x6 x11 (B false)).bind fun x12 =>
(gd x12 true (fldA 2 r1.1)).bind fun x13 =>
(gd x12 true (ld false 1 x13 r1.2)).bind fun x14 =>
(gd x12 true (fldA 2 a1)).bind fun x15 =>
(gd x12 true (ld false 1 x15 r1.2)).bind fun x16 =>
(gd x12 true (bin .eql .int x14 x16)).bind fun x17 =>
(pickA x12 x17 (B false)).bind fun x18 =>
(gd x18 true (fldA 4 r1.1)).bind fun x19 =>
(gd x18 true (ld false 1 x19 r1.2)).bind fun x20 =>
(gd x18 true (fldA 4 a1)).bind fun x21 =>
(gd x18 true (ld false 1 x21 r1.2)).bind fun x22 =>
(gd x18 true (bin .eql .int x20 x22)).bind fun x23 =>
(pickA x18 x23 (B false)).bind fun x24 =>
(gd x24 true (fldA 6 r1.1)).bind fun x25 =>
(gd x24 true (ld true 2 x25 r1.2)).bind fun x26 =>
(gd x24 true (fldA 6 a1)).bind fun x27 =>
(gd x24 true (ld true 2 x27 r1.2)).bind fun x28 =>
(gd x24 true (bin .eql (.agg 2 [(0,.int),(1,.int)]) x26 x28)).bind fun x29 =>
(pickA x24 x29 (B false)).bind fun x30 =>
leave 3 (List.length H :: lo) [x30] r1.2) := by
  rw [O_ent]
  kernel_rfl
-- backstitch/facts.from
theorem f150_eq (a0 a1:AV):O.ent 150 [a0,a1] [] [] = (
(boxO [] (AV.cells a0) []).bind fun r1 =>
(fldA 2 r1.1).bind fun x2 =>
(ld false 1 x2 r1.2).bind fun x3 =>
(bin .geq .int a1 x3).bind fun x4 =>
(gd x4 true (fldA 3 r1.1)).bind fun x5 =>
(gd x4 true (ld false 1 x5 r1.2)).bind fun x6 =>
(gd x4 true (fldA 2 r1.1)).bind fun x7 =>
(gd x4 true (ld false 1 x7 r1.2)).bind fun x8 =>
(gd x4 true (cutA 8 x6 (some x8) none none r1.2)).bind fun x9 =>
(gdH x4 true (callA cfg O 148 [x9,.fn 168 [] []] [] r1.2) r1.2).bind fun r10 =>
(pickA x4 r10.1 (B false)).bind fun x11 =>
cond x11 (
(fldA 2 r1.1).bind fun x12 =>
(ld false 1 x12 r10.2).bind fun x13 =>
leave 0 [] [x13] r10.2) (
leave 0 [] [I 0] r10.2)) := by
  rw [O_ent]
  kernel_rfl
-- slices.IndexFunc[[]backstitch/api.TIns,backstitch/api.TIns]
noncomputable def T167_6:List It := labAt Tryd.prog cfg 167 6 (fun _ => none)
noncomputable def L167_6 (vals:List AV) (lo:List Nat) (H:Heap):Res := O.lab 167 [0,1,7,8] (T167_6) vals lo H
theorem L167_6_eq (lo:List Nat)(v0 v1 v7 v8:AV)(H:Heap):L167_6 [v0,v1,v7,v8] lo H = (
(bin .lss .int v8 v7).bind fun x1 =>
cond x1 (
(idxA 8 v0 v8).bind fun x2 =>
(ld true 8 x2 H).bind fun x3 =>
(callV cfg O v1 [x3] lo H).bind fun r4 =>
cond r4.1 (
leave 3 lo [v8] r4.2) (
(bin .add .int v8 (I 1)).bind fun x5 =>
L167_6 [v0,v1,v7,x5] lo r4.2)) (
leave 3 lo [I (-1)] H)) := by
  show O.lab _ _ _ _ _ _ = _
  rw [O_lab]
  kernel_rfl
theorem f167_eq (a0 a1:AV)(lo:List Nat)(H:Heap):O.ent 167 [a0,a1] lo H = (
(lenA .slice a0 H).bind fun x1 =>
L167_6 [a0,a1,x1,I 0] (List.length H :: lo) H) := by
  rw [O_ent]
  kernel_rfl
-- backstitch/facts.from$1
theorem f168_eq (a0:AV)(lo:List Nat)(H:Heap):O.ent 168 [a0] lo H = (
(boxO [] (AV.cells a0) H).bind fun r1 =>
(fldA 0 r1.1).bind fun x2 =>
(ld false 1 x2 r1.2).bind fun x3 =>
(bin .eql .int x3 (I 12)).bind fun x4 =>
leave 3 (List.length H :: lo) [x4] r1.2) := by
  rw [O_ent]
  kernel_rfl
end Go.Proofs.YtnjfpnoamgipjaaDoor

