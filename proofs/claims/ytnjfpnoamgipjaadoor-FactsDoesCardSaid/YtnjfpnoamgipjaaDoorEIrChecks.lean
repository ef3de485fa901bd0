import Derived.Test.YtnjfpnoamgipjaaDoorCf
set_option linter.unusedVariables false
set_option maxRecDepth 100000
namespace Go.Proofs.YtnjfpnoamgipjaaDoor
open Go Go.AM
-- backstitch/backstitchlaw2.IrChecks
-- backstitch/backstitchref2.Asks
-- backstitch/ir.Check
noncomputable def T19_22:List It := labAt Tryd.prog cfg 19 22 (fun _ => none)
noncomputable def L19_22 (vals:List AV) (lo:List Nat) (H:Heap):Res := O.lab 19 [3,6,81,82,83] (T19_22) vals lo H
noncomputable def T19_50:List It := labAt Tryd.prog cfg 19 50 (fun _ => none)
noncomputable def L19_50 (vals:List AV) (lo:List Nat) (H:Heap):Res := O.lab 19 [3,6,151,152,153] (T19_50) vals lo H
theorem L19_22_eq (lo:List Nat)(v3 v6 v81 v82 v83:AV)(H:Heap):L19_22 [v3,v6,v81,v82,v83] lo H = (
(bin .lss .int v83 v82).bind fun x1 =>
cond x1 (
(idxA 8 v81 v83).bind fun x2 =>
(ld true 8 x2 H).bind fun x3 =>
(boxO [] [(I 0),(I 0),(I 0),(I 0),(I 0),(I 0),(I 0),(I 0)] H).bind fun r4 =>
((stA 8 r4.1 x3 lo r4.2).map fun H' => (undefA,H')).bind fun r5 =>
(fldA 0 r4.1).bind fun x6 =>
(ld false 1 x6 r5.2).bind fun x7 =>
(callA cfg O 40 [x7] lo r5.2).bind fun r8 =>
(extractA r8.1 0).bind fun x9 =>
(extractA r8.1 1).bind fun x10 =>
(boxO [] [(I 0),(I 0),(I 0),(B false),(B false),(I 0)] r8.2).bind fun r11 =>
((stA 6 r11.1 x9 lo r11.2).map fun H' => (undefA,H')).bind fun r12 =>
(un .not x10).bind fun x13 =>
cond x13 (
leave 0 lo [I 7] r12.2) (
(ld true 18 v6 r12.2).bind fun x14 =>
(ld true 6 r11.1 r12.2).bind fun x15 =>
(ld true 8 r4.1 r12.2).bind fun x16 =>
(callA cfg O 48 [x14,x15,x16,v83] lo r12.2).bind fun r17 =>
(un .not r17.1).bind fun x18 =>
cond x18 (
leave 0 lo [I 3] r17.2) (
(bin .add .int v83 (I 1)).bind fun x19 =>
L19_22 [v3,v6,v81,v82,x19] lo r17.2))) (
(fldA 2 v3).bind fun x20 =>
(ld false 1 x20 H).bind fun x21 =>
(bin .eql .int x21 (I 0)).bind fun x22 =>
(gd x22 true (fldA 5 v3)).bind fun x23 =>
(gd x22 true (ld true 4 x23 H)).bind fun x24 =>
(gdH x22 true (callA cfg O 49 [x24] lo H) H).bind fun r25 =>
(gd x22 true (un .not r25.1)).bind fun x26 =>
(pickA x22 x26 (B false)).bind fun x27 =>
cond x27 (
cond x27 (
leave 0 lo [I 3] r25.2) (
(fldA 9 v3).bind fun x28 =>
(fldA 0 x28).bind fun x29 =>
(ld false 1 x29 r25.2).bind fun x30 =>
(fldA 1 v3).bind fun x31 =>
(ld false 1 x31 r25.2).bind fun x32 =>
(bin .neq .int x30 x32).bind fun x33 =>
(gd x33 false (ld true 18 v6 r25.2)).bind fun x34 =>
(gd x33 false (fldA 9 v3)).bind fun x35 =>
(gd x33 false (ld true 4 x35 r25.2)).bind fun x36 =>
(gd x33 false (fldA 3 v3)).bind fun x37 =>
(gd x33 false (ld false 1 x37 r25.2)).bind fun x38 =>
(gd x33 false (lenA .slice x38 r25.2)).bind fun x39 =>
(gdH x33 false (callA cfg O 50 [x34,x36,x39] lo r25.2) r25.2).bind fun r40 =>
(gd x33 false (un .not r40.1)).bind fun x41 =>
(pickA x33 (B true) x41).bind fun x42 =>
cond x42 (
leave 0 lo [I 3] r40.2) (
(fldA 4 v3).bind fun x43 =>
(ld false 1 x43 r40.2).bind fun x44 =>
(lenA .slice x44 r40.2).bind fun x45 =>
L19_50 [v3,v6,x44,x45,I 0] lo r40.2))) (
(fldA 2 v3).bind fun x46 =>
(ld false 1 x46 r25.2).bind fun x47 =>
(bin .gtr .int x47 (I 0)).bind fun x48 =>
(gd x48 true (fldA 5 v3)).bind fun x49 =>
(gd x48 true (fldA 0 x49)).bind fun x50 =>
(gd x48 true (ld false 1 x50 r25.2)).bind fun x51 =>
(gd x48 true (fldA 1 v3)).bind fun x52 =>
(gd x48 true (ld false 1 x52 r25.2)).bind fun x53 =>
(gd x48 true (bin .neq .int x51 x53)).bind fun x54 =>
(gd x48 true (some x54)).bind fun x55 =>
(gd x55 false (ld true 18 v6 r25.2)).bind fun x56 =>
(gd x55 false (fldA 5 v3)).bind fun x57 =>
(gd x55 false (ld true 4 x57 r25.2)).bind fun x58 =>
(gd x55 false (fldA 2 v3)).bind fun x59 =>
(gd x55 false (ld false 1 x59 r25.2)).bind fun x60 =>
(gdH x55 false (callA cfg O 50 [x56,x58,x60] lo r25.2) r25.2).bind fun r61 =>
(gd x55 false (un .not r61.1)).bind fun x62 =>
(gd x48 true (pickA x55 (B true) x62)).bind fun x63 =>
(pickA x48 x63 (B false)).bind fun x64 =>
cond x64 (
leave 0 lo [I 3] r61.2) (
(fldA 9 v3).bind fun x65 =>
(fldA 0 x65).bind fun x66 =>
(ld false 1 x66 r61.2).bind fun x67 =>
(fldA 1 v3).bind fun x68 =>
(ld false 1 x68 r61.2).bind fun x69 =>
(bin .neq .int x67 x69).bind fun x70 =>
(gd x70 false (ld true 18 v6 r61.2)).bind fun x71 =>
(gd x70 false (fldA 9 v3)).bind fun x72 =>
(gd x70 false (ld true 4 x72 r61.2)).bind fun x73 =>
(gd x70 false (fldA 3 v3)).bind fun x74 =>
(gd x70 false (ld false 1 x74 r61.2)).bind fun x75 =>
(gd x70 false (lenA .slice x75 r61.2)).bind fun x76 =>
(gdH x70 false (callA cfg O 50 [x71,x73,x76] lo r61.2) r61.2).bind fun r77 =>
(gd x70 false (un .not r77.1)).bind fun x78 =>
(pickA x70 (B true) x78).bind fun x79 =>
cond x79 (
leave 0 lo [I 3] r77.2) (
(fldA 4 v3).bind fun x80 =>
(ld false 1 x80 r77.2).bind fun x81 =>
(lenA .slice x81 r77.2).bind fun x82 =>
L19_50 [v3,v6,x81,x82,I 0] lo r77.2))))) := by
  show O.lab _ _ _ _ _ _ = _
  rw [O_lab]
  kernel_rfl
theorem L19_50_eq (lo:List Nat)(v3 v6 v151 v152 v153:AV)(H:Heap):L19_50 [v3,v6,v151,v152,v153] lo H = (
(bin .lss .int v153 v152).bind fun x1 =>
cond x1 (
(idxA 4 v151 v153).bind fun x2 =>
(ld true 4 x2 H).bind fun x3 =>
(boxO [] [(I 0),(I 0),(.p nilS),(.p nilS)] H).bind fun r4 =>
((stA 4 r4.1 x3 lo r4.2).map fun H' => (undefA,H')).bind fun r5 =>
(ld true 18 v6 r5.2).bind fun x6 =>
(ld true 4 r4.1 r5.2).bind fun x7 =>
(fldA 3 v3).bind fun x8 =>
(ld false 1 x8 r5.2).bind fun x9 =>
(lenA .slice x9 r5.2).bind fun x10 =>
(callA cfg O 50 [x6,x7,x10] lo r5.2).bind fun r11 =>
(un .not r11.1).bind fun x12 =>
cond x12 (
leave 0 lo [I 3] r11.2) (
(bin .add .int v153 (I 1)).bind fun x13 =>
L19_50 [v3,v6,v151,v152,x13] lo r11.2)) (
leave 0 lo [I 0] H)) := by
  show O.lab _ _ _ _ _ _ = _
  rw [O_lab]
  kernel_rfl
theorem f19_eq (a0 a1:AV):O.ent 19 [a0,a1] [] [] = (
(boxO [] (AV.cells a0) []).bind fun r1 =>
(boxO [] (AV.cells a1) r1.2).bind fun r2 =>
(ld true 3 r1.1 r2.2).bind fun x3 =>
(callA cfg O 17 [x3] [] r2.2).bind fun r4 =>
(bin .neq .int r4.1 (I 0)).bind fun x5 =>
cond x5 (
leave 0 [] [r4.1] r4.2) (
(fldA 3 r2.1).bind fun x6 =>
(ld false 1 x6 r4.2).bind fun x7 =>
(lenA .slice x7 r4.2).bind fun x8 =>
(bin .gtr .int x8 (I 300)).bind fun x9 =>
(gd x9 false (fldA 4 r2.1)).bind fun x10 =>
(gd x9 false (ld false 1 x10 r4.2)).bind fun x11 =>
(gd x9 false (lenA .slice x11 r4.2)).bind fun x12 =>
(gd x9 false (bin .gtr .int x12 (I 200))).bind fun x13 =>
(pickA x9 (B true) x13).bind fun x14 =>
cond x14 (
leave 0 [] [I 2] r4.2) (
(fldA 0 r2.1).bind fun x15 =>
(ld false 1 x15 r4.2).bind fun x16 =>
(bin .lss .int x16 (I 0)).bind fun x17 =>
(gd x17 false (fldA 0 r2.1)).bind fun x18 =>
(gd x17 false (ld false 1 x18 r4.2)).bind fun x19 =>
(gd x17 false (fldA 0 r1.1)).bind fun x20 =>
(gd x17 false (ld false 1 x20 r4.2)).bind fun x21 =>
(gd x17 false (lenA .slice x21 r4.2)).bind fun x22 =>
(gd x17 false (bin .geq .int x19 x22)).bind fun x23 =>
(pickA x17 (B true) x23).bind fun x24 =>
(gd x24 false (fldA 1 r2.1)).bind fun x25 =>
(gd x24 false (ld false 1 x25 r4.2)).bind fun x26 =>
(gd x24 false (bin .lss .int x26 (I 0))).bind fun x27 =>
(pickA x24 (B true) x27).bind fun x28 =>
(gd x28 false (fldA 1 r2.1)).bind fun x29 =>
(gd x28 false (ld false 1 x29 r4.2)).bind fun x30 =>
(gd x28 false (fldA 0 r1.1)).bind fun x31 =>
(gd x28 false (ld false 1 x31 r4.2)).bind fun x32 =>
(gd x28 false (fldA 0 r2.1)).bind fun x33 =>
(gd x28 false (ld false 1 x33 r4.2)).bind fun x34 =>
(gd x28 false (idxA 5 x32 x34)).bind fun x35 =>
(gd x28 false (fldA 4 x35)).bind fun x36 =>
(gd x28 false (ld false 1 x36 r4.2)).bind fun x37 =>
(gd x28 false (lenA .slice x37 r4.2)).bind fun x38 =>
(gd x28 false (bin .geq .int x30 x38)).bind fun x39 =>
(pickA x28 (B true) x39).bind fun x40 =>
(gd x40 false (fldA 2 r2.1)).bind fun x41 =>
(gd x40 false (ld false 1 x41 r4.2)).bind fun x42 =>
(gd x40 false (bin .lss .int x42 (I 0))).bind fun x43 =>
(pickA x40 (B true) x43).bind fun x44 =>
(gd x44 false (fldA 2 r2.1)).bind fun x45 =>
(gd x44 false (ld false 1 x45 r4.2)).bind fun x46 =>
(gd x44 false (fldA 3 r2.1)).bind fun x47 =>
(gd x44 false (ld false 1 x47 r4.2)).bind fun x48 =>
(gd x44 false (lenA .slice x48 r4.2)).bind fun x49 =>
(gd x44 false (bin .gtr .int x46 x49)).bind fun x50 =>
(pickA x44 (B true) x50).bind fun x51 =>
cond x51 (
leave 0 [] [I 3] r4.2) (
(fldA 0 r1.1).bind fun x52 =>
(ld false 1 x52 r4.2).bind fun x53 =>
(fldA 0 r2.1).bind fun x54 =>
(ld false 1 x54 r4.2).bind fun x55 =>
(idxA 5 x53 x55).bind fun x56 =>
(ld true 5 x56 r4.2).bind fun x57 =>
(ld true 13 r2.1 r4.2).bind fun x58 =>
(buildA [(I 0),(I 0),(B false),(.p nilS),(.p nilS),(I 0),(I 0),(I 0),(.p nilS),(.p nilS),(I 0),(I 0),(.p nilS),(.p nilS),(I 0),(I 0),(.p nilS),(.p nilS)] [(0,5,x57),(5,13,x58)]).bind fun x59 =>
(boxO [] [(I 0),(I 0),(B false),(.p nilS),(.p nilS),(I 0),(I 0),(I 0),(.p nilS),(.p nilS),(I 0),(I 0),(.p nilS),(.p nilS),(I 0),(I 0),(.p nilS),(.p nilS)] r4.2).bind fun r60 =>
((stA 18 r60.1 x59 [] r60.2).map fun H' => (undefA,H')).bind fun r61 =>
(fldA 3 r2.1).bind fun x62 =>
(ld false 1 x62 r61.2).bind fun x63 =>
(lenA .slice x63 r61.2).bind fun x64 =>
L19_22 [r2.1,r60.1,x63,x64,I 0] [] r61.2)))) := by
  rw [O_ent]
  kernel_rfl
-- (backstitch/ir.checker).formed
noncomputable def T48_12:List It := labAt Tryd.prog cfg 48 12 (fun _ => none)
noncomputable def L48_12 (vals:List AV) (lo:List Nat) (H:Heap):Res := O.lab 48 [3,4,5,6,9,10] (T48_12) vals lo H
theorem L48_12_eq (lo:List Nat)(v3 v4 v5 v6 v9 v10:AV)(H:Heap):L48_12 [v3,v4,v5,v6,v9,v10] lo H = (
(bin .lss .int v10 (I 3)).bind fun x1 =>
cond x1 (
(bin .eql .int v10 (I 1)).bind fun x2 =>
(gd x2 true (fldA 0 v6)).bind fun x3 =>
(gd x2 true (ld false 1 x3 H)).bind fun x4 =>
(gd x2 true (bin .eql .int x4 (I 19))).bind fun x5 =>
(gd x2 true (some x5)).bind fun x6 =>
(gd x6 false (fldA 0 v6)).bind fun x7 =>
(gd x6 false (ld false 1 x7 H)).bind fun x8 =>
(gd x6 false (bin .eql .int x8 (I 9))).bind fun x9 =>
(gd x6 false (some x9)).bind fun x10 =>
(gd x10 true (fldA 4 v6)).bind fun x11 =>
(gd x10 true (ld false 1 x11 H)).bind fun x12 =>
(gd x10 true (bin .eql .int x12 (I 1))).bind fun x13 =>
(gd x6 false (pickA x10 x13 (B false))).bind fun x14 =>
(gd x2 true (pickA x6 (B true) x14)).bind fun x15 =>
(pickA x2 x15 (B false)).bind fun x16 =>
(gd x16 true (some v10)).bind fun x17 =>
(gd x16 true (idxArr 1 3 v9 x17)).bind fun x18 =>
(gd x16 true (ld false 1 x18 H)).bind fun x19 =>
(gd x16 true (bin .lss .int x19 (I 0))).bind fun x20 =>
(pickA x16 x20 (B false)).bind fun x21 =>
(gd x21 false (some x16)).bind fun x22 =>
(gd x21 false (un .not x22)).bind fun x23 =>
(gd x21 false (some x23)).bind fun x24 =>
(gd x24 true (some v10)).bind fun x25 =>
(gd x24 true (idxArr 1 3 v9 x25)).bind fun x26 =>
(gd x24 true (ld false 1 x26 H)).bind fun x27 =>
(gd x24 true (bin .neq .int x27 (I (-1)))).bind fun x28 =>
(gd x21 false (pickA x24 x28 (B false))).bind fun x29 =>
(pickA x21 (B true) x29).bind fun x30 =>
cond x30 (
leave 0 lo [B false] H) (
(bin .add .int v10 (I 1)).bind fun x31 =>
L48_12 [v3,v4,v5,v6,v9,x31] lo H)) (
(fldA 4 v6).bind fun x32 =>
(ld false 1 x32 H).bind fun x33 =>
(fldA 1 v5).bind fun x34 =>
(ld false 1 x34 H).bind fun x35 =>
(bin .lss .int x33 x35).bind fun x36 =>
(gd x36 false (fldA 4 v6)).bind fun x37 =>
(gd x36 false (ld false 1 x37 H)).bind fun x38 =>
(gd x36 false (fldA 2 v5)).bind fun x39 =>
(gd x36 false (ld false 1 x39 H)).bind fun x40 =>
(gd x36 false (bin .gtr .int x38 x40)).bind fun x41 =>
(pickA x36 (B true) x41).bind fun x42 =>
(gd x42 false (fldA 0 v6)).bind fun x43 =>
(gd x42 false (ld false 1 x43 H)).bind fun x44 =>
(gd x42 false (bin .eql .int x44 (I 1))).bind fun x45 =>
(gd x42 false (some x45)).bind fun x46 =>
(gd x46 true (fldA 4 v6)).bind fun x47 =>
(gd x46 true (ld false 1 x47 H)).bind fun x48 =>
(gd x46 true (fldA 0 v4)).bind fun x49 =>
(gd x46 true (fldA 1 x49)).bind fun x50 =>
(gd x46 true (ld false 1 x50 H)).bind fun x51 =>
(gd x46 true (bin .geq .int x48 x51)).bind fun x52 =>
(gd x42 false (pickA x46 x52 (B false))).bind fun x53 =>
(pickA x42 (B true) x53).bind fun x54 =>
cond x54 (
leave 0 lo [B false] H) (
(fldA 3 v5).bind fun x55 =>
(ld false 1 x55 H).bind fun x56 =>
(un .not x56).bind fun x57 =>
(gd x57 true (fldA 6 v6)).bind fun x58 =>
(gd x57 true (ld true 2 x58 H)).bind fun x59 =>
(gd x57 true (buildA [(I 0),(I 0)] [])).bind fun x60 =>
(gd x57 true (bin .neq (.agg 2 [(0,.int),(1,.int)]) x59 x60)).bind fun x61 =>
(pickA x57 x61 (B false)).bind fun x62 =>
(gd x62 false (fldA 3 v5)).bind fun x63 =>
(gd x62 false (ld false 1 x63 H)).bind fun x64 =>
(gd x62 false (some x64)).bind fun x65 =>
(gd x65 true (fldA 6 v6)).bind fun x66 =>
(gd x65 true (ld true 2 x66 H)).bind fun x67 =>
(gdH x65 true (callA cfg O 96 [x67] lo H) H).bind fun r68 =>
(gd x65 true (un .not r68.1)).bind fun x69 =>
(gd x62 false (pickA x65 x69 (B false))).bind fun x70 =>
(pickA x62 (B true) x70).bind fun x71 =>
(gd x71 false (fldA 0 v6)).bind fun x72 =>
(gd x71 false (ld false 1 x72 r68.2)).bind fun x73 =>
(gd x71 false (bin .eql .int x73 (I 2))).bind fun x74 =>
(gd x71 false (some x74)).bind fun x75 =>
(gd x75 true (fldA 6 v6)).bind fun x76 =>
(gd x75 true (fldA 0 x76)).bind fun x77 =>
(gd x75 true (ld false 1 x77 r68.2)).bind fun x78 =>
(gd x75 true (bin .eql .int x78 (I 5))).bind fun x79 =>
(gd x71 false (pickA x75 x79 (B false))).bind fun x80 =>
(pickA x71 (B true) x80).bind fun x81 =>
cond x81 (
leave 0 lo [B false] r68.2) (
(fldA 5 v5).bind fun x82 =>
(ld false 1 x82 r68.2).bind fun x83 =>
(bin .eql .int x83 (I 0)).bind fun x84 =>
(gd x84 false (fldA 5 v5)).bind fun x85 =>
(gd x84 false (ld false 1 x85 r68.2)).bind fun x86 =>
(gd x84 false (bin .eql .int x86 (I 1))).bind fun x87 =>
(gd x84 false (some x87)).bind fun x88 =>
(gd x88 true (fldA 5 v6)).bind fun x89 =>
(gd x88 true (ld false 1 x89 r68.2)).bind fun x90 =>
(gd x88 true (bin .eql .int x90 (I (-1)))).bind fun x91 =>
(gd x84 false (pickA x88 x91 (B false))).bind fun x92 =>
(pickA x84 (B true) x92).bind fun x93 =>
cond x93 (
(fldA 5 v6).bind fun x94 =>
(ld false 1 x94 r68.2).bind fun x95 =>
(bin .eql .int x95 (I (-1))).bind fun x96 =>
leave 0 lo [x96] r68.2) (
(fldA 5 v6).bind fun x97 =>
(ld false 1 x97 r68.2).bind fun x98 =>
(bin .geq .int x98 (I 0)).bind fun x99 =>
(gd x99 true (fldA 5 v6)).bind fun x100 =>
(gd x99 true (ld false 1 x100 r68.2)).bind fun x101 =>
(gd x99 true (fldA 5 v4)).bind fun x102 =>
(gd x99 true (fldA 4 x102)).bind fun x103 =>
(gd x99 true (ld false 1 x103 r68.2)).bind fun x104 =>
(gd x99 true (lenA .slice x104 r68.2)).bind fun x105 =>
(gd x99 true (bin .lss .int x101 x105)).bind fun x106 =>
(pickA x99 x106 (B false)).bind fun x107 =>
(gd x107 true (ld true 18 v4 r68.2)).bind fun x108 =>
(gd x107 true (fldA 5 v4)).bind fun x109 =>
(gd x107 true (fldA 4 x109)).bind fun x110 =>
(gd x107 true (ld false 1 x110 r68.2)).bind fun x111 =>
(gd x107 true (fldA 5 v6)).bind fun x112 =>
(gd x107 true (ld false 1 x112 r68.2)).bind fun x113 =>
(gd x107 true (idxA 4 x111 x113)).bind fun x114 =>
(gd x107 true (ld true 4 x114 r68.2)).bind fun x115 =>
(gd x107 true (some v3)).bind fun x116 =>
(gdH x107 true (callA cfg O 50 [x108,x115,x116] lo r68.2) r68.2).bind fun r117 =>
(pickA x107 r117.1 (B false)).bind fun x118 =>
leave 0 lo [x118] r117.2))))) := by
  show O.lab _ _ _ _ _ _ = _
  rw [O_lab]
  kernel_rfl
theorem f48_eq (a0 a1 a2 a3:AV):O.ent 48 [a0,a1,a2,a3] [] [] = (
(boxO [] (AV.cells a0) []).bind fun r1 =>
(boxO [] (AV.cells a1) r1.2).bind fun r2 =>
(boxO [] (AV.cells a2) r2.2).bind fun r3 =>
(fldA 1 r3.1).bind fun x4 =>
(ld false 1 x4 r3.2).bind fun x5 =>
(fldA 2 r3.1).bind fun x6 =>
(ld false 1 x6 r3.2).bind fun x7 =>
(fldA 3 r3.1).bind fun x8 =>
(ld false 1 x8 r3.2).bind fun x9 =>
(buildA [(I 0),(I 0),(I 0)] [(0,1,x5),(1,1,x7),(2,1,x9)]).bind fun x10 =>
(some (mkArr 1 [(.v (.int .i64 0)),(.v (.int .i64 0)),(.v (.int .i64 0))] r3.2)).bind fun r11 =>
((stA 3 r11.1 x10 [] r11.2).map fun H' => (undefA,H')).bind fun r12 =>
(ld true 18 r1.1 r12.2).bind fun x13 =>
(fldA 0 r2.1).bind fun x14 =>
(ld false 1 x14 r12.2).bind fun x15 =>
(cutArr 1 3 r11.1 none (some x15) r12.2).bind fun x16 =>
(callA cfg O 100 [x13,x16,a3] [] r12.2).bind fun r17 =>
(un .not r17.1).bind fun x18 =>
cond x18 (
leave 0 [] [B false] r17.2) (
(fldA 0 r2.1).bind fun x19 =>
(ld false 1 x19 r17.2).bind fun x20 =>
L48_12 [a3,r1.1,r2.1,r3.1,r11.1,x20] [] r17.2)) := by
  rw [O_ent]
  kernel_rfl
-- backstitch/ir.bare
theorem f49_eq (a0:AV):O.ent 49 [a0] [] [] = (
(boxO [] (AV.cells a0) []).bind fun r1 =>
(fldA 0 r1.1).bind fun x2 =>
(ld false 1 x2 r1.2).bind fun x3 =>
(bin .eql .int x3 (I 0)).bind fun x4 =>
(gd x4 true (fldA 1 r1.1)).bind fun x5 =>
(gd x4 true (ld false 1 x5 r1.2)).bind fun x6 =>
(gd x4 true (bin .eql .int x6 (I 0))).bind fun x7 =>
(pickA x4 x7 (B false)).bind fun x8 =>
(gd x8 true (fldA 2 r1.1)).bind fun x9 =>
(gd x8 true (ld false 1 x9 r1.2)).bind fun x10 =>
(gd x8 true (lenA .slice x10 r1.2)).bind fun x11 =>
(gd x8 true (bin .eql .int x11 (I 0))).bind fun x12 =>
(pickA x8 x12 (B false)).bind fun x13 =>
(gd x13 true (fldA 3 r1.1)).bind fun x14 =>
(gd x13 true (ld false 1 x14 r1.2)).bind fun x15 =>
(gd x13 true (lenA .slice x15 r1.2)).bind fun x16 =>
(gd x13 true (bin .eql .int x16 (I 0))).bind fun x17 =>
(pickA x13 x17 (B false)).bind fun x18 =>
leave 0 [] [x18] r1.2) := by
  rw [O_ent]
  kernel_rfl
-- (backstitch/ir.checker).right
noncomputable def T50_12:List It := labAt Tryd.prog cfg 50 12 (fun _ => none)
noncomputable def L50_12 (vals:List AV) (lo:List Nat) (H:Heap):Res := O.lab 50 [2,3,4,7,35,36,37] (T50_12) vals lo H
noncomputable def T50_28:List It := labAt Tryd.prog cfg 50 28 (fun _ => none)
noncomputable def L50_28 (vals:List AV) (lo:List Nat) (H:Heap):Res := O.lab 50 [2,3,7,65,66,67] (T50_28) vals lo H
theorem L50_12_eq (lo:List Nat)(v2 v3 v4 v7 v35 v36 v37:AV)(H:Heap):L50_12 [v2,v3,v4,v7,v35,v36,v37] lo H = (
(bin .lss .int v37 v36).bind fun x1 =>
cond x1 (
(idxA 2 v35 v37).bind fun x2 =>
(ld true 2 x2 H).bind fun x3 =>
(boxO [] [(I 0),(I 0)] H).bind fun r4 =>
((stA 2 r4.1 x3 lo r4.2).map fun H' => (undefA,H')).bind fun r5 =>
(fldA 0 r4.1).bind fun x6 =>
(ld false 1 x6 r5.2).bind fun x7 =>
(bin .leq .int x7 v7).bind fun x8 =>
(gd x8 false (fldA 0 r4.1)).bind fun x9 =>
(gd x8 false (ld false 1 x9 r5.2)).bind fun x10 =>
(gd x8 false (fldA 0 v3)).bind fun x11 =>
(gd x8 false (fldA 1 x11)).bind fun x12 =>
(gd x8 false (ld false 1 x12 r5.2)).bind fun x13 =>
(gd x8 false (bin .geq .int x10 x13)).bind fun x14 =>
(pickA x8 (B true) x14).bind fun x15 =>
(gd x15 false (ld true 18 v3 r5.2)).bind fun x16 =>
(gd x15 false (fldA 1 r4.1)).bind fun x17 =>
(gd x15 false (ld false 1 x17 r5.2)).bind fun x18 =>
(gd x15 false (some v2)).bind fun x19 =>
(gdH x15 false (callA cfg O 101 [x16,x18,x19] lo r5.2) r5.2).bind fun r20 =>
(gd x15 false (un .not r20.1)).bind fun x21 =>
(pickA x15 (B true) x21).bind fun x22 =>
cond x22 (
leave 0 lo [B false] r20.2) (
(fldA 0 r4.1).bind fun x23 =>
(ld false 1 x23 r20.2).bind fun x24 =>
(bin .add .int v37 (I 1)).bind fun x25 =>
L50_12 [v2,v3,v4,x24,v35,v36,x25] lo r20.2)) (
(fldA 3 v4).bind fun x26 =>
(ld false 1 x26 H).bind fun x27 =>
(lenA .slice x27 H).bind fun x28 =>
L50_28 [v2,v3,I (-1),x27,x28,I 0] lo H)) := by
  show O.lab _ _ _ _ _ _ = _
  rw [O_lab]
  kernel_rfl
theorem L50_28_eq (lo:List Nat)(v2 v3 v7 v65 v66 v67:AV)(H:Heap):L50_28 [v2,v3,v7,v65,v66,v67] lo H = (
(bin .lss .int v67 v66).bind fun x1 =>
cond x1 (
(idxA 4 v65 v67).bind fun x2 =>
(ld true 4 x2 H).bind fun x3 =>
(boxO [] [(I 0),(I 0),(I 0),(.p nilS)] H).bind fun r4 =>
((stA 4 r4.1 x3 lo r4.2).map fun H' => (undefA,H')).bind fun r5 =>
(fldA 0 r4.1).bind fun x6 =>
(ld false 1 x6 r5.2).bind fun x7 =>
(bin .leq .int x7 v7).bind fun x8 =>
(gd x8 false (ld true 18 v3 r5.2)).bind fun x9 =>
(gd x8 false (ld true 4 r4.1 r5.2)).bind fun x10 =>
(gd x8 false (some v2)).bind fun x11 =>
(gdH x8 false (callA cfg O 102 [x9,x10,x11] lo r5.2) r5.2).bind fun r12 =>
(gd x8 false (un .not r12.1)).bind fun x13 =>
(pickA x8 (B true) x13).bind fun x14 =>
cond x14 (
leave 0 lo [B false] r12.2) (
(fldA 0 r4.1).bind fun x15 =>
(ld false 1 x15 r12.2).bind fun x16 =>
(bin .add .int v67 (I 1)).bind fun x17 =>
L50_28 [v2,v3,x16,v65,v66,x17] lo r12.2)) (
leave 0 lo [B true] H)) := by
  show O.lab _ _ _ _ _ _ = _
  rw [O_lab]
  kernel_rfl
theorem f50_eq (a0 a1 a2:AV):O.ent 50 [a0,a1,a2] [] [] = (
(boxO [] (AV.cells a0) []).bind fun r1 =>
(boxO [] (AV.cells a1) r1.2).bind fun r2 =>
(fldA 0 r2.1).bind fun x3 =>
(ld false 1 x3 r2.2).bind fun x4 =>
(bin .lss .int x4 (I 0)).bind fun x5 =>
(gd x5 false (fldA 0 r2.1)).bind fun x6 =>
(gd x5 false (ld false 1 x6 r2.2)).bind fun x7 =>
(gd x5 false (fldA 0 r1.1)).bind fun x8 =>
(gd x5 false (fldA 4 x8)).bind fun x9 =>
(gd x5 false (ld false 1 x9 r2.2)).bind fun x10 =>
(gd x5 false (lenA .slice x10 r2.2)).bind fun x11 =>
(gd x5 false (bin .geq .int x7 x11)).bind fun x12 =>
(pickA x5 (B true) x12).bind fun x13 =>
(gd x13 false (fldA 1 r2.1)).bind fun x14 =>
(gd x13 false (ld false 1 x14 r2.2)).bind fun x15 =>
(gd x13 false (bin .lss .int x15 (I 0))).bind fun x16 =>
(pickA x13 (B true) x16).bind fun x17 =>
(gd x17 false (fldA 1 r2.1)).bind fun x18 =>
(gd x17 false (ld false 1 x18 r2.2)).bind fun x19 =>
(gd x17 false (bin .gtr .int x19 (I 200))).bind fun x20 =>
(pickA x17 (B true) x20).bind fun x21 =>
cond x21 (
leave 0 [] [B false] r2.2) (
(fldA 2 r2.1).bind fun x22 =>
(ld false 1 x22 r2.2).bind fun x23 =>
(lenA .slice x23 r2.2).bind fun x24 =>
L50_12 [a2,r1.1,r2.1,I (-1),x23,x24,I 0] [] r2.2)) := by
  rw [O_ent]
  kernel_rfl
-- (backstitch/ir.checker).values
noncomputable def T100_6:List It := labAt Tryd.prog cfg 100 6 (fun _ => none)
noncomputable def L100_6 (vals:List AV) (lo:List Nat) (H:Heap):Res := O.lab 100 [2,3,9,10,11] (T100_6) vals lo H
theorem L100_6_eq (lo:List Nat)(v2 v3 v9 v10 v11:AV)(H:Heap):L100_6 [v2,v3,v9,v10,v11] lo H = (
(bin .lss .int v11 v10).bind fun x1 =>
cond x1 (
(idxA 1 v9 v11).bind fun x2 =>
(ld false 1 x2 H).bind fun x3 =>
(ld true 18 v3 H).bind fun x4 =>
(callA cfg O 101 [x4,x3,v2] lo H).bind fun r5 =>
(un .not r5.1).bind fun x6 =>
cond x6 (
leave 0 lo [B false] r5.2) (
(bin .add .int v11 (I 1)).bind fun x7 =>
L100_6 [v2,v3,v9,v10,x7] lo r5.2)) (
leave 0 lo [B true] H)) := by
  show O.lab _ _ _ _ _ _ = _
  rw [O_lab]
  kernel_rfl
theorem f100_eq (a0 a1 a2:AV):O.ent 100 [a0,a1,a2] [] [] = (
(boxO [] (AV.cells a0) []).bind fun r1 =>
(lenA .slice a1 r1.2).bind fun x2 =>
L100_6 [a2,r1.1,a1,x2,I 0] [] r1.2) := by
  rw [O_ent]
  kernel_rfl
-- (backstitch/ir.checker).value
theorem f101_eq (a0 a1 a2:AV):O.ent 101 [a0,a1,a2] [] [] = (
(boxO [] (AV.cells a0) []).bind fun r1 =>
(bin .geq .int a1 (I 0)).bind fun x2 =>
(gd x2 true (some a1)).bind fun x3 =>
(gd x2 true (some a2)).bind fun x4 =>
(gd x2 true (bin .lss .int x3 x4)).bind fun x5 =>
(pickA x2 x5 (B false)).bind fun x6 =>
(gd x6 true (some a1)).bind fun x7 =>
(gd x6 true (fldA 5 r1.1)).bind fun x8 =>
(gd x6 true (fldA 3 x8)).bind fun x9 =>
(gd x6 true (ld false 1 x9 r1.2)).bind fun x10 =>
(gd x6 true (lenA .slice x10 r1.2)).bind fun x11 =>
(gd x6 true (bin .lss .int x7 x11)).bind fun x12 =>
(pickA x6 x12 (B false)).bind fun x13 =>
(gd x13 true (fldA 5 r1.1)).bind fun x14 =>
(gd x13 true (fldA 3 x14)).bind fun x15 =>
(gd x13 true (ld false 1 x15 r1.2)).bind fun x16 =>
(gd x13 true (some a1)).bind fun x17 =>
(gd x13 true (idxA 8 x16 x17)).bind fun x18 =>
(gd x13 true (fldA 0 x18)).bind fun x19 =>
(gd x13 true (ld false 1 x19 r1.2)).bind fun x20 =>
(gdH x13 true (callA cfg O 15 [x20] [] r1.2) r1.2).bind fun r21 =>
(pickA x13 r21.1 (B false)).bind fun x22 =>
leave 0 [] [x22] r21.2) := by
  rw [O_ent]
  kernel_rfl
-- (backstitch/ir.checker).make
theorem f102_eq (a0 a1 a2:AV):O.ent 102 [a0,a1,a2] [] [] = (
(boxO [] (AV.cells a0) []).bind fun r1 =>
(boxO [] (AV.cells a1) r1.2).bind fun r2 =>
(ld true 18 r1.1 r2.2).bind fun x3 =>
(fldA 0 r2.1).bind fun x4 =>
(ld false 1 x4 r2.2).bind fun x5 =>
(callA cfg O 101 [x3,x5,a2] [] r2.2).bind fun r6 =>
(un .not r6.1).bind fun x7 =>
(gd x7 false (fldA 5 r1.1)).bind fun x8 =>
(gd x7 false (fldA 3 x8)).bind fun x9 =>
(gd x7 false (ld false 1 x9 r6.2)).bind fun x10 =>
(gd x7 false (fldA 0 r2.1)).bind fun x11 =>
(gd x7 false (ld false 1 x11 r6.2)).bind fun x12 =>
(gd x7 false (idxA 8 x10 x12)).bind fun x13 =>
(gd x7 false (fldA 0 x13)).bind fun x14 =>
(gd x7 false (ld false 1 x14 r6.2)).bind fun x15 =>
(gd x7 false (bin .neq .int x15 (I 18))).bind fun x16 =>
(pickA x7 (B true) x16).bind fun x17 =>
cond x17 (
leave 0 [] [B false] r6.2) (
(fldA 1 r2.1).bind fun x18 =>
(ld false 1 x18 r6.2).bind fun x19 =>
(bin .lss .int x19 (I 1)).bind fun x20 =>
(gd x20 false (fldA 1 r2.1)).bind fun x21 =>
(gd x20 false (ld false 1 x21 r6.2)).bind fun x22 =>
(gd x20 false (bin .gtr .int x22 (I 3))).bind fun x23 =>
(pickA x20 (B true) x23).bind fun x24 =>
(gd x24 false (fldA 2 r2.1)).bind fun x25 =>
(gd x24 false (ld false 1 x25 r6.2)).bind fun x26 =>
(gd x24 false (bin .lss .int x26 (I 0))).bind fun x27 =>
(pickA x24 (B true) x27).bind fun x28 =>
(gd x28 false (fldA 2 r2.1)).bind fun x29 =>
(gd x28 false (ld false 1 x29 r6.2)).bind fun x30 =>
(gd x28 false (bin .gtr .int x30 (I 0))).bind fun x31 =>
(gd x28 false (some x31)).bind fun x32 =>
(gd x32 true (fldA 1 r2.1)).bind fun x33 =>
(gd x32 true (ld false 1 x33 r6.2)).bind fun x34 =>
(gd x32 true (bin .neq .int x34 (I 1))).bind fun x35 =>
(gd x28 false (pickA x32 x35 (B false))).bind fun x36 =>
(pickA x28 (B true) x36).bind fun x37 =>
cond x37 (
leave 0 [] [B false] r6.2) (
(fldA 3 r2.1).bind fun x38 =>
(ld false 1 x38 r6.2).bind fun x39 =>
(lenA .slice x39 r6.2).bind fun x40 =>
(bin .leq .int x40 (I 100)).bind fun x41 =>
(gd x41 true (ld true 18 r1.1 r6.2)).bind fun x42 =>
(gd x41 true (fldA 3 r2.1)).bind fun x43 =>
(gd x41 true (ld false 1 x43 r6.2)).bind fun x44 =>
(gd x41 true (some a2)).bind fun x45 =>
(gdH x41 true (callA cfg O 100 [x42,x44,x45] [] r6.2) r6.2).bind fun r46 =>
(pickA x41 r46.1 (B false)).bind fun x47 =>
leave 0 [] [x47] r46.2))) := by
  rw [O_ent]
  kernel_rfl
end Go.Proofs.YtnjfpnoamgipjaaDoor

