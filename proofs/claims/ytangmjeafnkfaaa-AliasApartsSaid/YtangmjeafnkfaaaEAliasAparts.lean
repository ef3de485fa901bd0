import Derived.Test.YtangmjeafnkfaaaCf
set_option linter.unusedVariables false
set_option maxRecDepth 100000
namespace Go.Proofs.Ytangmjeafnkfaaa
open Go Go.AM
-- backstitch/backstitchlaw2.AliasAparts
theorem f8_eq (a0 a1 a2 : AV) : O.ent 8 [a0, a1, a2] [] [] = (
(boxO [] (AV.cells a0) []).bind fun r1 =>
(callA cfg O 35 [] [] r1.2).bind fun r2 =>
(gd r2.1 true (ld true 13 r1.1 r2.2)).bind fun x3 =>
(gd r2.1 true (some a1)).bind fun x4 =>
(gd r2.1 true (some a2)).bind fun x5 =>
(gdH r2.1 true (callA cfg O 36 [x3, x4, x5] [] r2.2) r2.2).bind fun r6 =>
(gd r2.1 true (ld true 13 r1.1 r6.2)).bind fun x7 =>
(gd r2.1 true (some a1)).bind fun x8 =>
(gd r2.1 true (some a2)).bind fun x9 =>
(gdH r2.1 true (callA cfg O 37 [x7, x8, x9] [] r6.2) r6.2).bind fun r10 =>
(gd r2.1 true (bin .eql .bool r6.1 r10.1)).bind fun x11 =>
(pickA r2.1 x11 (B false)).bind fun x12 =>
leave 0 [] [x12] r10.2) := by
  rw [O_ent]
  kernel_rfl
-- backstitch/backstitchlaw2.irred
theorem f35_eq : O.ent 35 [] [] [] = (
(buildA [(I 0), (I 0), (I 0), (I 0), (I 0), (I 0), (I 0), (I 0)] [(0, 1, I 14), (1, 1, I 4), (2, 1, I 5), (3, 1, I 6)]).bind fun x1 =>
(callA cfg O 87 [x1] [] []).bind fun r2 =>
(litA false 1 [I 4, I 5, I 6] r2.2).bind fun r3 =>
(callA cfg O 86 [r2.1, r3.1] [] r3.2).bind fun r4 =>
(gdH r4.1 true (callA cfg O 88 [I 13] [] r4.2) r4.2).bind fun r5 =>
(pickA r4.1 r5.1 (B false)).bind fun x6 =>
(gdH x6 true (callA cfg O 88 [I 11] [] r5.2) r5.2).bind fun r7 =>
(gd x6 true (un .not r7.1)).bind fun x8 =>
(pickA x6 x8 (B false)).bind fun x9 =>
leave 0 [] [x9] r7.2) := by
  rw [O_ent]
  kernel_rfl
-- backstitch/alias.Apart
theorem f36_eq (a0 a1 a2 : AV) : O.ent 36 [a0, a1, a2] [] [] = (
(boxO [] (AV.cells a0) []).bind fun r1 =>
(bests false a1 [a2]).bind fun x2 =>
(bests true a1 [a2]).bind fun x3 =>
(bin .lss .int x2 (I 0)).bind fun x4 =>
(gd x4 false (some x3)).bind fun x5 =>
(gd x4 false (fldA 3 r1.1)).bind fun x6 =>
(gd x4 false (ld false 1 x6 r1.2)).bind fun x7 =>
(gd x4 false (lenA .slice x7 r1.2)).bind fun x8 =>
(gd x4 false (bin .geq .int x5 x8)).bind fun x9 =>
(pickA x4 (B true) x9).bind fun x10 =>
(gd x10 false (some x2)).bind fun x11 =>
(gd x10 false (some x3)).bind fun x12 =>
(gd x10 false (bin .eql .int x11 x12)).bind fun x13 =>
(pickA x10 (B true) x13).bind fun x14 =>
(gd x14 false (fldA 3 r1.1)).bind fun x15 =>
(gd x14 false (ld false 1 x15 r1.2)).bind fun x16 =>
(gd x14 false (some x2)).bind fun x17 =>
(gd x14 false (idxA 8 x16 x17)).bind fun x18 =>
(gd x14 false (fldA 0 x18)).bind fun x19 =>
(gd x14 false (ld false 1 x19 r1.2)).bind fun x20 =>
(gdH x14 false (callA cfg O 88 [x20] [] r1.2) r1.2).bind fun r21 =>
(gd x14 false (un .not r21.1)).bind fun x22 =>
(pickA x14 (B true) x22).bind fun x23 =>
(gd x23 false (fldA 3 r1.1)).bind fun x24 =>
(gd x23 false (ld false 1 x24 r21.2)).bind fun x25 =>
(gd x23 false (some x3)).bind fun x26 =>
(gd x23 false (idxA 8 x25 x26)).bind fun x27 =>
(gd x23 false (fldA 0 x27)).bind fun x28 =>
(gd x23 false (ld false 1 x28 r21.2)).bind fun x29 =>
(gdH x23 false (callA cfg O 88 [x29] [] r21.2) r21.2).bind fun r30 =>
(gd x23 false (un .not r30.1)).bind fun x31 =>
(pickA x23 (B true) x31).bind fun x32 =>
cond x32 (
leave 0 [] [B false] r30.2) (
(fldA 3 r1.1).bind fun x33 =>
(ld false 1 x33 r30.2).bind fun x34 =>
(idxA 8 x34 x2).bind fun x35 =>
(fldA 0 x35).bind fun x36 =>
(ld false 1 x36 r30.2).bind fun x37 =>
(fldA 3 r1.1).bind fun x38 =>
(ld false 1 x38 r30.2).bind fun x39 =>
(idxA 8 x39 x3).bind fun x40 =>
(fldA 0 x40).bind fun x41 =>
(ld false 1 x41 r30.2).bind fun x42 =>
(fldA 2 r1.1).bind fun x43 =>
(ld false 1 x43 r30.2).bind fun x44 =>
(bin .lss .int x2 x44).bind fun x45 =>
(gd x45 true (some x3)).bind fun x46 =>
(gd x45 true (fldA 2 r1.1)).bind fun x47 =>
(gd x45 true (ld false 1 x47 r30.2)).bind fun x48 =>
(gd x45 true (bin .geq .int x46 x48)).bind fun x49 =>
(pickA x45 x49 (B false)).bind fun x50 =>
cond x50 (
(callA cfg O 89 [x37] [] r30.2).bind fun r51 =>
(gd r51.1 true (some x42)).bind fun x52 =>
(gdH r51.1 true (callA cfg O 89 [x52] [] r51.2) r51.2).bind fun r53 =>
(pickA r51.1 r53.1 (B false)).bind fun x54 =>
leave 0 [] [x54] r53.2) (
(callA cfg O 89 [x42] [] r30.2).bind fun r55 =>
(gd r55.1 false (some x37)).bind fun x56 =>
(gdH r55.1 false (callA cfg O 89 [x56] [] r55.2) r55.2).bind fun r57 =>
(gd r55.1 false (some r57.1)).bind fun x58 =>
(gd x58 true (some x42)).bind fun x59 =>
(gdH x58 true (callA cfg O 90 [x59] [] r57.2) r57.2).bind fun r60 =>
(gd r55.1 false (pickA x58 r60.1 (B false))).bind fun x61 =>
(pickA r55.1 (B true) x61).bind fun x62 =>
leave 0 [] [x62] r60.2))) := by
  rw [O_ent]
  kernel_rfl
-- backstitch/backstitchref2.Apart
noncomputable def T37_9 : List It := labAt Try.prog cfg 37 9 (fun _ => none)
noncomputable def L37_9 (vals : List AV) (lo : List Nat) (H : Heap) : Res := O.lab 37 [1, 2, 3] (T37_9) vals lo H
theorem L37_9_eq (lo : List Nat) (v1 v2 v3 : AV) (H : Heap) : L37_9 [v1, v2, v3] lo H = (
(bin .lss .int v1 (I 0)).bind fun x1 =>
(gd x1 false (some v1)).bind fun x2 =>
(gd x1 false (some v2)).bind fun x3 =>
(gd x1 false (bin .eql .int x2 x3)).bind fun x4 =>
(pickA x1 (B true) x4).bind fun x5 =>
(gd x5 false (some v2)).bind fun x6 =>
(gd x5 false (fldA 3 v3)).bind fun x7 =>
(gd x5 false (ld false 1 x7 H)).bind fun x8 =>
(gd x5 false (lenA .slice x8 H)).bind fun x9 =>
(gd x5 false (bin .geq .int x6 x9)).bind fun x10 =>
(pickA x5 (B true) x10).bind fun x11 =>
cond x11 (
leave 0 lo [B false] H) (
(fldA 3 v3).bind fun x12 =>
(ld false 1 x12 H).bind fun x13 =>
(idxA 8 x13 v1).bind fun x14 =>
(fldA 0 x14).bind fun x15 =>
(ld false 1 x15 H).bind fun x16 =>
(fldA 3 v3).bind fun x17 =>
(ld false 1 x17 H).bind fun x18 =>
(idxA 8 x18 v2).bind fun x19 =>
(fldA 0 x19).bind fun x20 =>
(ld false 1 x20 H).bind fun x21 =>
(callA cfg O 91 [x16] lo H).bind fun r22 =>
(un .not r22.1).bind fun x23 =>
(gd x23 false (some x21)).bind fun x24 =>
(gdH x23 false (callA cfg O 91 [x24] lo r22.2) r22.2).bind fun r25 =>
(gd x23 false (un .not r25.1)).bind fun x26 =>
(pickA x23 (B true) x26).bind fun x27 =>
cond x27 (
leave 0 lo [B false] r25.2) (
(bin .eql .int x16 (I 16)).bind fun x28 =>
(gd x28 false (some x16)).bind fun x29 =>
(gd x28 false (bin .eql .int x29 (I 18))).bind fun x30 =>
(pickA x28 (B true) x30).bind fun x31 =>
(bin .eql .int x21 (I 16)).bind fun x32 =>
(gd x32 false (some x21)).bind fun x33 =>
(gd x32 false (bin .eql .int x33 (I 18))).bind fun x34 =>
(pickA x32 (B true) x34).bind fun x35 =>
(fldA 2 v3).bind fun x36 =>
(ld false 1 x36 r25.2).bind fun x37 =>
(bin .lss .int v1 x37).bind fun x38 =>
(gd x38 true (fldA 2 v3)).bind fun x39 =>
(gd x38 true (ld false 1 x39 r25.2)).bind fun x40 =>
(gd x38 true (some v2)).bind fun x41 =>
(gd x38 true (bin .leq .int x40 x41)).bind fun x42 =>
(pickA x38 x42 (B false)).bind fun x43 =>
cond x43 (
(gd x31 true (some x35)).bind fun x44 =>
(pickA x31 x44 (B false)).bind fun x45 =>
leave 0 lo [x45] r25.2) (
(gd x35 false (some x31)).bind fun x46 =>
(gd x35 false (some x46)).bind fun x47 =>
(gdH x47 true (litA false 1 [I 1, I 2, I 3] r25.2) r25.2).bind fun r48 =>
(gd x47 true (some x21)).bind fun x49 =>
(gdH x47 true (callA cfg O 92 [r48.1, x49] lo r48.2) r48.2).bind fun r50 =>
(gd x35 false (pickA x47 r50.1 (B false))).bind fun x51 =>
(pickA x35 (B true) x51).bind fun x52 =>
leave 0 lo [x52] r50.2)))) := by
  show O.lab _ _ _ _ _ _ = _
  rw [O_lab]
  kernel_rfl
theorem f37_eq (a0 a1 a2 : AV) : O.ent 37 [a0, a1, a2] [] [] = (
(boxO [] (AV.cells a0) []).bind fun r1 =>
(bin .gtr .int a1 a2).bind fun x2 =>
cond x2 (
L37_9 [a2, a1, r1.1] [] r1.2) (
L37_9 [a1, a2, r1.1] [] r1.2)) := by
  rw [O_ent]
  kernel_rfl
-- backstitch/backstitchref2.Eq[int]
noncomputable def T86_10 : List It := labAt Try.prog cfg 86 10 (fun _ => none)
noncomputable def L86_10 (vals : List AV) (lo : List Nat) (H : Heap) : Res := O.lab 86 [1, 12, 13, 14] (T86_10) vals lo H
theorem L86_10_eq (lo : List Nat) (v1 v12 v13 v14 : AV) (H : Heap) : L86_10 [v1, v12, v13, v14] lo H = (
(bin .lss .int v14 v13).bind fun x1 =>
cond x1 (
(idxA 1 v12 v14).bind fun x2 =>
(ld false 1 x2 H).bind fun x3 =>
(idxA 1 v1 v14).bind fun x4 =>
(ld false 1 x4 H).bind fun x5 =>
(bin .neq .int x3 x5).bind fun x6 =>
cond x6 (
leave 0 lo [B false] H) (
(bin .add .int v14 (I 1)).bind fun x7 =>
L86_10 [v1, v12, v13, x7] lo H)) (
leave 0 lo [B true] H)) := by
  show O.lab _ _ _ _ _ _ = _
  rw [O_lab]
  kernel_rfl
theorem f86_eq (a0 a1 : AV) : O.ent 86 [a0, a1] [] [] = (
(lenA .slice a0 []).bind fun x1 =>
(lenA .slice a1 []).bind fun x2 =>
(bin .neq .int x1 x2).bind fun x3 =>
cond x3 (
leave 0 [] [B false] []) (
(lenA .slice a0 []).bind fun x4 =>
L86_10 [a1, a0, x4, I 0] [] [])) := by
  rw [O_ent]
  kernel_rfl
-- backstitch/ir.Asks
theorem f87_eq (a0 : AV) : O.ent 87 [a0] [] [] = (
(boxO [] (AV.cells a0) []).bind fun r1 =>
(fldA 0 r1.1).bind fun x2 =>
(ld false 1 x2 r1.2).bind fun x3 =>
(callA cfg O 134 [x3] [] r1.2).bind fun r4 =>
(extractA r4.1 0).bind fun x5 =>
(extractA r4.1 1).bind fun x6 =>
(boxO [] [(I 0), (I 0), (I 0), (B false), (B false), (I 0)] r4.2).bind fun r7 =>
((stA 6 r7.1 x5 [] r7.2).map fun H' => (undefA, H')).bind fun r8 =>
(un .not x6).bind fun x9 =>
cond x9 (
leave 0 [] [.p nilS] r8.2) (
(fldA 1 r1.1).bind fun x10 =>
(ld false 1 x10 r8.2).bind fun x11 =>
(fldA 2 r1.1).bind fun x12 =>
(ld false 1 x12 r8.2).bind fun x13 =>
(fldA 3 r1.1).bind fun x14 =>
(ld false 1 x14 r8.2).bind fun x15 =>
(buildA [(I 0), (I 0), (I 0)] [(0, 1, x11), (1, 1, x13), (2, 1, x15)]).bind fun x16 =>
(some (mkArr 1 [(.v (.int .i64 0)), (.v (.int .i64 0)), (.v (.int .i64 0))] r8.2)).bind fun r17 =>
((stA 3 r17.1 x16 [] r17.2).map fun H' => (undefA, H')).bind fun r18 =>
(fldA 0 r7.1).bind fun x19 =>
(ld false 1 x19 r18.2).bind fun x20 =>
(cutArr 1 3 r17.1 none (some x20) r18.2).bind fun x21 =>
(appA 1 8 (.p nilS) x21 r18.2).bind fun r22 =>
leave 0 [] [r22.1] r22.2)) := by
  rw [O_ent]
  kernel_rfl
-- backstitch/ir.Tells
theorem f88_eq (a0 : AV) : O.ent 88 [a0] [] [] = (
(callA cfg O 134 [a0] [] []).bind fun r1 =>
(extractA r1.1 0).bind fun x2 =>
(extractA r1.1 1).bind fun x3 =>
(boxO [] [(I 0), (I 0), (I 0), (B false), (B false), (I 0)] r1.2).bind fun r4 =>
((stA 6 r4.1 x2 [] r4.2).map fun H' => (undefA, H')).bind fun r5 =>
(fldA 4 r4.1).bind fun x6 =>
(ld false 1 x6 r5.2).bind fun x7 =>
leave 0 [] [x7] r5.2) := by
  rw [O_ent]
  kernel_rfl
-- backstitch/alias.fresh
theorem f89_eq (a0 : AV) : O.ent 89 [a0] [] [] = (
(bin .eql .int a0 (I 16)).bind fun x1 =>
(gd x1 false (some a0)).bind fun x2 =>
(gd x1 false (bin .eql .int x2 (I 18))).bind fun x3 =>
(pickA x1 (B true) x3).bind fun x4 =>
leave 0 [] [x4] []) := by
  rw [O_ent]
  kernel_rfl
-- backstitch/alias.before
theorem f90_eq (a0 : AV) : O.ent 90 [a0] [] [] = (
(bin .eql .int a0 (I 1)).bind fun x1 =>
(gd x1 false (some a0)).bind fun x2 =>
(gd x1 false (bin .eql .int x2 (I 2))).bind fun x3 =>
(pickA x1 (B true) x3).bind fun x4 =>
(gd x4 false (some a0)).bind fun x5 =>
(gd x4 false (bin .eql .int x5 (I 3))).bind fun x6 =>
(pickA x4 (B true) x6).bind fun x7 =>
leave 0 [] [x7] []) := by
  rw [O_ent]
  kernel_rfl
-- backstitch/backstitchref2.Tells
theorem f91_eq (a0 : AV) : O.ent 91 [a0] [] [] = (
(litA false 1 [I 1, I 2, I 3, I 7, I 8, I 10, I 13, I 15, I 16, I 18] []).bind fun r1 =>
(callA cfg O 92 [r1.1, a0] [] r1.2).bind fun r2 =>
leave 0 [] [r2.1] r2.2) := by
  rw [O_ent]
  kernel_rfl
-- backstitch/backstitchref2.Has[int]
noncomputable def T92_6 : List It := labAt Try.prog cfg 92 6 (fun _ => none)
noncomputable def L92_6 (vals : List AV) (lo : List Nat) (H : Heap) : Res := O.lab 92 [1, 7, 8, 9] (T92_6) vals lo H
theorem L92_6_eq (lo : List Nat) (v1 v7 v8 v9 : AV) (H : Heap) : L92_6 [v1, v7, v8, v9] lo H = (
(bin .lss .int v9 v8).bind fun x1 =>
cond x1 (
(idxA 1 v7 v9).bind fun x2 =>
(ld false 1 x2 H).bind fun x3 =>
(bin .eql .int v1 x3).bind fun x4 =>
cond x4 (
leave 0 lo [B true] H) (
(bin .add .int v9 (I 1)).bind fun x5 =>
L92_6 [v1, v7, v8, x5] lo H)) (
leave 0 lo [B false] H)) := by
  show O.lab _ _ _ _ _ _ = _
  rw [O_lab]
  kernel_rfl
theorem f92_eq (a0 a1 : AV) : O.ent 92 [a0, a1] [] [] = (
(lenA .slice a0 []).bind fun x1 =>
L92_6 [a1, a0, x1, I 0] [] []) := by
  rw [O_ent]
  kernel_rfl
-- backstitch/ir.of
theorem f134_eq (a0 : AV) : O.ent 134 [a0] [] [] = (
(boxO [] [(I 0), (I 0), (I 0), (B false), (B false), (I 0)] []).bind fun r1 =>
(bin .eql .int a0 (I 1)).bind fun x2 =>
cond x2 (
(buildA [(I 0), (I 0), (I 0), (B false), (B false), (I 0)] [(0, 1, I 0), (1, 1, I 0), (2, 1, I 1073741824), (3, 1, B false), (4, 1, B true), (5, 1, I 0)]).bind fun x3 =>
((stA 6 r1.1 x3 [] r1.2).map fun H' => (undefA, H')).bind fun r4 =>
((ld true 6 r1.1 r4.2).bind fun x6 => ((some []).map fun q8 => B true :: q8).map fun q7 => x6 :: q7).bind fun xs5 => leave 0 [] xs5 r4.2) (
(bin .eql .int a0 (I 2)).bind fun x9 =>
cond x9 (
(buildA [(I 0), (I 0), (I 0), (B false), (B false), (I 0)] [(0, 1, I 0), (1, 1, I 0), (2, 1, I 0), (3, 1, B true), (4, 1, B true), (5, 1, I 0)]).bind fun x10 =>
((stA 6 r1.1 x10 [] r1.2).map fun H' => (undefA, H')).bind fun r11 =>
((ld true 6 r1.1 r11.2).bind fun x13 => ((some []).map fun q15 => B true :: q15).map fun q14 => x13 :: q14).bind fun xs12 => leave 0 [] xs12 r11.2) (
(bin .eql .int a0 (I 3)).bind fun x16 =>
cond x16 (
(buildA [(I 0), (I 0), (I 0), (B false), (B false), (I 0)] [(0, 1, I 0), (1, 1, I 0), (2, 1, I 0), (3, 1, B false), (4, 1, B true), (5, 1, I 0)]).bind fun x17 =>
((stA 6 r1.1 x17 [] r1.2).map fun H' => (undefA, H')).bind fun r18 =>
((ld true 6 r1.1 r18.2).bind fun x20 => ((some []).map fun q22 => B true :: q22).map fun q21 => x20 :: q21).bind fun xs19 => leave 0 [] xs19 r18.2) (
(bin .eql .int a0 (I 4)).bind fun x23 =>
cond x23 (
(buildA [(I 0), (I 0), (I 0), (B false), (B false), (I 0)] [(0, 1, I 1), (1, 1, I 0), (2, 1, I 6), (3, 1, B false), (4, 1, B false), (5, 1, I 2)]).bind fun x24 =>
((stA 6 r1.1 x24 [] r1.2).map fun H' => (undefA, H')).bind fun r25 =>
((ld true 6 r1.1 r25.2).bind fun x27 => ((some []).map fun q29 => B true :: q29).map fun q28 => x27 :: q28).bind fun xs26 => leave 0 [] xs26 r25.2) (
(bin .eql .int a0 (I 5)).bind fun x30 =>
cond x30 (
(buildA [(I 0), (I 0), (I 0), (B false), (B false), (I 0)] [(0, 1, I 1), (1, 1, I 0), (2, 1, I 1), (3, 1, B false), (4, 1, B false), (5, 1, I 2)]).bind fun x31 =>
((stA 6 r1.1 x31 [] r1.2).map fun H' => (undefA, H')).bind fun r32 =>
((ld true 6 r1.1 r32.2).bind fun x34 => ((some []).map fun q36 => B true :: q36).map fun q35 => x34 :: q35).bind fun xs33 => leave 0 [] xs33 r32.2) (
(bin .eql .int a0 (I 6)).bind fun x37 =>
cond x37 (
(buildA [(I 0), (I 0), (I 0), (B false), (B false), (I 0)] [(0, 1, I 1), (1, 1, I 0), (2, 1, I 0), (3, 1, B true), (4, 1, B false), (5, 1, I 2)]).bind fun x38 =>
((stA 6 r1.1 x38 [] r1.2).map fun H' => (undefA, H')).bind fun r39 =>
((ld true 6 r1.1 r39.2).bind fun x41 => ((some []).map fun q43 => B true :: q43).map fun q42 => x41 :: q42).bind fun xs40 => leave 0 [] xs40 r39.2) (
(bin .eql .int a0 (I 7)).bind fun x44 =>
cond x44 (
(buildA [(I 0), (I 0), (I 0), (B false), (B false), (I 0)] [(0, 1, I 2), (1, 1, I 3), (2, 1, I 10), (3, 1, B false), (4, 1, B true), (5, 1, I 1)]).bind fun x45 =>
((stA 6 r1.1 x45 [] r1.2).map fun H' => (undefA, H')).bind fun r46 =>
((ld true 6 r1.1 r46.2).bind fun x48 => ((some []).map fun q50 => B true :: q50).map fun q49 => x48 :: q49).bind fun xs47 => leave 0 [] xs47 r46.2) (
(bin .eql .int a0 (I 8)).bind fun x51 =>
cond x51 (
(buildA [(I 0), (I 0), (I 0), (B false), (B false), (I 0)] [(0, 1, I 1), (1, 1, I 11), (2, 1, I 12), (3, 1, B false), (4, 1, B true), (5, 1, I 1)]).bind fun x52 =>
((stA 6 r1.1 x52 [] r1.2).map fun H' => (undefA, H')).bind fun r53 =>
((ld true 6 r1.1 r53.2).bind fun x55 => ((some []).map fun q57 => B true :: q57).map fun q56 => x55 :: q56).bind fun xs54 => leave 0 [] xs54 r53.2) (
(bin .eql .int a0 (I 9)).bind fun x58 =>
cond x58 (
(buildA [(I 0), (I 0), (I 0), (B false), (B false), (I 0)] [(0, 1, I 1), (1, 1, I 1), (2, 1, I 7), (3, 1, B false), (4, 1, B false), (5, 1, I 2)]).bind fun x59 =>
((stA 6 r1.1 x59 [] r1.2).map fun H' => (undefA, H')).bind fun r60 =>
((ld true 6 r1.1 r60.2).bind fun x62 => ((some []).map fun q64 => B true :: q64).map fun q63 => x62 :: q63).bind fun xs61 => leave 0 [] xs61 r60.2) (
(bin .eql .int a0 (I 10)).bind fun x65 =>
cond x65 (
(buildA [(I 0), (I 0), (I 0), (B false), (B false), (I 0)] [(0, 1, I 1), (1, 1, I 0), (2, 1, I 99), (3, 1, B false), (4, 1, B true), (5, 1, I 0)]).bind fun x66 =>
((stA 6 r1.1 x66 [] r1.2).map fun H' => (undefA, H')).bind fun r67 =>
((ld true 6 r1.1 r67.2).bind fun x69 => ((some []).map fun q71 => B true :: q71).map fun q70 => x69 :: q70).bind fun xs68 => leave 0 [] xs68 r67.2) (
(bin .eql .int a0 (I 11)).bind fun x72 =>
cond x72 (
(buildA [(I 0), (I 0), (I 0), (B false), (B false), (I 0)] [(0, 1, I 2), (1, 1, I 0), (2, 1, I 99), (3, 1, B false), (4, 1, B false), (5, 1, I 0)]).bind fun x73 =>
((stA 6 r1.1 x73 [] r1.2).map fun H' => (undefA, H')).bind fun r74 =>
((ld true 6 r1.1 r74.2).bind fun x76 => ((some []).map fun q78 => B true :: q78).map fun q77 => x76 :: q77).bind fun xs75 => leave 0 [] xs75 r74.2) (
(bin .eql .int a0 (I 12)).bind fun x79 =>
cond x79 (
(buildA [(I 0), (I 0), (I 0), (B false), (B false), (I 0)] [(0, 1, I 2), (1, 1, I 1), (2, 1, I 1073741824), (3, 1, B false), (4, 1, B false), (5, 1, I 2)]).bind fun x80 =>
((stA 6 r1.1 x80 [] r1.2).map fun H' => (undefA, H')).bind fun r81 =>
((ld true 6 r1.1 r81.2).bind fun x83 => ((some []).map fun q85 => B true :: q85).map fun q84 => x83 :: q84).bind fun xs82 => leave 0 [] xs82 r81.2) (
(bin .eql .int a0 (I 13)).bind fun x86 =>
cond x86 (
(buildA [(I 0), (I 0), (I 0), (B false), (B false), (I 0)] [(0, 1, I 2), (1, 1, I 0), (2, 1, I 0), (3, 1, B false), (4, 1, B true), (5, 1, I 2)]).bind fun x87 =>
((stA 6 r1.1 x87 [] r1.2).map fun H' => (undefA, H')).bind fun r88 =>
((ld true 6 r1.1 r88.2).bind fun x90 => ((some []).map fun q92 => B true :: q92).map fun q91 => x90 :: q91).bind fun xs89 => leave 0 [] xs89 r88.2) (
(bin .eql .int a0 (I 14)).bind fun x93 =>
cond x93 (
(buildA [(I 0), (I 0), (I 0), (B false), (B false), (I 0)] [(0, 1, I 3), (1, 1, I 0), (2, 1, I 0), (3, 1, B false), (4, 1, B false), (5, 1, I 2)]).bind fun x94 =>
((stA 6 r1.1 x94 [] r1.2).map fun H' => (undefA, H')).bind fun r95 =>
((ld true 6 r1.1 r95.2).bind fun x97 => ((some []).map fun q99 => B true :: q99).map fun q98 => x97 :: q98).bind fun xs96 => leave 0 [] xs96 r95.2) (
(bin .eql .int a0 (I 15)).bind fun x100 =>
cond x100 (
(buildA [(I 0), (I 0), (I 0), (B false), (B false), (I 0)] [(0, 1, I 1), (1, 1, I 0), (2, 1, I 0), (3, 1, B false), (4, 1, B true), (5, 1, I 0)]).bind fun x101 =>
((stA 6 r1.1 x101 [] r1.2).map fun H' => (undefA, H')).bind fun r102 =>
((ld true 6 r1.1 r102.2).bind fun x104 => ((some []).map fun q106 => B true :: q106).map fun q105 => x104 :: q105).bind fun xs103 => leave 0 [] xs103 r102.2) (
(bin .eql .int a0 (I 16)).bind fun x107 =>
cond x107 (
(buildA [(I 0), (I 0), (I 0), (B false), (B false), (I 0)] [(0, 1, I 0), (1, 1, I 1), (2, 1, I 3), (3, 1, B false), (4, 1, B true), (5, 1, I 2)]).bind fun x108 =>
((stA 6 r1.1 x108 [] r1.2).map fun H' => (undefA, H')).bind fun r109 =>
((ld true 6 r1.1 r109.2).bind fun x111 => ((some []).map fun q113 => B true :: q113).map fun q112 => x111 :: q112).bind fun xs110 => leave 0 [] xs110 r109.2) (
(bin .eql .int a0 (I 17)).bind fun x114 =>
cond x114 (
(buildA [(I 0), (I 0), (I 0), (B false), (B false), (I 0)] [(0, 1, I 2), (1, 1, I 0), (2, 1, I 0), (3, 1, B false), (4, 1, B false), (5, 1, I 1)]).bind fun x115 =>
((stA 6 r1.1 x115 [] r1.2).map fun H' => (undefA, H')).bind fun r116 =>
((ld true 6 r1.1 r116.2).bind fun x118 => ((some []).map fun q120 => B true :: q120).map fun q119 => x118 :: q119).bind fun xs117 => leave 0 [] xs117 r116.2) (
(bin .eql .int a0 (I 18)).bind fun x121 =>
cond x121 (
(buildA [(I 0), (I 0), (I 0), (B false), (B false), (I 0)] [(0, 1, I 0), (1, 1, I 0), (2, 1, I 0), (3, 1, B false), (4, 1, B true), (5, 1, I 2)]).bind fun x122 =>
((stA 6 r1.1 x122 [] r1.2).map fun H' => (undefA, H')).bind fun r123 =>
((ld true 6 r1.1 r123.2).bind fun x125 => ((some []).map fun q127 => B true :: q127).map fun q126 => x125 :: q126).bind fun xs124 => leave 0 [] xs124 r123.2) (
(bin .eql .int a0 (I 19)).bind fun x128 =>
cond x128 (
(buildA [(I 0), (I 0), (I 0), (B false), (B false), (I 0)] [(0, 1, I 0), (1, 1, I 1), (2, 1, I 1073741824), (3, 1, B false), (4, 1, B false), (5, 1, I 2)]).bind fun x129 =>
((stA 6 r1.1 x129 [] r1.2).map fun H' => (undefA, H')).bind fun r130 =>
((ld true 6 r1.1 r130.2).bind fun x132 => ((some []).map fun q134 => B true :: q134).map fun q133 => x132 :: q133).bind fun xs131 => leave 0 [] xs131 r130.2) (
(buildA [(I 0), (I 0), (I 0), (B false), (B false), (I 0)] []).bind fun x135 =>
((stA 6 r1.1 x135 [] r1.2).map fun H' => (undefA, H')).bind fun r136 =>
((ld true 6 r1.1 r136.2).bind fun x138 => ((some []).map fun q140 => B false :: q140).map fun q139 => x138 :: q139).bind fun xs137 => leave 0 [] xs137 r136.2)))))))))))))))))))) := by
  rw [O_ent]
  kernel_rfl
end Go.Proofs.Ytangmjeafnkfaaa
