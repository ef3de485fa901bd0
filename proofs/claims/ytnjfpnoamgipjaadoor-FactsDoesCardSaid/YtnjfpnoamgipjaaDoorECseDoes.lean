import Derived.Test.YtnjfpnoamgipjaaDoorCf
set_option linter.unusedVariables false
set_option maxRecDepth 100000
namespace Go.Proofs.YtnjfpnoamgipjaaDoor
open Go Go.AM
-- backstitch/backstitchlaw2.CseDoes
-- backstitch/cse.Do
-- backstitch/backstitchlaw2.passed
theorem f30_eq (a0 a1 a2 a3 a4:AV):O.ent 30 [a0,a1,a2,a3,a4] [] [] = (
(boxO [] (AV.cells a0) []).bind fun r1 =>
(boxO [] (AV.cells a1) r1.2).bind fun r2 =>
(boxO [] (AV.cells a2) r2.2).bind fun r3 =>
(ld true 3 r1.1 r3.2).bind fun x4 =>
(ld true 13 r2.1 r3.2).bind fun x5 =>
(callA cfg O 19 [x4,x5] [] r3.2).bind fun r6 =>
(bin .neq .int r6.1 (I 0)).bind fun x7 =>
cond x7 (
(callA cfg O 18 [] [] r6.2).bind fun r8 =>
(gd r8.1 true (some a3)).bind fun x9 =>
(gd r8.1 true (some r6.1)).bind fun x10 =>
(gd r8.1 true (bin .eql .int x9 x10)).bind fun x11 =>
(pickA r8.1 x11 (B false)).bind fun x12 =>
(gd x12 true (ld true 13 r3.1 r8.2)).bind fun x13 =>
(gd x12 true (buildA [(I 0),(I 0),(I 0),(.p nilS),(.p nilS),(I 0),(I 0),(.p nilS),(.p nilS),(I 0),(I 0),(.p nilS),(.p nilS)] [])).bind fun x14 =>
(gdH x12 true (callA cfg O 26 [x13,x14] [] r8.2) r8.2).bind fun r15 =>
(pickA x12 r15.1 (B false)).bind fun x16 =>
leave 0 [] [x16] r15.2) (
(callA cfg O 18 [] [] r6.2).bind fun r17 =>
(gd r17.1 true (some a3)).bind fun x18 =>
(gd r17.1 true (bin .eql .int x18 (I 0))).bind fun x19 =>
(pickA r17.1 x19 (B false)).bind fun x20 =>
(gd x20 true (ld true 13 r3.1 r17.2)).bind fun x21 =>
(gd x20 true (some a4)).bind fun x22 =>
(gd x20 true (ld true 13 r2.1 r17.2)).bind fun x23 =>
(gdH x20 true (callC cfg O (some ClK.same) x22 [x23] [] r17.2) r17.2).bind fun r24 =>
(gdH x20 true (callA cfg O 26 [x21,r24.1] [] r24.2) r24.2).bind fun r25 =>
(pickA x20 r25.1 (B false)).bind fun x26 =>
leave 0 [] [x26] r25.2)) := by
  rw [O_ent]
  kernel_rfl
-- backstitch/backstitchref2.Cse
-- backstitch/cse.of
-- backstitch/backstitchref2.Same0
noncomputable def T65_8:List It := labAt Tryd.prog cfg 65 8 (fun _ => none)
noncomputable def L65_8 (vals:List AV) (lo:List Nat) (H:Heap):Res := O.lab 65 [3,7,8] (T65_8) vals lo H
theorem L65_8_eq (lo:List Nat)(v3 v7 v8:AV)(H:Heap):L65_8 [v3,v7,v8] lo H = (
(bin .lss .int v8 v7).bind fun x1 =>
cond x1 (
(litA false 1 [v8] H).bind fun r2 =>
(appA 1 8 v3 r2.1 r2.2).bind fun r3 =>
(bin .add .int v8 (I 1)).bind fun x4 =>
L65_8 [r3.1,v7,x4] lo r3.2) (
leave 1 lo [v3] H)) := by
  show O.lab _ _ _ _ _ _ = _
  rw [O_lab]
  kernel_rfl
theorem f65_eq (a0:AV)(lo:List Nat)(H:Heap):O.ent 65 [a0] lo H = (
(boxO [] (AV.cells a0) H).bind fun r1 =>
(fldA 3 r1.1).bind fun x2 =>
(ld false 1 x2 r1.2).bind fun x3 =>
(lenA .slice x3 r1.2).bind fun x4 =>
L65_8 [.p nilS,x4,I 0] lo r1.2) := by
  rw [O_ent]
  kernel_rfl
-- backstitch/backstitchref2.put
-- backstitch/backstitchref2.alike
end Go.Proofs.YtnjfpnoamgipjaaDoor

