import Derived.Test.YtnjfpnoamgipjaaDoorAm31
import Derived.Test.YtnjfpnoamgipjaaDoorRows
set_option linter.unusedVariables false
set_option linter.unusedSimpArgs false
set_option maxRecDepth 100000
namespace Go.Proofs.YtnjfpnoamgipjaaDoor
open Go Go.AM
open Go.ChangeShapes Go.WideShapes Go.ChangeAt Go.RowKit
abbrev A_Li64:Type := Option Bool × List Int
def enc_Li64 (p:A_Li64):List PV := [.sl p.1 false p.2.length (p.2.map Ia)]
def ok_Li64 (p:A_Li64):Prop := p.2.length ≤ maxLen ∧ ∀ x ∈ p.2,(Lit.int .i64 x).wf = true
def sz_Li64 (p:A_Li64):Nat := (p.2.map fun x => 1).sum + 1
theorem of_Li64 {r:List PV}{m:Nat}(h:TyC Tryd.prog 40 r m):∃ p:A_Li64,r = enc_Li64 p ∧ ok_Li64 p ∧ sz_Li64 p ≤ m := by
  obtain ⟨nl,ps,h1,h2,h3,h4⟩ := ty_sliceM h Tryd.underlying40 (fun z => [Ia z]) (fun x => (Lit.int .i64 x).wf = true) (fun x => 1) (fun r m' h => (ty_intM h Tryd.underlying3))
  exact ⟨(nl,ps),by rw [h1,flat_one]; rfl,⟨h2,h3⟩,h4⟩
abbrev A_Ins:Type := Int × Int × Int × Int × Int
def enc_Ins (p:A_Ins):List PV := [Ia p.1,Ia p.2.1,Ia p.2.2.1,Ia p.2.2.2.1,Ia p.2.2.2.2]
def ok_Ins (p:A_Ins):Prop := (Lit.int .i64 p.1).wf = true ∧ (Lit.int .i64 p.2.1).wf = true ∧ (Lit.int .i64 p.2.2.1).wf = true ∧ (Lit.int .i64 p.2.2.2.1).wf = true ∧ (Lit.int .i64 p.2.2.2.2).wf = true
def sz_Ins (p:A_Ins):Nat := 1 + 1 + 1 + 1 + 1 + 1
theorem of_Ins {r:List PV}{m:Nat}(h:TyC Tryd.prog 153 r m):∃ p:A_Ins,r = enc_Ins p ∧ ok_Ins p ∧ sz_Ins p ≤ m := by
  obtain ⟨hl,g,hf,hm⟩ := ty_fieldsM (l := [(3,0),(3,1),(3,2),(3,3),(3,4)]) (by kernel_rfl) h
  rw [show Tryd.prog.cellsOf 153 = 5 by kernel_rfl] at hl
  simp only [sumF,List.length_cons,List.length_nil,Nat.zero_add,Nat.reduceAdd] at hm
  obtain ⟨c0,c1,c2,c3,c4,rfl⟩:∃ c0 c1 c2 c3 c4,r = [c0,c1,c2,c3,c4] := by
    match r,hl with
    | [c0,c1,c2,c3,c4],_ => exact ⟨c0,c1,c2,c3,c4,rfl⟩
  have t0 := hf 0 3 0 rfl
  rw [show Tryd.prog.cellsOf 3 = 1 by kernel_rfl] at t0
  obtain ⟨p0,e0,o0,s0⟩ := ty_intM t0 Tryd.underlying3
  simp at e0
  have t1 := hf 1 3 1 rfl
  rw [show Tryd.prog.cellsOf 3 = 1 by kernel_rfl] at t1
  obtain ⟨p1,e1,o1,s1⟩ := ty_intM t1 Tryd.underlying3
  simp at e1
  have t2 := hf 2 3 2 rfl
  rw [show Tryd.prog.cellsOf 3 = 1 by kernel_rfl] at t2
  obtain ⟨p2,e2,o2,s2⟩ := ty_intM t2 Tryd.underlying3
  simp at e2
  have t3 := hf 3 3 3 rfl
  rw [show Tryd.prog.cellsOf 3 = 1 by kernel_rfl] at t3
  obtain ⟨p3,e3,o3,s3⟩ := ty_intM t3 Tryd.underlying3
  simp at e3
  have t4 := hf 4 3 4 rfl
  rw [show Tryd.prog.cellsOf 3 = 1 by kernel_rfl] at t4
  obtain ⟨p4,e4,o4,s4⟩ := ty_intM t4 Tryd.underlying3
  simp at e4
  refine ⟨(p0,p1,p2,p3,p4),?_,⟨o0,o1,o2,o3,o4⟩,?_⟩
  · simp [enc_Ins,e0,e1,e2,e3,e4]
  · simp only [sz_Ins]; omega
abbrev A_LIns:Type := Option Bool × List A_Ins
def enc_LIns (p:A_LIns):List PV := [.sl p.1 false p.2.length (p.2.flatMap enc_Ins)]
def ok_LIns (p:A_LIns):Prop := p.2.length ≤ maxLen ∧ ∀ x ∈ p.2,ok_Ins x
def sz_LIns (p:A_LIns):Nat := (p.2.map fun x => sz_Ins x).sum + 1
theorem of_LIns {r:List PV}{m:Nat}(h:TyC Tryd.prog 74 r m):∃ p:A_LIns,r = enc_LIns p ∧ ok_LIns p ∧ sz_LIns p ≤ m := by
  obtain ⟨nl,ps,h1,h2,h3,h4⟩ := ty_sliceM h Tryd.underlying74 enc_Ins (fun x => ok_Ins x) (fun x => sz_Ins x) (fun r m' h => of_Ins h)
  exact ⟨(nl,ps),h1,⟨h2,h3⟩,h4⟩
abbrev A_Fn:Type := Int × Int × Bool × A_Li64 × A_LIns
def enc_Fn (p:A_Fn):List PV := [Ia p.1,Ia p.2.1,.v (.bool p.2.2.1),.sl p.2.2.2.1.1 false p.2.2.2.1.2.length (p.2.2.2.1.2.map Ia),.sl p.2.2.2.2.1 false p.2.2.2.2.2.length (p.2.2.2.2.2.flatMap enc_Ins)]
def ok_Fn (p:A_Fn):Prop := (Lit.int .i64 p.1).wf = true ∧ (Lit.int .i64 p.2.1).wf = true ∧ True ∧ ok_Li64 p.2.2.2.1 ∧ ok_LIns p.2.2.2.2
def sz_Fn (p:A_Fn):Nat := 1 + 1 + 1 + sz_Li64 p.2.2.2.1 + sz_LIns p.2.2.2.2 + 1
theorem of_Fn {r:List PV}{m:Nat}(h:TyC Tryd.prog 76 r m):∃ p:A_Fn,r = enc_Fn p ∧ ok_Fn p ∧ sz_Fn p ≤ m := by
  obtain ⟨hl,g,hf,hm⟩ := ty_fieldsM (l := [(3,0),(3,1),(4,2),(40,3),(74,4)]) (by kernel_rfl) h
  rw [show Tryd.prog.cellsOf 76 = 5 by kernel_rfl] at hl
  simp only [sumF,List.length_cons,List.length_nil,Nat.zero_add,Nat.reduceAdd] at hm
  obtain ⟨c0,c1,c2,c3,c4,rfl⟩:∃ c0 c1 c2 c3 c4,r = [c0,c1,c2,c3,c4] := by
    match r,hl with
    | [c0,c1,c2,c3,c4],_ => exact ⟨c0,c1,c2,c3,c4,rfl⟩
  have t0 := hf 0 3 0 rfl
  rw [show Tryd.prog.cellsOf 3 = 1 by kernel_rfl] at t0
  obtain ⟨p0,e0,o0,s0⟩ := ty_intM t0 Tryd.underlying3
  simp at e0
  have t1 := hf 1 3 1 rfl
  rw [show Tryd.prog.cellsOf 3 = 1 by kernel_rfl] at t1
  obtain ⟨p1,e1,o1,s1⟩ := ty_intM t1 Tryd.underlying3
  simp at e1
  have t2 := hf 2 4 2 rfl
  rw [show Tryd.prog.cellsOf 4 = 1 by kernel_rfl] at t2
  obtain ⟨p2,e2,o2,s2⟩ := ty_boolM t2 Tryd.underlying4
  simp at e2
  have t3 := hf 3 40 3 rfl
  rw [show Tryd.prog.cellsOf 40 = 1 by kernel_rfl] at t3
  obtain ⟨p3,e3,o3,s3⟩ := of_Li64 t3
  simp [enc_Li64] at e3
  have t4 := hf 4 74 4 rfl
  rw [show Tryd.prog.cellsOf 74 = 1 by kernel_rfl] at t4
  obtain ⟨p4,e4,o4,s4⟩ := of_LIns t4
  simp [enc_LIns] at e4
  refine ⟨(p0,p1,p2,p3,p4),?_,⟨o0,o1,o2,o3,o4⟩,?_⟩
  · simp [enc_Fn,e0,e1,e2,e3,e4]
  · simp only [sz_Fn]; omega
abbrev A_LFn:Type := Option Bool × List A_Fn
def enc_LFn (p:A_LFn):List PV := [.sl p.1 false p.2.length (p.2.flatMap enc_Fn)]
def ok_LFn (p:A_LFn):Prop := p.2.length ≤ maxLen ∧ ∀ x ∈ p.2,ok_Fn x
def sz_LFn (p:A_LFn):Nat := (p.2.map fun x => sz_Fn x).sum + 1
theorem of_LFn {r:List PV}{m:Nat}(h:TyC Tryd.prog 22 r m):∃ p:A_LFn,r = enc_LFn p ∧ ok_LFn p ∧ sz_LFn p ≤ m := by
  obtain ⟨nl,ps,h1,h2,h3,h4⟩ := ty_sliceM h Tryd.underlying22 enc_Fn (fun x => ok_Fn x) (fun x => sz_Fn x) (fun r m' h => of_Fn h)
  exact ⟨(nl,ps),h1,⟨h2,h3⟩,h4⟩
abbrev A_Val:Type := Int × Int
def enc_Val (p:A_Val):List PV := [Ia p.1,Ia p.2]
def ok_Val (p:A_Val):Prop := (Lit.int .i64 p.1).wf = true ∧ (Lit.int .i64 p.2).wf = true
def sz_Val (p:A_Val):Nat := 1 + 1 + 1
theorem of_Val {r:List PV}{m:Nat}(h:TyC Tryd.prog 36 r m):∃ p:A_Val,r = enc_Val p ∧ ok_Val p ∧ sz_Val p ≤ m := by
  obtain ⟨hl,g,hf,hm⟩ := ty_fieldsM (l := [(3,0),(3,1)]) (by kernel_rfl) h
  rw [show Tryd.prog.cellsOf 36 = 2 by kernel_rfl] at hl
  simp only [sumF,List.length_cons,List.length_nil,Nat.zero_add,Nat.reduceAdd] at hm
  obtain ⟨c0,c1,rfl⟩:∃ c0 c1,r = [c0,c1] := by
    match r,hl with
    | [c0,c1],_ => exact ⟨c0,c1,rfl⟩
  have t0 := hf 0 3 0 rfl
  rw [show Tryd.prog.cellsOf 3 = 1 by kernel_rfl] at t0
  obtain ⟨p0,e0,o0,s0⟩ := ty_intM t0 Tryd.underlying3
  simp at e0
  have t1 := hf 1 3 1 rfl
  rw [show Tryd.prog.cellsOf 3 = 1 by kernel_rfl] at t1
  obtain ⟨p1,e1,o1,s1⟩ := ty_intM t1 Tryd.underlying3
  simp at e1
  refine ⟨(p0,p1),?_,⟨o0,o1⟩,?_⟩
  · simp [enc_Val,e0,e1]
  · simp only [sz_Val]; omega
abbrev A_LVal:Type := Option Bool × List A_Val
def enc_LVal (p:A_LVal):List PV := [.sl p.1 false p.2.length (p.2.flatMap enc_Val)]
def ok_LVal (p:A_LVal):Prop := p.2.length ≤ maxLen ∧ ∀ x ∈ p.2,ok_Val x
def sz_LVal (p:A_LVal):Nat := (p.2.map fun x => sz_Val x).sum + 1
theorem of_LVal {r:List PV}{m:Nat}(h:TyC Tryd.prog 23 r m):∃ p:A_LVal,r = enc_LVal p ∧ ok_LVal p ∧ sz_LVal p ≤ m := by
  obtain ⟨nl,ps,h1,h2,h3,h4⟩ := ty_sliceM h Tryd.underlying23 enc_Val (fun x => ok_Val x) (fun x => sz_Val x) (fun r m' h => of_Val h)
  exact ⟨(nl,ps),h1,⟨h2,h3⟩,h4⟩
abbrev A_Lstr:Type := Option Bool × List ByteArray
def enc_Lstr (p:A_Lstr):List PV := [.sl p.1 false p.2.length (p.2.map (fun z => .v (.string z)))]
def ok_Lstr (p:A_Lstr):Prop := p.2.length ≤ maxLen ∧ ∀ x ∈ p.2,x.size ≤ maxLen
def sz_Lstr (p:A_Lstr):Nat := (p.2.map fun x => (x.size + 1)).sum + 1
theorem of_Lstr {r:List PV}{m:Nat}(h:TyC Tryd.prog 24 r m):∃ p:A_Lstr,r = enc_Lstr p ∧ ok_Lstr p ∧ sz_Lstr p ≤ m := by
  obtain ⟨nl,ps,h1,h2,h3,h4⟩ := ty_sliceM h Tryd.underlying24 (fun z => [.v (.string z)]) (fun x => x.size ≤ maxLen) (fun x => (x.size + 1)) (fun r m' h => (ty_strM h Tryd.underlying9))
  exact ⟨(nl,ps),by rw [h1,flat_one]; rfl,⟨h2,h3⟩,h4⟩
abbrev A_Prog:Type := A_LFn × A_LVal × A_Lstr
def enc_Prog (p:A_Prog):List PV := [.sl p.1.1 false p.1.2.length (p.1.2.flatMap enc_Fn),.sl p.2.1.1 false p.2.1.2.length (p.2.1.2.flatMap enc_Val),.sl p.2.2.1 false p.2.2.2.length (p.2.2.2.map (fun z => .v (.string z)))]
def ok_Prog (p:A_Prog):Prop := ok_LFn p.1 ∧ ok_LVal p.2.1 ∧ ok_Lstr p.2.2
def sz_Prog (p:A_Prog):Nat := sz_LFn p.1 + sz_LVal p.2.1 + sz_Lstr p.2.2 + 1
theorem of_Prog {r:List PV}{m:Nat}(h:TyC Tryd.prog 26 r m):∃ p:A_Prog,r = enc_Prog p ∧ ok_Prog p ∧ sz_Prog p ≤ m := by
  obtain ⟨hl,g,hf,hm⟩ := ty_fieldsM (l := [(22,0),(23,1),(24,2)]) (by kernel_rfl) h
  rw [show Tryd.prog.cellsOf 26 = 3 by kernel_rfl] at hl
  simp only [sumF,List.length_cons,List.length_nil,Nat.zero_add,Nat.reduceAdd] at hm
  obtain ⟨c0,c1,c2,rfl⟩:∃ c0 c1 c2,r = [c0,c1,c2] := by
    match r,hl with
    | [c0,c1,c2],_ => exact ⟨c0,c1,c2,rfl⟩
  have t0 := hf 0 22 0 rfl
  rw [show Tryd.prog.cellsOf 22 = 1 by kernel_rfl] at t0
  obtain ⟨p0,e0,o0,s0⟩ := of_LFn t0
  simp [enc_LFn] at e0
  have t1 := hf 1 23 1 rfl
  rw [show Tryd.prog.cellsOf 23 = 1 by kernel_rfl] at t1
  obtain ⟨p1,e1,o1,s1⟩ := of_LVal t1
  simp [enc_LVal] at e1
  have t2 := hf 2 24 2 rfl
  rw [show Tryd.prog.cellsOf 24 = 1 by kernel_rfl] at t2
  obtain ⟨p2,e2,o2,s2⟩ := of_Lstr t2
  simp [enc_Lstr] at e2
  refine ⟨(p0,p1,p2),?_,⟨o0,o1,o2⟩,?_⟩
  · simp [enc_Prog,e0,e1,e2]
  · simp only [sz_Prog]; omega
abbrev A_TIns:Type := Int × Int × Int × Int × Int × Int × A_Val
def enc_TIns (p:A_TIns):List PV := [Ia p.1,Ia p.2.1,Ia p.2.2.1,Ia p.2.2.2.1,Ia p.2.2.2.2.1,Ia p.2.2.2.2.2.1,Ia p.2.2.2.2.2.2.1,Ia p.2.2.2.2.2.2.2]
def ok_TIns (p:A_TIns):Prop := (Lit.int .i64 p.1).wf = true ∧ (Lit.int .i64 p.2.1).wf = true ∧ (Lit.int .i64 p.2.2.1).wf = true ∧ (Lit.int .i64 p.2.2.2.1).wf = true ∧ (Lit.int .i64 p.2.2.2.2.1).wf = true ∧ (Lit.int .i64 p.2.2.2.2.2.1).wf = true ∧ ok_Val p.2.2.2.2.2.2
def sz_TIns (p:A_TIns):Nat := 1 + 1 + 1 + 1 + 1 + 1 + sz_Val p.2.2.2.2.2.2 + 1
theorem of_TIns {r:List PV}{m:Nat}(h:TyC Tryd.prog 38 r m):∃ p:A_TIns,r = enc_TIns p ∧ ok_TIns p ∧ sz_TIns p ≤ m := by
  obtain ⟨hl,g,hf,hm⟩ := ty_fieldsM (l := [(3,0),(3,1),(3,2),(3,3),(3,4),(3,5),(36,6)]) (by kernel_rfl) h
  rw [show Tryd.prog.cellsOf 38 = 8 by kernel_rfl] at hl
  simp only [sumF,List.length_cons,List.length_nil,Nat.zero_add,Nat.reduceAdd] at hm
  obtain ⟨c0,c1,c2,c3,c4,c5,c6,c7,rfl⟩:∃ c0 c1 c2 c3 c4 c5 c6 c7,r = [c0,c1,c2,c3,c4,c5,c6,c7] := by
    match r,hl with
    | [c0,c1,c2,c3,c4,c5,c6,c7],_ => exact ⟨c0,c1,c2,c3,c4,c5,c6,c7,rfl⟩
  have t0 := hf 0 3 0 rfl
  rw [show Tryd.prog.cellsOf 3 = 1 by kernel_rfl] at t0
  obtain ⟨p0,e0,o0,s0⟩ := ty_intM t0 Tryd.underlying3
  simp at e0
  have t1 := hf 1 3 1 rfl
  rw [show Tryd.prog.cellsOf 3 = 1 by kernel_rfl] at t1
  obtain ⟨p1,e1,o1,s1⟩ := ty_intM t1 Tryd.underlying3
  simp at e1
  have t2 := hf 2 3 2 rfl
  rw [show Tryd.prog.cellsOf 3 = 1 by kernel_rfl] at t2
  obtain ⟨p2,e2,o2,s2⟩ := ty_intM t2 Tryd.underlying3
  simp at e2
  have t3 := hf 3 3 3 rfl
  rw [show Tryd.prog.cellsOf 3 = 1 by kernel_rfl] at t3
  obtain ⟨p3,e3,o3,s3⟩ := ty_intM t3 Tryd.underlying3
  simp at e3
  have t4 := hf 4 3 4 rfl
  rw [show Tryd.prog.cellsOf 3 = 1 by kernel_rfl] at t4
  obtain ⟨p4,e4,o4,s4⟩ := ty_intM t4 Tryd.underlying3
  simp at e4
  have t5 := hf 5 3 5 rfl
  rw [show Tryd.prog.cellsOf 3 = 1 by kernel_rfl] at t5
  obtain ⟨p5,e5,o5,s5⟩ := ty_intM t5 Tryd.underlying3
  simp at e5
  have t6 := hf 6 36 6 rfl
  rw [show Tryd.prog.cellsOf 36 = 2 by kernel_rfl] at t6
  obtain ⟨p6,e6,o6,s6⟩ := of_Val t6
  simp [enc_Val] at e6
  refine ⟨(p0,p1,p2,p3,p4,p5,p6),?_,⟨o0,o1,o2,o3,o4,o5,o6⟩,?_⟩
  · simp [enc_TIns,e0,e1,e2,e3,e4,e5,e6]
  · simp only [sz_TIns]; omega
abbrev A_LTIns:Type := Option Bool × List A_TIns
def enc_LTIns (p:A_LTIns):List PV := [.sl p.1 false p.2.length (p.2.flatMap enc_TIns)]
def ok_LTIns (p:A_LTIns):Prop := p.2.length ≤ maxLen ∧ ∀ x ∈ p.2,ok_TIns x
def sz_LTIns (p:A_LTIns):Nat := (p.2.map fun x => sz_TIns x).sum + 1
theorem of_LTIns {r:List PV}{m:Nat}(h:TyC Tryd.prog 27 r m):∃ p:A_LTIns,r = enc_LTIns p ∧ ok_LTIns p ∧ sz_LTIns p ≤ m := by
  obtain ⟨nl,ps,h1,h2,h3,h4⟩ := ty_sliceM h Tryd.underlying27 enc_TIns (fun x => ok_TIns x) (fun x => sz_TIns x) (fun r m' h => of_TIns h)
  exact ⟨(nl,ps),h1,⟨h2,h3⟩,h4⟩
abbrev A_TSet:Type := Int × Int
def enc_TSet (p:A_TSet):List PV := [Ia p.1,Ia p.2]
def ok_TSet (p:A_TSet):Prop := (Lit.int .i64 p.1).wf = true ∧ (Lit.int .i64 p.2).wf = true
def sz_TSet (p:A_TSet):Nat := 1 + 1 + 1
theorem len_TSet (p:A_TSet):(enc_TSet p).length = 2 := rfl
theorem of_TSet {r:List PV}{m:Nat}(h:TyC Tryd.prog 95 r m):∃ p:A_TSet,r = enc_TSet p ∧ ok_TSet p ∧ sz_TSet p ≤ m := by
  obtain ⟨hl,g,hf,hm⟩ := ty_fieldsM (l := [(3,0),(3,1)]) (by kernel_rfl) h
  rw [show Tryd.prog.cellsOf 95 = 2 by kernel_rfl] at hl
  simp only [sumF,List.length_cons,List.length_nil,Nat.zero_add,Nat.reduceAdd] at hm
  obtain ⟨c0,c1,rfl⟩:∃ c0 c1,r = [c0,c1] := by
    match r,hl with
    | [c0,c1],_ => exact ⟨c0,c1,rfl⟩
  have t0 := hf 0 3 0 rfl
  rw [show Tryd.prog.cellsOf 3 = 1 by kernel_rfl] at t0
  obtain ⟨p0,e0,o0,s0⟩ := ty_intM t0 Tryd.underlying3
  simp at e0
  have t1 := hf 1 3 1 rfl
  rw [show Tryd.prog.cellsOf 3 = 1 by kernel_rfl] at t1
  obtain ⟨p1,e1,o1,s1⟩ := ty_intM t1 Tryd.underlying3
  simp at e1
  refine ⟨(p0,p1),?_,⟨o0,o1⟩,?_⟩
  · simp [enc_TSet,e0,e1]
  · simp only [sz_TSet]; omega
abbrev A_LTSet:Type := Option Bool × List A_TSet
def enc_LTSet (p:A_LTSet):List PV := [.sl p.1 false p.2.length (p.2.flatMap enc_TSet)]
def ok_LTSet (p:A_LTSet):Prop := p.2.length ≤ maxLen ∧ ∀ x ∈ p.2,ok_TSet x
def sz_LTSet (p:A_LTSet):Nat := (p.2.map fun x => sz_TSet x).sum + 1
theorem of_LTSet {r:List PV}{m:Nat}(h:TyC Tryd.prog 29 r m):∃ p:A_LTSet,r = enc_LTSet p ∧ ok_LTSet p ∧ sz_LTSet p ≤ m := by
  obtain ⟨nl,ps,h1,h2,h3,h4⟩ := ty_sliceM h Tryd.underlying29 enc_TSet (fun x => ok_TSet x) (fun x => sz_TSet x) (fun r m' h => of_TSet h)
  exact ⟨(nl,ps),h1,⟨h2,h3⟩,h4⟩
abbrev A_TMake:Type := Int × Int × Int × A_Li64
def enc_TMake (p:A_TMake):List PV := [Ia p.1,Ia p.2.1,Ia p.2.2.1,.sl p.2.2.2.1 false p.2.2.2.2.length (p.2.2.2.2.map Ia)]
def ok_TMake (p:A_TMake):Prop := (Lit.int .i64 p.1).wf = true ∧ (Lit.int .i64 p.2.1).wf = true ∧ (Lit.int .i64 p.2.2.1).wf = true ∧ ok_Li64 p.2.2.2
def sz_TMake (p:A_TMake):Nat := 1 + 1 + 1 + sz_Li64 p.2.2.2 + 1
theorem of_TMake {r:List PV}{m:Nat}(h:TyC Tryd.prog 97 r m):∃ p:A_TMake,r = enc_TMake p ∧ ok_TMake p ∧ sz_TMake p ≤ m := by
  obtain ⟨hl,g,hf,hm⟩ := ty_fieldsM (l := [(3,0),(3,1),(3,2),(40,3)]) (by kernel_rfl) h
  rw [show Tryd.prog.cellsOf 97 = 4 by kernel_rfl] at hl
  simp only [sumF,List.length_cons,List.length_nil,Nat.zero_add,Nat.reduceAdd] at hm
  obtain ⟨c0,c1,c2,c3,rfl⟩:∃ c0 c1 c2 c3,r = [c0,c1,c2,c3] := by
    match r,hl with
    | [c0,c1,c2,c3],_ => exact ⟨c0,c1,c2,c3,rfl⟩
  have t0 := hf 0 3 0 rfl
  rw [show Tryd.prog.cellsOf 3 = 1 by kernel_rfl] at t0
  obtain ⟨p0,e0,o0,s0⟩ := ty_intM t0 Tryd.underlying3
  simp at e0
  have t1 := hf 1 3 1 rfl
  rw [show Tryd.prog.cellsOf 3 = 1 by kernel_rfl] at t1
  obtain ⟨p1,e1,o1,s1⟩ := ty_intM t1 Tryd.underlying3
  simp at e1
  have t2 := hf 2 3 2 rfl
  rw [show Tryd.prog.cellsOf 3 = 1 by kernel_rfl] at t2
  obtain ⟨p2,e2,o2,s2⟩ := ty_intM t2 Tryd.underlying3
  simp at e2
  have t3 := hf 3 40 3 rfl
  rw [show Tryd.prog.cellsOf 40 = 1 by kernel_rfl] at t3
  obtain ⟨p3,e3,o3,s3⟩ := of_Li64 t3
  simp [enc_Li64] at e3
  refine ⟨(p0,p1,p2,p3),?_,⟨o0,o1,o2,o3⟩,?_⟩
  · simp [enc_TMake,e0,e1,e2,e3]
  · simp only [sz_TMake]; omega
abbrev A_LTMake:Type := Option Bool × List A_TMake
def enc_LTMake (p:A_LTMake):List PV := [.sl p.1 false p.2.length (p.2.flatMap enc_TMake)]
def ok_LTMake (p:A_LTMake):Prop := p.2.length ≤ maxLen ∧ ∀ x ∈ p.2,ok_TMake x
def sz_LTMake (p:A_LTMake):Nat := (p.2.map fun x => sz_TMake x).sum + 1
theorem of_LTMake {r:List PV}{m:Nat}(h:TyC Tryd.prog 30 r m):∃ p:A_LTMake,r = enc_LTMake p ∧ ok_LTMake p ∧ sz_LTMake p ≤ m := by
  obtain ⟨nl,ps,h1,h2,h3,h4⟩ := ty_sliceM h Tryd.underlying30 enc_TMake (fun x => ok_TMake x) (fun x => sz_TMake x) (fun r m' h => of_TMake h)
  exact ⟨(nl,ps),h1,⟨h2,h3⟩,h4⟩
abbrev A_TExit:Type := Int × Int × A_LTSet × A_LTMake
def enc_TExit (p:A_TExit):List PV := [Ia p.1,Ia p.2.1,.sl p.2.2.1.1 false p.2.2.1.2.length (p.2.2.1.2.flatMap enc_TSet),.sl p.2.2.2.1 false p.2.2.2.2.length (p.2.2.2.2.flatMap enc_TMake)]
def ok_TExit (p:A_TExit):Prop := (Lit.int .i64 p.1).wf = true ∧ (Lit.int .i64 p.2.1).wf = true ∧ ok_LTSet p.2.2.1 ∧ ok_LTMake p.2.2.2
def sz_TExit (p:A_TExit):Nat := 1 + 1 + sz_LTSet p.2.2.1 + sz_LTMake p.2.2.2 + 1
theorem of_TExit {r:List PV}{m:Nat}(h:TyC Tryd.prog 32 r m):∃ p:A_TExit,r = enc_TExit p ∧ ok_TExit p ∧ sz_TExit p ≤ m := by
  obtain ⟨hl,g,hf,hm⟩ := ty_fieldsM (l := [(3,0),(3,1),(29,2),(30,3)]) (by kernel_rfl) h
  rw [show Tryd.prog.cellsOf 32 = 4 by kernel_rfl] at hl
  simp only [sumF,List.length_cons,List.length_nil,Nat.zero_add,Nat.reduceAdd] at hm
  obtain ⟨c0,c1,c2,c3,rfl⟩:∃ c0 c1 c2 c3,r = [c0,c1,c2,c3] := by
    match r,hl with
    | [c0,c1,c2,c3],_ => exact ⟨c0,c1,c2,c3,rfl⟩
  have t0 := hf 0 3 0 rfl
  rw [show Tryd.prog.cellsOf 3 = 1 by kernel_rfl] at t0
  obtain ⟨p0,e0,o0,s0⟩ := ty_intM t0 Tryd.underlying3
  simp at e0
  have t1 := hf 1 3 1 rfl
  rw [show Tryd.prog.cellsOf 3 = 1 by kernel_rfl] at t1
  obtain ⟨p1,e1,o1,s1⟩ := ty_intM t1 Tryd.underlying3
  simp at e1
  have t2 := hf 2 29 2 rfl
  rw [show Tryd.prog.cellsOf 29 = 1 by kernel_rfl] at t2
  obtain ⟨p2,e2,o2,s2⟩ := of_LTSet t2
  simp [enc_LTSet] at e2
  have t3 := hf 3 30 3 rfl
  rw [show Tryd.prog.cellsOf 30 = 1 by kernel_rfl] at t3
  obtain ⟨p3,e3,o3,s3⟩ := of_LTMake t3
  simp [enc_LTMake] at e3
  refine ⟨(p0,p1,p2,p3),?_,⟨o0,o1,o2,o3⟩,?_⟩
  · simp [enc_TExit,e0,e1,e2,e3]
  · simp only [sz_TExit]; omega
abbrev A_LTExit:Type := Option Bool × List A_TExit
def enc_LTExit (p:A_LTExit):List PV := [.sl p.1 false p.2.length (p.2.flatMap enc_TExit)]
def ok_LTExit (p:A_LTExit):Prop := p.2.length ≤ maxLen ∧ ∀ x ∈ p.2,ok_TExit x
def sz_LTExit (p:A_LTExit):Nat := (p.2.map fun x => sz_TExit x).sum + 1
theorem of_LTExit {r:List PV}{m:Nat}(h:TyC Tryd.prog 28 r m):∃ p:A_LTExit,r = enc_LTExit p ∧ ok_LTExit p ∧ sz_LTExit p ≤ m := by
  obtain ⟨nl,ps,h1,h2,h3,h4⟩ := ty_sliceM h Tryd.underlying28 enc_TExit (fun x => ok_TExit x) (fun x => sz_TExit x) (fun r m' h => of_TExit h)
  exact ⟨(nl,ps),h1,⟨h2,h3⟩,h4⟩
abbrev A_TTrace:Type := Int × Int × Int × A_LTIns × A_LTExit × A_TExit × A_TExit
def enc_TTrace (p:A_TTrace):List PV := [Ia p.1,Ia p.2.1,Ia p.2.2.1,.sl p.2.2.2.1.1 false p.2.2.2.1.2.length (p.2.2.2.1.2.flatMap enc_TIns),.sl p.2.2.2.2.1.1 false p.2.2.2.2.1.2.length (p.2.2.2.2.1.2.flatMap enc_TExit),Ia p.2.2.2.2.2.1.1,Ia p.2.2.2.2.2.1.2.1,.sl p.2.2.2.2.2.1.2.2.1.1 false p.2.2.2.2.2.1.2.2.1.2.length (p.2.2.2.2.2.1.2.2.1.2.flatMap enc_TSet),.sl p.2.2.2.2.2.1.2.2.2.1 false p.2.2.2.2.2.1.2.2.2.2.length (p.2.2.2.2.2.1.2.2.2.2.flatMap enc_TMake),Ia p.2.2.2.2.2.2.1,Ia p.2.2.2.2.2.2.2.1,.sl p.2.2.2.2.2.2.2.2.1.1 false p.2.2.2.2.2.2.2.2.1.2.length (p.2.2.2.2.2.2.2.2.1.2.flatMap enc_TSet),.sl p.2.2.2.2.2.2.2.2.2.1 false p.2.2.2.2.2.2.2.2.2.2.length (p.2.2.2.2.2.2.2.2.2.2.flatMap enc_TMake)]
def ok_TTrace (p:A_TTrace):Prop := (Lit.int .i64 p.1).wf = true ∧ (Lit.int .i64 p.2.1).wf = true ∧ (Lit.int .i64 p.2.2.1).wf = true ∧ ok_LTIns p.2.2.2.1 ∧ ok_LTExit p.2.2.2.2.1 ∧ ok_TExit p.2.2.2.2.2.1 ∧ ok_TExit p.2.2.2.2.2.2
def sz_TTrace (p:A_TTrace):Nat := 1 + 1 + 1 + sz_LTIns p.2.2.2.1 + sz_LTExit p.2.2.2.2.1 + sz_TExit p.2.2.2.2.2.1 + sz_TExit p.2.2.2.2.2.2 + 1
theorem of_TTrace {r:List PV}{m:Nat}(h:TyC Tryd.prog 34 r m):∃ p:A_TTrace,r = enc_TTrace p ∧ ok_TTrace p ∧ sz_TTrace p ≤ m := by
  obtain ⟨hl,g,hf,hm⟩ := ty_fieldsM (l := [(3,0),(3,1),(3,2),(27,3),(28,4),(32,5),(32,9)]) (by kernel_rfl) h
  rw [show Tryd.prog.cellsOf 34 = 13 by kernel_rfl] at hl
  simp only [sumF,List.length_cons,List.length_nil,Nat.zero_add,Nat.reduceAdd] at hm
  obtain ⟨c0,c1,c2,c3,c4,c5,c6,c7,c8,c9,c10,c11,c12,rfl⟩:∃ c0 c1 c2 c3 c4 c5 c6 c7 c8 c9 c10 c11 c12,r = [c0,c1,c2,c3,c4,c5,c6,c7,c8,c9,c10,c11,c12] := by
    match r,hl with
    | [c0,c1,c2,c3,c4,c5,c6,c7,c8,c9,c10,c11,c12],_ => exact ⟨c0,c1,c2,c3,c4,c5,c6,c7,c8,c9,c10,c11,c12,rfl⟩
  have t0 := hf 0 3 0 rfl
  rw [show Tryd.prog.cellsOf 3 = 1 by kernel_rfl] at t0
  obtain ⟨p0,e0,o0,s0⟩ := ty_intM t0 Tryd.underlying3
  simp at e0
  have t1 := hf 1 3 1 rfl
  rw [show Tryd.prog.cellsOf 3 = 1 by kernel_rfl] at t1
  obtain ⟨p1,e1,o1,s1⟩ := ty_intM t1 Tryd.underlying3
  simp at e1
  have t2 := hf 2 3 2 rfl
  rw [show Tryd.prog.cellsOf 3 = 1 by kernel_rfl] at t2
  obtain ⟨p2,e2,o2,s2⟩ := ty_intM t2 Tryd.underlying3
  simp at e2
  have t3 := hf 3 27 3 rfl
  rw [show Tryd.prog.cellsOf 27 = 1 by kernel_rfl] at t3
  obtain ⟨p3,e3,o3,s3⟩ := of_LTIns t3
  simp [enc_LTIns] at e3
  have t4 := hf 4 28 4 rfl
  rw [show Tryd.prog.cellsOf 28 = 1 by kernel_rfl] at t4
  obtain ⟨p4,e4,o4,s4⟩ := of_LTExit t4
  simp [enc_LTExit] at e4
  have t5 := hf 5 32 5 rfl
  rw [show Tryd.prog.cellsOf 32 = 4 by kernel_rfl] at t5
  obtain ⟨p5,e5,o5,s5⟩ := of_TExit t5
  simp [enc_TExit] at e5
  have t6 := hf 6 32 9 rfl
  rw [show Tryd.prog.cellsOf 32 = 4 by kernel_rfl] at t6
  obtain ⟨p6,e6,o6,s6⟩ := of_TExit t6
  simp [enc_TExit] at e6
  refine ⟨(p0,p1,p2,p3,p4,p5,p6),?_,⟨o0,o1,o2,o3,o4,o5,o6⟩,?_⟩
  · simp [enc_TTrace,e0,e1,e2,e3,e4,e5,e6]
  · simp only [sz_TTrace]; omega
theorem bulkOk (H:Type):BulkOk (Rows.uptoBulk (H := H)) := by
  have all:∀ l:List (DataW H),(l.map Rows.uptoBulk).sum = Rows.uptoBulkAll l := by
    intro l
    induction l with
    | nil => rfl
    | cons d l ih => simp [Rows.uptoBulkAll,ih]
  refine ⟨fun l => ?_,fun s => ?_,?_,fun es sp => ?_,fun ps => ?_⟩
  · cases l <;> simp [Rows.uptoBulk]
  · simp [Rows.uptoBulk]
  · simp [Rows.uptoBulk]
  · simp [Rows.uptoBulk,all]
  · simp [Rows.uptoBulk,all]
theorem own:ownKnob Tryd.prog.godebug = none := by kernel_rfl
theorem laidOut:laidOutB Tryd.prog = true := by kernel_rfl
end Go.Proofs.YtnjfpnoamgipjaaDoor

