import Derived.Test.YtfdnamedmjhcfaaDoorAm31
import Derived.Test.YtfdnamedmjhcfaaDoorRows
set_option linter.unusedVariables false
set_option linter.unusedSimpArgs false
set_option maxRecDepth 100000
namespace Go.Proofs.YtfdnamedmjhcfaaDoor
open Go Go.AM
open Go.ChangeShapes Go.WideShapes Go.ChangeAt Go.RowKit
abbrev A_Li64 : Type := Option Bool × List Int
def enc_Li64 (p : A_Li64) : List PV := [.sl p.1 false p.2.length (p.2.map Ia)]
def ok_Li64 (p : A_Li64) : Prop := p.2.length ≤ maxLen ∧ ∀ x ∈ p.2, (Lit.int .i64 x).wf = true
def sz_Li64 (p : A_Li64) : Nat := (p.2.map fun x => 1).sum + 1
theorem of_Li64 {r : List PV} {m : Nat} (h : TyC Tryd.prog 71 r m) : ∃ p : A_Li64, r = enc_Li64 p ∧ ok_Li64 p ∧ sz_Li64 p ≤ m := by
  obtain ⟨nl, ps, h1, h2, h3, h4⟩ := ty_sliceM h Tryd.underlying71 (fun z => [Ia z]) (fun x => (Lit.int .i64 x).wf = true) (fun x => 1) (fun r m' h => (ty_intM h Tryd.underlying3))
  exact ⟨(nl, ps), by rw [h1, flat_one]; rfl, ⟨h2, h3⟩, h4⟩
abbrev A_Ins : Type := Int × Int × Int × Int × Int
def enc_Ins (p : A_Ins) : List PV := [Ia p.1, Ia p.2.1, Ia p.2.2.1, Ia p.2.2.2.1, Ia p.2.2.2.2]
def ok_Ins (p : A_Ins) : Prop := (Lit.int .i64 p.1).wf = true ∧ (Lit.int .i64 p.2.1).wf = true ∧ (Lit.int .i64 p.2.2.1).wf = true ∧ (Lit.int .i64 p.2.2.2.1).wf = true ∧ (Lit.int .i64 p.2.2.2.2).wf = true
def sz_Ins (p : A_Ins) : Nat := 1 + 1 + 1 + 1 + 1 + 1
theorem len_Ins (p : A_Ins) : (enc_Ins p).length = 5 := rfl
theorem of_Ins {r : List PV} {m : Nat} (h : TyC Tryd.prog 106 r m) : ∃ p : A_Ins, r = enc_Ins p ∧ ok_Ins p ∧ sz_Ins p ≤ m := by
  obtain ⟨hl, g, hf, hm⟩ := ty_fieldsM (l := [(3, 0), (3, 1), (3, 2), (3, 3), (3, 4)]) (by kernel_rfl) h
  rw [show Tryd.prog.cellsOf 106 = 5 by kernel_rfl] at hl
  simp only [sumF, List.length_cons, List.length_nil, Nat.zero_add, Nat.reduceAdd] at hm
  obtain ⟨c0, c1, c2, c3, c4, rfl⟩ : ∃ c0 c1 c2 c3 c4, r = [c0, c1, c2, c3, c4] := by
    match r, hl with
    | [c0, c1, c2, c3, c4], _ => exact ⟨c0, c1, c2, c3, c4, rfl⟩
  have t0 := hf 0 3 0 rfl
  rw [show Tryd.prog.cellsOf 3 = 1 by kernel_rfl] at t0
  obtain ⟨p0, e0, o0, s0⟩ := ty_intM t0 Tryd.underlying3
  simp at e0
  have t1 := hf 1 3 1 rfl
  rw [show Tryd.prog.cellsOf 3 = 1 by kernel_rfl] at t1
  obtain ⟨p1, e1, o1, s1⟩ := ty_intM t1 Tryd.underlying3
  simp at e1
  have t2 := hf 2 3 2 rfl
  rw [show Tryd.prog.cellsOf 3 = 1 by kernel_rfl] at t2
  obtain ⟨p2, e2, o2, s2⟩ := ty_intM t2 Tryd.underlying3
  simp at e2
  have t3 := hf 3 3 3 rfl
  rw [show Tryd.prog.cellsOf 3 = 1 by kernel_rfl] at t3
  obtain ⟨p3, e3, o3, s3⟩ := ty_intM t3 Tryd.underlying3
  simp at e3
  have t4 := hf 4 3 4 rfl
  rw [show Tryd.prog.cellsOf 3 = 1 by kernel_rfl] at t4
  obtain ⟨p4, e4, o4, s4⟩ := ty_intM t4 Tryd.underlying3
  simp at e4
  refine ⟨(p0, p1, p2, p3, p4), ?_, ⟨o0, o1, o2, o3, o4⟩, ?_⟩
  · simp [enc_Ins, e0, e1, e2, e3, e4]
  · simp only [sz_Ins]; omega
abbrev A_LIns : Type := Option Bool × List A_Ins
def enc_LIns (p : A_LIns) : List PV := [.sl p.1 false p.2.length (p.2.flatMap enc_Ins)]
def ok_LIns (p : A_LIns) : Prop := p.2.length ≤ maxLen ∧ ∀ x ∈ p.2, ok_Ins x
def sz_LIns (p : A_LIns) : Nat := (p.2.map fun x => sz_Ins x).sum + 1
theorem of_LIns {r : List PV} {m : Nat} (h : TyC Tryd.prog 72 r m) : ∃ p : A_LIns, r = enc_LIns p ∧ ok_LIns p ∧ sz_LIns p ≤ m := by
  obtain ⟨nl, ps, h1, h2, h3, h4⟩ := ty_sliceM h Tryd.underlying72 enc_Ins (fun x => ok_Ins x) (fun x => sz_Ins x) (fun r m' h => of_Ins h)
  exact ⟨(nl, ps), h1, ⟨h2, h3⟩, h4⟩
abbrev A_Fn : Type := Int × Int × Bool × A_Li64 × A_LIns
def enc_Fn (p : A_Fn) : List PV := [Ia p.1, Ia p.2.1, .v (.bool p.2.2.1), .sl p.2.2.2.1.1 false p.2.2.2.1.2.length (p.2.2.2.1.2.map Ia), .sl p.2.2.2.2.1 false p.2.2.2.2.2.length (p.2.2.2.2.2.flatMap enc_Ins)]
def ok_Fn (p : A_Fn) : Prop := (Lit.int .i64 p.1).wf = true ∧ (Lit.int .i64 p.2.1).wf = true ∧ True ∧ ok_Li64 p.2.2.2.1 ∧ ok_LIns p.2.2.2.2
def sz_Fn (p : A_Fn) : Nat := 1 + 1 + 1 + sz_Li64 p.2.2.2.1 + sz_LIns p.2.2.2.2 + 1
theorem len_Fn (p : A_Fn) : (enc_Fn p).length = 5 := rfl
theorem of_Fn {r : List PV} {m : Nat} (h : TyC Tryd.prog 74 r m) : ∃ p : A_Fn, r = enc_Fn p ∧ ok_Fn p ∧ sz_Fn p ≤ m := by
  obtain ⟨hl, g, hf, hm⟩ := ty_fieldsM (l := [(3, 0), (3, 1), (4, 2), (71, 3), (72, 4)]) (by kernel_rfl) h
  rw [show Tryd.prog.cellsOf 74 = 5 by kernel_rfl] at hl
  simp only [sumF, List.length_cons, List.length_nil, Nat.zero_add, Nat.reduceAdd] at hm
  obtain ⟨c0, c1, c2, c3, c4, rfl⟩ : ∃ c0 c1 c2 c3 c4, r = [c0, c1, c2, c3, c4] := by
    match r, hl with
    | [c0, c1, c2, c3, c4], _ => exact ⟨c0, c1, c2, c3, c4, rfl⟩
  have t0 := hf 0 3 0 rfl
  rw [show Tryd.prog.cellsOf 3 = 1 by kernel_rfl] at t0
  obtain ⟨p0, e0, o0, s0⟩ := ty_intM t0 Tryd.underlying3
  simp at e0
  have t1 := hf 1 3 1 rfl
  rw [show Tryd.prog.cellsOf 3 = 1 by kernel_rfl] at t1
  obtain ⟨p1, e1, o1, s1⟩ := ty_intM t1 Tryd.underlying3
  simp at e1
  have t2 := hf 2 4 2 rfl
  rw [show Tryd.prog.cellsOf 4 = 1 by kernel_rfl] at t2
  obtain ⟨p2, e2, o2, s2⟩ := ty_boolM t2 Tryd.underlying4
  simp at e2
  have t3 := hf 3 71 3 rfl
  rw [show Tryd.prog.cellsOf 71 = 1 by kernel_rfl] at t3
  obtain ⟨p3, e3, o3, s3⟩ := of_Li64 t3
  simp [enc_Li64] at e3
  have t4 := hf 4 72 4 rfl
  rw [show Tryd.prog.cellsOf 72 = 1 by kernel_rfl] at t4
  obtain ⟨p4, e4, o4, s4⟩ := of_LIns t4
  simp [enc_LIns] at e4
  refine ⟨(p0, p1, p2, p3, p4), ?_, ⟨o0, o1, o2, o3, o4⟩, ?_⟩
  · simp [enc_Fn, e0, e1, e2, e3, e4]
  · simp only [sz_Fn]; omega
abbrev A_LFn : Type := Option Bool × List A_Fn
def enc_LFn (p : A_LFn) : List PV := [.sl p.1 false p.2.length (p.2.flatMap enc_Fn)]
def ok_LFn (p : A_LFn) : Prop := p.2.length ≤ maxLen ∧ ∀ x ∈ p.2, ok_Fn x
def sz_LFn (p : A_LFn) : Nat := (p.2.map fun x => sz_Fn x).sum + 1
theorem of_LFn {r : List PV} {m : Nat} (h : TyC Tryd.prog 22 r m) : ∃ p : A_LFn, r = enc_LFn p ∧ ok_LFn p ∧ sz_LFn p ≤ m := by
  obtain ⟨nl, ps, h1, h2, h3, h4⟩ := ty_sliceM h Tryd.underlying22 enc_Fn (fun x => ok_Fn x) (fun x => sz_Fn x) (fun r m' h => of_Fn h)
  exact ⟨(nl, ps), h1, ⟨h2, h3⟩, h4⟩
abbrev A_Val : Type := Int × Int
def enc_Val (p : A_Val) : List PV := [Ia p.1, Ia p.2]
def ok_Val (p : A_Val) : Prop := (Lit.int .i64 p.1).wf = true ∧ (Lit.int .i64 p.2).wf = true
def sz_Val (p : A_Val) : Nat := 1 + 1 + 1
theorem len_Val (p : A_Val) : (enc_Val p).length = 2 := rfl
theorem of_Val {r : List PV} {m : Nat} (h : TyC Tryd.prog 80 r m) : ∃ p : A_Val, r = enc_Val p ∧ ok_Val p ∧ sz_Val p ≤ m := by
  obtain ⟨hl, g, hf, hm⟩ := ty_fieldsM (l := [(3, 0), (3, 1)]) (by kernel_rfl) h
  rw [show Tryd.prog.cellsOf 80 = 2 by kernel_rfl] at hl
  simp only [sumF, List.length_cons, List.length_nil, Nat.zero_add, Nat.reduceAdd] at hm
  obtain ⟨c0, c1, rfl⟩ : ∃ c0 c1, r = [c0, c1] := by
    match r, hl with
    | [c0, c1], _ => exact ⟨c0, c1, rfl⟩
  have t0 := hf 0 3 0 rfl
  rw [show Tryd.prog.cellsOf 3 = 1 by kernel_rfl] at t0
  obtain ⟨p0, e0, o0, s0⟩ := ty_intM t0 Tryd.underlying3
  simp at e0
  have t1 := hf 1 3 1 rfl
  rw [show Tryd.prog.cellsOf 3 = 1 by kernel_rfl] at t1
  obtain ⟨p1, e1, o1, s1⟩ := ty_intM t1 Tryd.underlying3
  simp at e1
  refine ⟨(p0, p1), ?_, ⟨o0, o1⟩, ?_⟩
  · simp [enc_Val, e0, e1]
  · simp only [sz_Val]; omega
abbrev A_LVal : Type := Option Bool × List A_Val
def enc_LVal (p : A_LVal) : List PV := [.sl p.1 false p.2.length (p.2.flatMap enc_Val)]
def ok_LVal (p : A_LVal) : Prop := p.2.length ≤ maxLen ∧ ∀ x ∈ p.2, ok_Val x
def sz_LVal (p : A_LVal) : Nat := (p.2.map fun x => sz_Val x).sum + 1
theorem of_LVal {r : List PV} {m : Nat} (h : TyC Tryd.prog 23 r m) : ∃ p : A_LVal, r = enc_LVal p ∧ ok_LVal p ∧ sz_LVal p ≤ m := by
  obtain ⟨nl, ps, h1, h2, h3, h4⟩ := ty_sliceM h Tryd.underlying23 enc_Val (fun x => ok_Val x) (fun x => sz_Val x) (fun r m' h => of_Val h)
  exact ⟨(nl, ps), h1, ⟨h2, h3⟩, h4⟩
abbrev A_Lstr : Type := Option Bool × List ByteArray
def enc_Lstr (p : A_Lstr) : List PV := [.sl p.1 false p.2.length (p.2.map (fun z => .v (.string z)))]
def ok_Lstr (p : A_Lstr) : Prop := p.2.length ≤ maxLen ∧ ∀ x ∈ p.2, x.size ≤ maxLen
def sz_Lstr (p : A_Lstr) : Nat := (p.2.map fun x => (x.size + 1)).sum + 1
theorem of_Lstr {r : List PV} {m : Nat} (h : TyC Tryd.prog 24 r m) : ∃ p : A_Lstr, r = enc_Lstr p ∧ ok_Lstr p ∧ sz_Lstr p ≤ m := by
  obtain ⟨nl, ps, h1, h2, h3, h4⟩ := ty_sliceM h Tryd.underlying24 (fun z => [.v (.string z)]) (fun x => x.size ≤ maxLen) (fun x => (x.size + 1)) (fun r m' h => (ty_strM h Tryd.underlying9))
  exact ⟨(nl, ps), by rw [h1, flat_one]; rfl, ⟨h2, h3⟩, h4⟩
abbrev A_Prog : Type := A_LFn × A_LVal × A_Lstr
def enc_Prog (p : A_Prog) : List PV := [.sl p.1.1 false p.1.2.length (p.1.2.flatMap enc_Fn), .sl p.2.1.1 false p.2.1.2.length (p.2.1.2.flatMap enc_Val), .sl p.2.2.1 false p.2.2.2.length (p.2.2.2.map (fun z => .v (.string z)))]
def ok_Prog (p : A_Prog) : Prop := ok_LFn p.1 ∧ ok_LVal p.2.1 ∧ ok_Lstr p.2.2
def sz_Prog (p : A_Prog) : Nat := sz_LFn p.1 + sz_LVal p.2.1 + sz_Lstr p.2.2 + 1
theorem len_Prog (p : A_Prog) : (enc_Prog p).length = 3 := rfl
theorem of_Prog {r : List PV} {m : Nat} (h : TyC Tryd.prog 26 r m) : ∃ p : A_Prog, r = enc_Prog p ∧ ok_Prog p ∧ sz_Prog p ≤ m := by
  obtain ⟨hl, g, hf, hm⟩ := ty_fieldsM (l := [(22, 0), (23, 1), (24, 2)]) (by kernel_rfl) h
  rw [show Tryd.prog.cellsOf 26 = 3 by kernel_rfl] at hl
  simp only [sumF, List.length_cons, List.length_nil, Nat.zero_add, Nat.reduceAdd] at hm
  obtain ⟨c0, c1, c2, rfl⟩ : ∃ c0 c1 c2, r = [c0, c1, c2] := by
    match r, hl with
    | [c0, c1, c2], _ => exact ⟨c0, c1, c2, rfl⟩
  have t0 := hf 0 22 0 rfl
  rw [show Tryd.prog.cellsOf 22 = 1 by kernel_rfl] at t0
  obtain ⟨p0, e0, o0, s0⟩ := of_LFn t0
  simp [enc_LFn] at e0
  have t1 := hf 1 23 1 rfl
  rw [show Tryd.prog.cellsOf 23 = 1 by kernel_rfl] at t1
  obtain ⟨p1, e1, o1, s1⟩ := of_LVal t1
  simp [enc_LVal] at e1
  have t2 := hf 2 24 2 rfl
  rw [show Tryd.prog.cellsOf 24 = 1 by kernel_rfl] at t2
  obtain ⟨p2, e2, o2, s2⟩ := of_Lstr t2
  simp [enc_Lstr] at e2
  refine ⟨(p0, p1, p2), ?_, ⟨o0, o1, o2⟩, ?_⟩
  · simp [enc_Prog, e0, e1, e2]
  · simp only [sz_Prog]; omega
abbrev A_Try : Type := Int × Int
def enc_Try (p : A_Try) : List PV := [Ia p.1, Ia p.2]
def ok_Try (p : A_Try) : Prop := (Lit.int .i64 p.1).wf = true ∧ (Lit.int .i64 p.2).wf = true
def sz_Try (p : A_Try) : Nat := 1 + 1 + 1
theorem len_Try (p : A_Try) : (enc_Try p).length = 2 := rfl
theorem of_Try {r : List PV} {m : Nat} (h : TyC Tryd.prog 219 r m) : ∃ p : A_Try, r = enc_Try p ∧ ok_Try p ∧ sz_Try p ≤ m := by
  obtain ⟨hl, g, hf, hm⟩ := ty_fieldsM (l := [(3, 0), (3, 1)]) (by kernel_rfl) h
  rw [show Tryd.prog.cellsOf 219 = 2 by kernel_rfl] at hl
  simp only [sumF, List.length_cons, List.length_nil, Nat.zero_add, Nat.reduceAdd] at hm
  obtain ⟨c0, c1, rfl⟩ : ∃ c0 c1, r = [c0, c1] := by
    match r, hl with
    | [c0, c1], _ => exact ⟨c0, c1, rfl⟩
  have t0 := hf 0 3 0 rfl
  rw [show Tryd.prog.cellsOf 3 = 1 by kernel_rfl] at t0
  obtain ⟨p0, e0, o0, s0⟩ := ty_intM t0 Tryd.underlying3
  simp at e0
  have t1 := hf 1 3 1 rfl
  rw [show Tryd.prog.cellsOf 3 = 1 by kernel_rfl] at t1
  obtain ⟨p1, e1, o1, s1⟩ := ty_intM t1 Tryd.underlying3
  simp at e1
  refine ⟨(p0, p1), ?_, ⟨o0, o1⟩, ?_⟩
  · simp [enc_Try, e0, e1]
  · simp only [sz_Try]; omega
abbrev A_LTry : Type := Option Bool × List A_Try
def enc_LTry (p : A_LTry) : List PV := [.sl p.1 false p.2.length (p.2.flatMap enc_Try)]
def ok_LTry (p : A_LTry) : Prop := p.2.length ≤ maxLen ∧ ∀ x ∈ p.2, ok_Try x
def sz_LTry (p : A_LTry) : Nat := (p.2.map fun x => sz_Try x).sum + 1
theorem of_LTry {r : List PV} {m : Nat} (h : TyC Tryd.prog 102 r m) : ∃ p : A_LTry, r = enc_LTry p ∧ ok_LTry p ∧ sz_LTry p ≤ m := by
  obtain ⟨nl, ps, h1, h2, h3, h4⟩ := ty_sliceM h Tryd.underlying102 enc_Try (fun x => ok_Try x) (fun x => sz_Try x) (fun r m' h => of_Try h)
  exact ⟨(nl, ps), h1, ⟨h2, h3⟩, h4⟩
abbrev A_Frame : Type := Int × Int × Int × Int × A_Val × A_LVal × A_LTry
def enc_Frame (p : A_Frame) : List PV := [Ia p.1, Ia p.2.1, Ia p.2.2.1, Ia p.2.2.2.1, Ia p.2.2.2.2.1.1, Ia p.2.2.2.2.1.2, .sl p.2.2.2.2.2.1.1 false p.2.2.2.2.2.1.2.length (p.2.2.2.2.2.1.2.flatMap enc_Val), .sl p.2.2.2.2.2.2.1 false p.2.2.2.2.2.2.2.length (p.2.2.2.2.2.2.2.flatMap enc_Try)]
def ok_Frame (p : A_Frame) : Prop := (Lit.int .i64 p.1).wf = true ∧ (Lit.int .i64 p.2.1).wf = true ∧ (Lit.int .i64 p.2.2.1).wf = true ∧ (Lit.int .i64 p.2.2.2.1).wf = true ∧ ok_Val p.2.2.2.2.1 ∧ ok_LVal p.2.2.2.2.2.1 ∧ ok_LTry p.2.2.2.2.2.2
def sz_Frame (p : A_Frame) : Nat := 1 + 1 + 1 + 1 + sz_Val p.2.2.2.2.1 + sz_LVal p.2.2.2.2.2.1 + sz_LTry p.2.2.2.2.2.2 + 1
theorem len_Frame (p : A_Frame) : (enc_Frame p).length = 8 := rfl
theorem of_Frame {r : List PV} {m : Nat} (h : TyC Tryd.prog 104 r m) : ∃ p : A_Frame, r = enc_Frame p ∧ ok_Frame p ∧ sz_Frame p ≤ m := by
  obtain ⟨hl, g, hf, hm⟩ := ty_fieldsM (l := [(3, 0), (3, 1), (3, 2), (3, 3), (80, 4), (23, 6), (102, 7)]) (by kernel_rfl) h
  rw [show Tryd.prog.cellsOf 104 = 8 by kernel_rfl] at hl
  simp only [sumF, List.length_cons, List.length_nil, Nat.zero_add, Nat.reduceAdd] at hm
  obtain ⟨c0, c1, c2, c3, c4, c5, c6, c7, rfl⟩ : ∃ c0 c1 c2 c3 c4 c5 c6 c7, r = [c0, c1, c2, c3, c4, c5, c6, c7] := by
    match r, hl with
    | [c0, c1, c2, c3, c4, c5, c6, c7], _ => exact ⟨c0, c1, c2, c3, c4, c5, c6, c7, rfl⟩
  have t0 := hf 0 3 0 rfl
  rw [show Tryd.prog.cellsOf 3 = 1 by kernel_rfl] at t0
  obtain ⟨p0, e0, o0, s0⟩ := ty_intM t0 Tryd.underlying3
  simp at e0
  have t1 := hf 1 3 1 rfl
  rw [show Tryd.prog.cellsOf 3 = 1 by kernel_rfl] at t1
  obtain ⟨p1, e1, o1, s1⟩ := ty_intM t1 Tryd.underlying3
  simp at e1
  have t2 := hf 2 3 2 rfl
  rw [show Tryd.prog.cellsOf 3 = 1 by kernel_rfl] at t2
  obtain ⟨p2, e2, o2, s2⟩ := ty_intM t2 Tryd.underlying3
  simp at e2
  have t3 := hf 3 3 3 rfl
  rw [show Tryd.prog.cellsOf 3 = 1 by kernel_rfl] at t3
  obtain ⟨p3, e3, o3, s3⟩ := ty_intM t3 Tryd.underlying3
  simp at e3
  have t4 := hf 4 80 4 rfl
  rw [show Tryd.prog.cellsOf 80 = 2 by kernel_rfl] at t4
  obtain ⟨p4, e4, o4, s4⟩ := of_Val t4
  simp [enc_Val] at e4
  have t5 := hf 5 23 6 rfl
  rw [show Tryd.prog.cellsOf 23 = 1 by kernel_rfl] at t5
  obtain ⟨p5, e5, o5, s5⟩ := of_LVal t5
  simp [enc_LVal] at e5
  have t6 := hf 6 102 7 rfl
  rw [show Tryd.prog.cellsOf 102 = 1 by kernel_rfl] at t6
  obtain ⟨p6, e6, o6, s6⟩ := of_LTry t6
  simp [enc_LTry] at e6
  refine ⟨(p0, p1, p2, p3, p4, p5, p6), ?_, ⟨o0, o1, o2, o3, o4, o5, o6⟩, ?_⟩
  · simp [enc_Frame, e0, e1, e2, e3, e4, e5, e6]
  · simp only [sz_Frame]; omega
abbrev A_LFrame : Type := Option Bool × List A_Frame
def enc_LFrame (p : A_LFrame) : List PV := [.sl p.1 false p.2.length (p.2.flatMap enc_Frame)]
def ok_LFrame (p : A_LFrame) : Prop := p.2.length ≤ maxLen ∧ ∀ x ∈ p.2, ok_Frame x
def sz_LFrame (p : A_LFrame) : Nat := (p.2.map fun x => sz_Frame x).sum + 1
theorem of_LFrame {r : List PV} {m : Nat} (h : TyC Tryd.prog 78 r m) : ∃ p : A_LFrame, r = enc_LFrame p ∧ ok_LFrame p ∧ sz_LFrame p ≤ m := by
  obtain ⟨nl, ps, h1, h2, h3, h4⟩ := ty_sliceM h Tryd.underlying78 enc_Frame (fun x => ok_Frame x) (fun x => sz_Frame x) (fun r m' h => of_Frame h)
  exact ⟨(nl, ps), h1, ⟨h2, h3⟩, h4⟩
abbrev A_Cell : Type := Int × Int × A_LVal × A_LFrame
def enc_Cell (p : A_Cell) : List PV := [Ia p.1, Ia p.2.1, .sl p.2.2.1.1 false p.2.2.1.2.length (p.2.2.1.2.flatMap enc_Val), .sl p.2.2.2.1 false p.2.2.2.2.length (p.2.2.2.2.flatMap enc_Frame)]
def ok_Cell (p : A_Cell) : Prop := (Lit.int .i64 p.1).wf = true ∧ (Lit.int .i64 p.2.1).wf = true ∧ ok_LVal p.2.2.1 ∧ ok_LFrame p.2.2.2
def sz_Cell (p : A_Cell) : Nat := 1 + 1 + sz_LVal p.2.2.1 + sz_LFrame p.2.2.2 + 1
theorem len_Cell (p : A_Cell) : (enc_Cell p).length = 4 := rfl
theorem of_Cell {r : List PV} {m : Nat} (h : TyC Tryd.prog 84 r m) : ∃ p : A_Cell, r = enc_Cell p ∧ ok_Cell p ∧ sz_Cell p ≤ m := by
  obtain ⟨hl, g, hf, hm⟩ := ty_fieldsM (l := [(3, 0), (3, 1), (23, 2), (78, 3)]) (by kernel_rfl) h
  rw [show Tryd.prog.cellsOf 84 = 4 by kernel_rfl] at hl
  simp only [sumF, List.length_cons, List.length_nil, Nat.zero_add, Nat.reduceAdd] at hm
  obtain ⟨c0, c1, c2, c3, rfl⟩ : ∃ c0 c1 c2 c3, r = [c0, c1, c2, c3] := by
    match r, hl with
    | [c0, c1, c2, c3], _ => exact ⟨c0, c1, c2, c3, rfl⟩
  have t0 := hf 0 3 0 rfl
  rw [show Tryd.prog.cellsOf 3 = 1 by kernel_rfl] at t0
  obtain ⟨p0, e0, o0, s0⟩ := ty_intM t0 Tryd.underlying3
  simp at e0
  have t1 := hf 1 3 1 rfl
  rw [show Tryd.prog.cellsOf 3 = 1 by kernel_rfl] at t1
  obtain ⟨p1, e1, o1, s1⟩ := ty_intM t1 Tryd.underlying3
  simp at e1
  have t2 := hf 2 23 2 rfl
  rw [show Tryd.prog.cellsOf 23 = 1 by kernel_rfl] at t2
  obtain ⟨p2, e2, o2, s2⟩ := of_LVal t2
  simp [enc_LVal] at e2
  have t3 := hf 3 78 3 rfl
  rw [show Tryd.prog.cellsOf 78 = 1 by kernel_rfl] at t3
  obtain ⟨p3, e3, o3, s3⟩ := of_LFrame t3
  simp [enc_LFrame] at e3
  refine ⟨(p0, p1, p2, p3), ?_, ⟨o0, o1, o2, o3⟩, ?_⟩
  · simp [enc_Cell, e0, e1, e2, e3]
  · simp only [sz_Cell]; omega
abbrev A_LCell : Type := Option Bool × List A_Cell
def enc_LCell (p : A_LCell) : List PV := [.sl p.1 false p.2.length (p.2.flatMap enc_Cell)]
def ok_LCell (p : A_LCell) : Prop := p.2.length ≤ maxLen ∧ ∀ x ∈ p.2, ok_Cell x
def sz_LCell (p : A_LCell) : Nat := (p.2.map fun x => sz_Cell x).sum + 1
theorem of_LCell {r : List PV} {m : Nat} (h : TyC Tryd.prog 27 r m) : ∃ p : A_LCell, r = enc_LCell p ∧ ok_LCell p ∧ sz_LCell p ≤ m := by
  obtain ⟨nl, ps, h1, h2, h3, h4⟩ := ty_sliceM h Tryd.underlying27 enc_Cell (fun x => ok_Cell x) (fun x => sz_Cell x) (fun r m' h => of_Cell h)
  exact ⟨(nl, ps), h1, ⟨h2, h3⟩, h4⟩
abbrev A_Shape : Type := Int × Int
def enc_Shape (p : A_Shape) : List PV := [Ia p.1, Ia p.2]
def ok_Shape (p : A_Shape) : Prop := (Lit.int .i64 p.1).wf = true ∧ (Lit.int .i64 p.2).wf = true
def sz_Shape (p : A_Shape) : Nat := 1 + 1 + 1
theorem len_Shape (p : A_Shape) : (enc_Shape p).length = 2 := rfl
theorem of_Shape {r : List PV} {m : Nat} (h : TyC Tryd.prog 146 r m) : ∃ p : A_Shape, r = enc_Shape p ∧ ok_Shape p ∧ sz_Shape p ≤ m := by
  obtain ⟨hl, g, hf, hm⟩ := ty_fieldsM (l := [(3, 0), (3, 1)]) (by kernel_rfl) h
  rw [show Tryd.prog.cellsOf 146 = 2 by kernel_rfl] at hl
  simp only [sumF, List.length_cons, List.length_nil, Nat.zero_add, Nat.reduceAdd] at hm
  obtain ⟨c0, c1, rfl⟩ : ∃ c0 c1, r = [c0, c1] := by
    match r, hl with
    | [c0, c1], _ => exact ⟨c0, c1, rfl⟩
  have t0 := hf 0 3 0 rfl
  rw [show Tryd.prog.cellsOf 3 = 1 by kernel_rfl] at t0
  obtain ⟨p0, e0, o0, s0⟩ := ty_intM t0 Tryd.underlying3
  simp at e0
  have t1 := hf 1 3 1 rfl
  rw [show Tryd.prog.cellsOf 3 = 1 by kernel_rfl] at t1
  obtain ⟨p1, e1, o1, s1⟩ := ty_intM t1 Tryd.underlying3
  simp at e1
  refine ⟨(p0, p1), ?_, ⟨o0, o1⟩, ?_⟩
  · simp [enc_Shape, e0, e1]
  · simp only [sz_Shape]; omega
abbrev A_LShape : Type := Option Bool × List A_Shape
def enc_LShape (p : A_LShape) : List PV := [.sl p.1 false p.2.length (p.2.flatMap enc_Shape)]
def ok_LShape (p : A_LShape) : Prop := p.2.length ≤ maxLen ∧ ∀ x ∈ p.2, ok_Shape x
def sz_LShape (p : A_LShape) : Nat := (p.2.map fun x => sz_Shape x).sum + 1
theorem of_LShape {r : List PV} {m : Nat} (h : TyC Tryd.prog 28 r m) : ∃ p : A_LShape, r = enc_LShape p ∧ ok_LShape p ∧ sz_LShape p ≤ m := by
  obtain ⟨nl, ps, h1, h2, h3, h4⟩ := ty_sliceM h Tryd.underlying28 enc_Shape (fun x => ok_Shape x) (fun x => sz_Shape x) (fun r m' h => of_Shape h)
  exact ⟨(nl, ps), h1, ⟨h2, h3⟩, h4⟩
abbrev A_Thread : Type := A_LFrame × Int × Int × A_Val
def enc_Thread (p : A_Thread) : List PV := [.sl p.1.1 false p.1.2.length (p.1.2.flatMap enc_Frame), Ia p.2.1, Ia p.2.2.1, Ia p.2.2.2.1, Ia p.2.2.2.2]
def ok_Thread (p : A_Thread) : Prop := ok_LFrame p.1 ∧ (Lit.int .i64 p.2.1).wf = true ∧ (Lit.int .i64 p.2.2.1).wf = true ∧ ok_Val p.2.2.2
def sz_Thread (p : A_Thread) : Nat := sz_LFrame p.1 + 1 + 1 + sz_Val p.2.2.2 + 1
theorem len_Thread (p : A_Thread) : (enc_Thread p).length = 5 := rfl
theorem of_Thread {r : List PV} {m : Nat} (h : TyC Tryd.prog 82 r m) : ∃ p : A_Thread, r = enc_Thread p ∧ ok_Thread p ∧ sz_Thread p ≤ m := by
  obtain ⟨hl, g, hf, hm⟩ := ty_fieldsM (l := [(78, 0), (3, 1), (3, 2), (80, 3)]) (by kernel_rfl) h
  rw [show Tryd.prog.cellsOf 82 = 5 by kernel_rfl] at hl
  simp only [sumF, List.length_cons, List.length_nil, Nat.zero_add, Nat.reduceAdd] at hm
  obtain ⟨c0, c1, c2, c3, c4, rfl⟩ : ∃ c0 c1 c2 c3 c4, r = [c0, c1, c2, c3, c4] := by
    match r, hl with
    | [c0, c1, c2, c3, c4], _ => exact ⟨c0, c1, c2, c3, c4, rfl⟩
  have t0 := hf 0 78 0 rfl
  rw [show Tryd.prog.cellsOf 78 = 1 by kernel_rfl] at t0
  obtain ⟨p0, e0, o0, s0⟩ := of_LFrame t0
  simp [enc_LFrame] at e0
  have t1 := hf 1 3 1 rfl
  rw [show Tryd.prog.cellsOf 3 = 1 by kernel_rfl] at t1
  obtain ⟨p1, e1, o1, s1⟩ := ty_intM t1 Tryd.underlying3
  simp at e1
  have t2 := hf 2 3 2 rfl
  rw [show Tryd.prog.cellsOf 3 = 1 by kernel_rfl] at t2
  obtain ⟨p2, e2, o2, s2⟩ := ty_intM t2 Tryd.underlying3
  simp at e2
  have t3 := hf 3 80 3 rfl
  rw [show Tryd.prog.cellsOf 80 = 2 by kernel_rfl] at t3
  obtain ⟨p3, e3, o3, s3⟩ := of_Val t3
  simp [enc_Val] at e3
  refine ⟨(p0, p1, p2, p3), ?_, ⟨o0, o1, o2, o3⟩, ?_⟩
  · simp [enc_Thread, e0, e1, e2, e3]
  · simp only [sz_Thread]; omega
abbrev A_LThread : Type := Option Bool × List A_Thread
def enc_LThread (p : A_LThread) : List PV := [.sl p.1 false p.2.length (p.2.flatMap enc_Thread)]
def ok_LThread (p : A_LThread) : Prop := p.2.length ≤ maxLen ∧ ∀ x ∈ p.2, ok_Thread x
def sz_LThread (p : A_LThread) : Nat := (p.2.map fun x => sz_Thread x).sum + 1
theorem of_LThread {r : List PV} {m : Nat} (h : TyC Tryd.prog 29 r m) : ∃ p : A_LThread, r = enc_LThread p ∧ ok_LThread p ∧ sz_LThread p ≤ m := by
  obtain ⟨nl, ps, h1, h2, h3, h4⟩ := ty_sliceM h Tryd.underlying29 enc_Thread (fun x => ok_Thread x) (fun x => sz_Thread x) (fun r m' h => of_Thread h)
  exact ⟨(nl, ps), h1, ⟨h2, h3⟩, h4⟩
abbrev A_End : Type := Int × A_Val
def enc_End (p : A_End) : List PV := [Ia p.1, Ia p.2.1, Ia p.2.2]
def ok_End (p : A_End) : Prop := (Lit.int .i64 p.1).wf = true ∧ ok_Val p.2
def sz_End (p : A_End) : Nat := 1 + sz_Val p.2 + 1
theorem len_End (p : A_End) : (enc_End p).length = 3 := rfl
theorem of_End {r : List PV} {m : Nat} (h : TyC Tryd.prog 154 r m) : ∃ p : A_End, r = enc_End p ∧ ok_End p ∧ sz_End p ≤ m := by
  obtain ⟨hl, g, hf, hm⟩ := ty_fieldsM (l := [(3, 0), (80, 1)]) (by kernel_rfl) h
  rw [show Tryd.prog.cellsOf 154 = 3 by kernel_rfl] at hl
  simp only [sumF, List.length_cons, List.length_nil, Nat.zero_add, Nat.reduceAdd] at hm
  obtain ⟨c0, c1, c2, rfl⟩ : ∃ c0 c1 c2, r = [c0, c1, c2] := by
    match r, hl with
    | [c0, c1, c2], _ => exact ⟨c0, c1, c2, rfl⟩
  have t0 := hf 0 3 0 rfl
  rw [show Tryd.prog.cellsOf 3 = 1 by kernel_rfl] at t0
  obtain ⟨p0, e0, o0, s0⟩ := ty_intM t0 Tryd.underlying3
  simp at e0
  have t1 := hf 1 80 1 rfl
  rw [show Tryd.prog.cellsOf 80 = 2 by kernel_rfl] at t1
  obtain ⟨p1, e1, o1, s1⟩ := of_Val t1
  simp [enc_Val] at e1
  refine ⟨(p0, p1), ?_, ⟨o0, o1⟩, ?_⟩
  · simp [enc_End, e0, e1]
  · simp only [sz_End]; omega
abbrev A_LEnd : Type := Option Bool × List A_End
def enc_LEnd (p : A_LEnd) : List PV := [.sl p.1 false p.2.length (p.2.flatMap enc_End)]
def ok_LEnd (p : A_LEnd) : Prop := p.2.length ≤ maxLen ∧ ∀ x ∈ p.2, ok_End x
def sz_LEnd (p : A_LEnd) : Nat := (p.2.map fun x => sz_End x).sum + 1
theorem of_LEnd {r : List PV} {m : Nat} (h : TyC Tryd.prog 30 r m) : ∃ p : A_LEnd, r = enc_LEnd p ∧ ok_LEnd p ∧ sz_LEnd p ≤ m := by
  obtain ⟨nl, ps, h1, h2, h3, h4⟩ := ty_sliceM h Tryd.underlying30 enc_End (fun x => ok_End x) (fun x => sz_End x) (fun r m' h => of_End h)
  exact ⟨(nl, ps), h1, ⟨h2, h3⟩, h4⟩
abbrev A_State : Type := A_LCell × A_LShape × A_Lstr × A_LThread × A_LEnd × A_LVal × Int × Int
def enc_State (p : A_State) : List PV := [.sl p.1.1 false p.1.2.length (p.1.2.flatMap enc_Cell), .sl p.2.1.1 false p.2.1.2.length (p.2.1.2.flatMap enc_Shape), .sl p.2.2.1.1 false p.2.2.1.2.length (p.2.2.1.2.map (fun z => .v (.string z))), .sl p.2.2.2.1.1 false p.2.2.2.1.2.length (p.2.2.2.1.2.flatMap enc_Thread), .sl p.2.2.2.2.1.1 false p.2.2.2.2.1.2.length (p.2.2.2.2.1.2.flatMap enc_End), .sl p.2.2.2.2.2.1.1 false p.2.2.2.2.2.1.2.length (p.2.2.2.2.2.1.2.flatMap enc_Val), Ia p.2.2.2.2.2.2.1, Ia p.2.2.2.2.2.2.2]
def ok_State (p : A_State) : Prop := ok_LCell p.1 ∧ ok_LShape p.2.1 ∧ ok_Lstr p.2.2.1 ∧ ok_LThread p.2.2.2.1 ∧ ok_LEnd p.2.2.2.2.1 ∧ ok_LVal p.2.2.2.2.2.1 ∧ (Lit.int .i64 p.2.2.2.2.2.2.1).wf = true ∧ (Lit.int .i64 p.2.2.2.2.2.2.2).wf = true
def sz_State (p : A_State) : Nat := sz_LCell p.1 + sz_LShape p.2.1 + sz_Lstr p.2.2.1 + sz_LThread p.2.2.2.1 + sz_LEnd p.2.2.2.2.1 + sz_LVal p.2.2.2.2.2.1 + 1 + 1 + 1
theorem len_State (p : A_State) : (enc_State p).length = 8 := rfl
theorem of_State {r : List PV} {m : Nat} (h : TyC Tryd.prog 32 r m) : ∃ p : A_State, r = enc_State p ∧ ok_State p ∧ sz_State p ≤ m := by
  obtain ⟨hl, g, hf, hm⟩ := ty_fieldsM (l := [(27, 0), (28, 1), (24, 2), (29, 3), (30, 4), (23, 5), (3, 6), (3, 7)]) (by kernel_rfl) h
  rw [show Tryd.prog.cellsOf 32 = 8 by kernel_rfl] at hl
  simp only [sumF, List.length_cons, List.length_nil, Nat.zero_add, Nat.reduceAdd] at hm
  obtain ⟨c0, c1, c2, c3, c4, c5, c6, c7, rfl⟩ : ∃ c0 c1 c2 c3 c4 c5 c6 c7, r = [c0, c1, c2, c3, c4, c5, c6, c7] := by
    match r, hl with
    | [c0, c1, c2, c3, c4, c5, c6, c7], _ => exact ⟨c0, c1, c2, c3, c4, c5, c6, c7, rfl⟩
  have t0 := hf 0 27 0 rfl
  rw [show Tryd.prog.cellsOf 27 = 1 by kernel_rfl] at t0
  obtain ⟨p0, e0, o0, s0⟩ := of_LCell t0
  simp [enc_LCell] at e0
  have t1 := hf 1 28 1 rfl
  rw [show Tryd.prog.cellsOf 28 = 1 by kernel_rfl] at t1
  obtain ⟨p1, e1, o1, s1⟩ := of_LShape t1
  simp [enc_LShape] at e1
  have t2 := hf 2 24 2 rfl
  rw [show Tryd.prog.cellsOf 24 = 1 by kernel_rfl] at t2
  obtain ⟨p2, e2, o2, s2⟩ := of_Lstr t2
  simp [enc_Lstr] at e2
  have t3 := hf 3 29 3 rfl
  rw [show Tryd.prog.cellsOf 29 = 1 by kernel_rfl] at t3
  obtain ⟨p3, e3, o3, s3⟩ := of_LThread t3
  simp [enc_LThread] at e3
  have t4 := hf 4 30 4 rfl
  rw [show Tryd.prog.cellsOf 30 = 1 by kernel_rfl] at t4
  obtain ⟨p4, e4, o4, s4⟩ := of_LEnd t4
  simp [enc_LEnd] at e4
  have t5 := hf 5 23 5 rfl
  rw [show Tryd.prog.cellsOf 23 = 1 by kernel_rfl] at t5
  obtain ⟨p5, e5, o5, s5⟩ := of_LVal t5
  simp [enc_LVal] at e5
  have t6 := hf 6 3 6 rfl
  rw [show Tryd.prog.cellsOf 3 = 1 by kernel_rfl] at t6
  obtain ⟨p6, e6, o6, s6⟩ := ty_intM t6 Tryd.underlying3
  simp at e6
  have t7 := hf 7 3 7 rfl
  rw [show Tryd.prog.cellsOf 3 = 1 by kernel_rfl] at t7
  obtain ⟨p7, e7, o7, s7⟩ := ty_intM t7 Tryd.underlying3
  simp at e7
  refine ⟨(p0, p1, p2, p3, p4, p5, p6, p7), ?_, ⟨o0, o1, o2, o3, o4, o5, o6, o7⟩, ?_⟩
  · simp [enc_State, e0, e1, e2, e3, e4, e5, e6, e7]
  · simp only [sz_State]; omega
abbrev A_LState : Type := Option Bool × List A_State
def enc_LState (p : A_LState) : List PV := [.sl p.1 false p.2.length (p.2.flatMap enc_State)]
def ok_LState (p : A_LState) : Prop := p.2.length ≤ maxLen ∧ ∀ x ∈ p.2, ok_State x
def sz_LState (p : A_LState) : Nat := (p.2.map fun x => sz_State x).sum + 1
theorem of_LState {r : List PV} {m : Nat} (h : TyC Tryd.prog 43 r m) : ∃ p : A_LState, r = enc_LState p ∧ ok_LState p ∧ sz_LState p ≤ m := by
  obtain ⟨nl, ps, h1, h2, h3, h4⟩ := ty_sliceM h Tryd.underlying43 enc_State (fun x => ok_State x) (fun x => sz_State x) (fun r m' h => of_State h)
  exact ⟨(nl, ps), h1, ⟨h2, h3⟩, h4⟩
theorem small_sum {H : Type} {ds gs : List (DataW H)} (h : Rows.uptoSmall H (ds ++ gs) = true) : (ds.map Rows.uptoBulk).sum ≤ 1048576 := by
  have h1 : Rows.uptoBulkAll (ds ++ gs) ≤ 1048576 := of_decide_eq_true h
  have h2 : ∀ l : List (DataW H), (l.map Rows.uptoBulk).sum = Rows.uptoBulkAll l := by
    intro l
    induction l with
    | nil => rfl
    | cons d l ih => simp [Rows.uptoBulkAll, ih]
  rw [← h2, List.map_append, List.sum_append] at h1
  omega
theorem bulkOk (H : Type) : BulkOk (Rows.uptoBulk (H := H)) := by
  have all : ∀ l : List (DataW H), (l.map Rows.uptoBulk).sum = Rows.uptoBulkAll l := by
    intro l
    induction l with
    | nil => rfl
    | cons d l ih => simp [Rows.uptoBulkAll, ih]
  refine ⟨fun l => ?_, fun s => ?_, ?_, fun es sp => ?_, fun ps => ?_⟩
  · cases l <;> simp [Rows.uptoBulk]
  · simp [Rows.uptoBulk]
  · simp [Rows.uptoBulk]
  · simp [Rows.uptoBulk, all]
  · simp [Rows.uptoBulk, all]
theorem own : ownKnob Tryd.prog.godebug = none := by kernel_rfl
theorem laidOut : laidOutB Tryd.prog = true := by kernel_rfl
end Go.Proofs.YtfdnamedmjhcfaaDoor
