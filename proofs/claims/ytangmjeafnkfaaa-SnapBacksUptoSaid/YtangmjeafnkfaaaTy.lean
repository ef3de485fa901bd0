import Derived.Test.YtangmjeafnkfaaaAm19
import Derived.Test.YtangmjeafnkfaaaRows
set_option linter.unusedVariables false
set_option linter.unusedSimpArgs false
set_option maxRecDepth 100000
namespace Go.Proofs.Ytangmjeafnkfaaa
open Go Go.AM
open Go.ChangeShapes Go.WideShapes Go.ChangeAt Go.RowKit
abbrev A_Li64 : Type := Option Bool × List Int
def enc_Li64 (p : A_Li64) : List PV := [.sl p.1 false p.2.length (p.2.map Ia)]
def ok_Li64 (p : A_Li64) : Prop := p.2.length ≤ maxLen ∧ ∀ x ∈ p.2, (Lit.int .i64 x).wf = true
def sz_Li64 (p : A_Li64) : Nat := (p.2.map fun x => 1).sum + 1
theorem of_Li64 {r : List PV} {m : Nat} (h : TyC Try.prog 22 r m) : ∃ p : A_Li64, r = enc_Li64 p ∧ ok_Li64 p ∧ sz_Li64 p ≤ m := by
  obtain ⟨nl, ps, h1, h2, h3, h4⟩ := ty_sliceM h Try.underlying22 (fun z => [Ia z]) (fun x => (Lit.int .i64 x).wf = true) (fun x => 1) (fun r m' h => (ty_intM h Try.underlying3))
  exact ⟨(nl, ps), by rw [h1, flat_one]; rfl, ⟨h2, h3⟩, h4⟩
abbrev A_Val : Type := Int × Int
def enc_Val (p : A_Val) : List PV := [Ia p.1, Ia p.2]
def ok_Val (p : A_Val) : Prop := (Lit.int .i64 p.1).wf = true ∧ (Lit.int .i64 p.2).wf = true
def sz_Val (p : A_Val) : Nat := 1 + 1 + 1
theorem len_Val (p : A_Val) : (enc_Val p).length = 2 := rfl
theorem of_Val {r : List PV} {m : Nat} (h : TyC Try.prog 48 r m) : ∃ p : A_Val, r = enc_Val p ∧ ok_Val p ∧ sz_Val p ≤ m := by
  obtain ⟨hl, g, hf, hm⟩ := ty_fieldsM (l := [(3, 0), (3, 1)]) (by kernel_rfl) h
  rw [show Try.prog.cellsOf 48 = 2 by kernel_rfl] at hl
  simp only [sumF, List.length_cons, List.length_nil, Nat.zero_add, Nat.reduceAdd] at hm
  obtain ⟨c0, c1, rfl⟩ : ∃ c0 c1, r = [c0, c1] := by
    match r, hl with
    | [c0, c1], _ => exact ⟨c0, c1, rfl⟩
  have t0 := hf 0 3 0 rfl
  rw [show Try.prog.cellsOf 3 = 1 by kernel_rfl] at t0
  obtain ⟨p0, e0, o0, s0⟩ := ty_intM t0 Try.underlying3
  simp at e0
  have t1 := hf 1 3 1 rfl
  rw [show Try.prog.cellsOf 3 = 1 by kernel_rfl] at t1
  obtain ⟨p1, e1, o1, s1⟩ := ty_intM t1 Try.underlying3
  simp at e1
  refine ⟨(p0, p1), ?_, ⟨o0, o1⟩, ?_⟩
  · simp [enc_Val, e0, e1]
  · simp only [sz_Val]; omega
abbrev A_LVal : Type := Option Bool × List A_Val
def enc_LVal (p : A_LVal) : List PV := [.sl p.1 false p.2.length (p.2.flatMap enc_Val)]
def ok_LVal (p : A_LVal) : Prop := p.2.length ≤ maxLen ∧ ∀ x ∈ p.2, ok_Val x
def sz_LVal (p : A_LVal) : Nat := (p.2.map fun x => sz_Val x).sum + 1
theorem of_LVal {r : List PV} {m : Nat} (h : TyC Try.prog 34 r m) : ∃ p : A_LVal, r = enc_LVal p ∧ ok_LVal p ∧ sz_LVal p ≤ m := by
  obtain ⟨nl, ps, h1, h2, h3, h4⟩ := ty_sliceM h Try.underlying34 enc_Val (fun x => ok_Val x) (fun x => sz_Val x) (fun r m' h => of_Val h)
  exact ⟨(nl, ps), h1, ⟨h2, h3⟩, h4⟩
abbrev A_Try : Type := Int × Int
def enc_Try (p : A_Try) : List PV := [Ia p.1, Ia p.2]
def ok_Try (p : A_Try) : Prop := (Lit.int .i64 p.1).wf = true ∧ (Lit.int .i64 p.2).wf = true
def sz_Try (p : A_Try) : Nat := 1 + 1 + 1
theorem len_Try (p : A_Try) : (enc_Try p).length = 2 := rfl
theorem of_Try {r : List PV} {m : Nat} (h : TyC Try.prog 212 r m) : ∃ p : A_Try, r = enc_Try p ∧ ok_Try p ∧ sz_Try p ≤ m := by
  obtain ⟨hl, g, hf, hm⟩ := ty_fieldsM (l := [(3, 0), (3, 1)]) (by kernel_rfl) h
  rw [show Try.prog.cellsOf 212 = 2 by kernel_rfl] at hl
  simp only [sumF, List.length_cons, List.length_nil, Nat.zero_add, Nat.reduceAdd] at hm
  obtain ⟨c0, c1, rfl⟩ : ∃ c0 c1, r = [c0, c1] := by
    match r, hl with
    | [c0, c1], _ => exact ⟨c0, c1, rfl⟩
  have t0 := hf 0 3 0 rfl
  rw [show Try.prog.cellsOf 3 = 1 by kernel_rfl] at t0
  obtain ⟨p0, e0, o0, s0⟩ := ty_intM t0 Try.underlying3
  simp at e0
  have t1 := hf 1 3 1 rfl
  rw [show Try.prog.cellsOf 3 = 1 by kernel_rfl] at t1
  obtain ⟨p1, e1, o1, s1⟩ := ty_intM t1 Try.underlying3
  simp at e1
  refine ⟨(p0, p1), ?_, ⟨o0, o1⟩, ?_⟩
  · simp [enc_Try, e0, e1]
  · simp only [sz_Try]; omega
abbrev A_LTry : Type := Option Bool × List A_Try
def enc_LTry (p : A_LTry) : List PV := [.sl p.1 false p.2.length (p.2.flatMap enc_Try)]
def ok_LTry (p : A_LTry) : Prop := p.2.length ≤ maxLen ∧ ∀ x ∈ p.2, ok_Try x
def sz_LTry (p : A_LTry) : Nat := (p.2.map fun x => sz_Try x).sum + 1
theorem of_LTry {r : List PV} {m : Nat} (h : TyC Try.prog 205 r m) : ∃ p : A_LTry, r = enc_LTry p ∧ ok_LTry p ∧ sz_LTry p ≤ m := by
  obtain ⟨nl, ps, h1, h2, h3, h4⟩ := ty_sliceM h Try.underlying205 enc_Try (fun x => ok_Try x) (fun x => sz_Try x) (fun r m' h => of_Try h)
  exact ⟨(nl, ps), h1, ⟨h2, h3⟩, h4⟩
abbrev A_Frame : Type := Int × Int × Int × Int × A_Val × A_LVal × A_LTry
def enc_Frame (p : A_Frame) : List PV := [Ia p.1, Ia p.2.1, Ia p.2.2.1, Ia p.2.2.2.1, Ia p.2.2.2.2.1.1, Ia p.2.2.2.2.1.2, .sl p.2.2.2.2.2.1.1 false p.2.2.2.2.2.1.2.length (p.2.2.2.2.2.1.2.flatMap enc_Val), .sl p.2.2.2.2.2.2.1 false p.2.2.2.2.2.2.2.length (p.2.2.2.2.2.2.2.flatMap enc_Try)]
def ok_Frame (p : A_Frame) : Prop := (Lit.int .i64 p.1).wf = true ∧ (Lit.int .i64 p.2.1).wf = true ∧ (Lit.int .i64 p.2.2.1).wf = true ∧ (Lit.int .i64 p.2.2.2.1).wf = true ∧ ok_Val p.2.2.2.2.1 ∧ ok_LVal p.2.2.2.2.2.1 ∧ ok_LTry p.2.2.2.2.2.2
def sz_Frame (p : A_Frame) : Nat := 1 + 1 + 1 + 1 + sz_Val p.2.2.2.2.1 + sz_LVal p.2.2.2.2.2.1 + sz_LTry p.2.2.2.2.2.2 + 1
theorem len_Frame (p : A_Frame) : (enc_Frame p).length = 8 := rfl
theorem of_Frame {r : List PV} {m : Nat} (h : TyC Try.prog 207 r m) : ∃ p : A_Frame, r = enc_Frame p ∧ ok_Frame p ∧ sz_Frame p ≤ m := by
  obtain ⟨hl, g, hf, hm⟩ := ty_fieldsM (l := [(3, 0), (3, 1), (3, 2), (3, 3), (48, 4), (34, 6), (205, 7)]) (by kernel_rfl) h
  rw [show Try.prog.cellsOf 207 = 8 by kernel_rfl] at hl
  simp only [sumF, List.length_cons, List.length_nil, Nat.zero_add, Nat.reduceAdd] at hm
  obtain ⟨c0, c1, c2, c3, c4, c5, c6, c7, rfl⟩ : ∃ c0 c1 c2 c3 c4 c5 c6 c7, r = [c0, c1, c2, c3, c4, c5, c6, c7] := by
    match r, hl with
    | [c0, c1, c2, c3, c4, c5, c6, c7], _ => exact ⟨c0, c1, c2, c3, c4, c5, c6, c7, rfl⟩
  have t0 := hf 0 3 0 rfl
  rw [show Try.prog.cellsOf 3 = 1 by kernel_rfl] at t0
  obtain ⟨p0, e0, o0, s0⟩ := ty_intM t0 Try.underlying3
  simp at e0
  have t1 := hf 1 3 1 rfl
  rw [show Try.prog.cellsOf 3 = 1 by kernel_rfl] at t1
  obtain ⟨p1, e1, o1, s1⟩ := ty_intM t1 Try.underlying3
  simp at e1
  have t2 := hf 2 3 2 rfl
  rw [show Try.prog.cellsOf 3 = 1 by kernel_rfl] at t2
  obtain ⟨p2, e2, o2, s2⟩ := ty_intM t2 Try.underlying3
  simp at e2
  have t3 := hf 3 3 3 rfl
  rw [show Try.prog.cellsOf 3 = 1 by kernel_rfl] at t3
  obtain ⟨p3, e3, o3, s3⟩ := ty_intM t3 Try.underlying3
  simp at e3
  have t4 := hf 4 48 4 rfl
  rw [show Try.prog.cellsOf 48 = 2 by kernel_rfl] at t4
  obtain ⟨p4, e4, o4, s4⟩ := of_Val t4
  simp [enc_Val] at e4
  have t5 := hf 5 34 6 rfl
  rw [show Try.prog.cellsOf 34 = 1 by kernel_rfl] at t5
  obtain ⟨p5, e5, o5, s5⟩ := of_LVal t5
  simp [enc_LVal] at e5
  have t6 := hf 6 205 7 rfl
  rw [show Try.prog.cellsOf 205 = 1 by kernel_rfl] at t6
  obtain ⟨p6, e6, o6, s6⟩ := of_LTry t6
  simp [enc_LTry] at e6
  refine ⟨(p0, p1, p2, p3, p4, p5, p6), ?_, ⟨o0, o1, o2, o3, o4, o5, o6⟩, ?_⟩
  · simp [enc_Frame, e0, e1, e2, e3, e4, e5, e6]
  · simp only [sz_Frame]; omega
abbrev A_LFrame : Type := Option Bool × List A_Frame
def enc_LFrame (p : A_LFrame) : List PV := [.sl p.1 false p.2.length (p.2.flatMap enc_Frame)]
def ok_LFrame (p : A_LFrame) : Prop := p.2.length ≤ maxLen ∧ ∀ x ∈ p.2, ok_Frame x
def sz_LFrame (p : A_LFrame) : Nat := (p.2.map fun x => sz_Frame x).sum + 1
theorem of_LFrame {r : List PV} {m : Nat} (h : TyC Try.prog 128 r m) : ∃ p : A_LFrame, r = enc_LFrame p ∧ ok_LFrame p ∧ sz_LFrame p ≤ m := by
  obtain ⟨nl, ps, h1, h2, h3, h4⟩ := ty_sliceM h Try.underlying128 enc_Frame (fun x => ok_Frame x) (fun x => sz_Frame x) (fun r m' h => of_Frame h)
  exact ⟨(nl, ps), h1, ⟨h2, h3⟩, h4⟩
abbrev A_Cell : Type := Int × Int × A_LVal × A_LFrame
def enc_Cell (p : A_Cell) : List PV := [Ia p.1, Ia p.2.1, .sl p.2.2.1.1 false p.2.2.1.2.length (p.2.2.1.2.flatMap enc_Val), .sl p.2.2.2.1 false p.2.2.2.2.length (p.2.2.2.2.flatMap enc_Frame)]
def ok_Cell (p : A_Cell) : Prop := (Lit.int .i64 p.1).wf = true ∧ (Lit.int .i64 p.2.1).wf = true ∧ ok_LVal p.2.2.1 ∧ ok_LFrame p.2.2.2
def sz_Cell (p : A_Cell) : Nat := 1 + 1 + sz_LVal p.2.2.1 + sz_LFrame p.2.2.2 + 1
theorem len_Cell (p : A_Cell) : (enc_Cell p).length = 4 := rfl
theorem of_Cell {r : List PV} {m : Nat} (h : TyC Try.prog 130 r m) : ∃ p : A_Cell, r = enc_Cell p ∧ ok_Cell p ∧ sz_Cell p ≤ m := by
  obtain ⟨hl, g, hf, hm⟩ := ty_fieldsM (l := [(3, 0), (3, 1), (34, 2), (128, 3)]) (by kernel_rfl) h
  rw [show Try.prog.cellsOf 130 = 4 by kernel_rfl] at hl
  simp only [sumF, List.length_cons, List.length_nil, Nat.zero_add, Nat.reduceAdd] at hm
  obtain ⟨c0, c1, c2, c3, rfl⟩ : ∃ c0 c1 c2 c3, r = [c0, c1, c2, c3] := by
    match r, hl with
    | [c0, c1, c2, c3], _ => exact ⟨c0, c1, c2, c3, rfl⟩
  have t0 := hf 0 3 0 rfl
  rw [show Try.prog.cellsOf 3 = 1 by kernel_rfl] at t0
  obtain ⟨p0, e0, o0, s0⟩ := ty_intM t0 Try.underlying3
  simp at e0
  have t1 := hf 1 3 1 rfl
  rw [show Try.prog.cellsOf 3 = 1 by kernel_rfl] at t1
  obtain ⟨p1, e1, o1, s1⟩ := ty_intM t1 Try.underlying3
  simp at e1
  have t2 := hf 2 34 2 rfl
  rw [show Try.prog.cellsOf 34 = 1 by kernel_rfl] at t2
  obtain ⟨p2, e2, o2, s2⟩ := of_LVal t2
  simp [enc_LVal] at e2
  have t3 := hf 3 128 3 rfl
  rw [show Try.prog.cellsOf 128 = 1 by kernel_rfl] at t3
  obtain ⟨p3, e3, o3, s3⟩ := of_LFrame t3
  simp [enc_LFrame] at e3
  refine ⟨(p0, p1, p2, p3), ?_, ⟨o0, o1, o2, o3⟩, ?_⟩
  · simp [enc_Cell, e0, e1, e2, e3]
  · simp only [sz_Cell]; omega
abbrev A_LCell : Type := Option Bool × List A_Cell
def enc_LCell (p : A_LCell) : List PV := [.sl p.1 false p.2.length (p.2.flatMap enc_Cell)]
def ok_LCell (p : A_LCell) : Prop := p.2.length ≤ maxLen ∧ ∀ x ∈ p.2, ok_Cell x
def sz_LCell (p : A_LCell) : Nat := (p.2.map fun x => sz_Cell x).sum + 1
theorem of_LCell {r : List PV} {m : Nat} (h : TyC Try.prog 29 r m) : ∃ p : A_LCell, r = enc_LCell p ∧ ok_LCell p ∧ sz_LCell p ≤ m := by
  obtain ⟨nl, ps, h1, h2, h3, h4⟩ := ty_sliceM h Try.underlying29 enc_Cell (fun x => ok_Cell x) (fun x => sz_Cell x) (fun r m' h => of_Cell h)
  exact ⟨(nl, ps), h1, ⟨h2, h3⟩, h4⟩
abbrev A_Shape : Type := Int × Int
def enc_Shape (p : A_Shape) : List PV := [Ia p.1, Ia p.2]
def ok_Shape (p : A_Shape) : Prop := (Lit.int .i64 p.1).wf = true ∧ (Lit.int .i64 p.2).wf = true
def sz_Shape (p : A_Shape) : Nat := 1 + 1 + 1
theorem len_Shape (p : A_Shape) : (enc_Shape p).length = 2 := rfl
theorem of_Shape {r : List PV} {m : Nat} (h : TyC Try.prog 134 r m) : ∃ p : A_Shape, r = enc_Shape p ∧ ok_Shape p ∧ sz_Shape p ≤ m := by
  obtain ⟨hl, g, hf, hm⟩ := ty_fieldsM (l := [(3, 0), (3, 1)]) (by kernel_rfl) h
  rw [show Try.prog.cellsOf 134 = 2 by kernel_rfl] at hl
  simp only [sumF, List.length_cons, List.length_nil, Nat.zero_add, Nat.reduceAdd] at hm
  obtain ⟨c0, c1, rfl⟩ : ∃ c0 c1, r = [c0, c1] := by
    match r, hl with
    | [c0, c1], _ => exact ⟨c0, c1, rfl⟩
  have t0 := hf 0 3 0 rfl
  rw [show Try.prog.cellsOf 3 = 1 by kernel_rfl] at t0
  obtain ⟨p0, e0, o0, s0⟩ := ty_intM t0 Try.underlying3
  simp at e0
  have t1 := hf 1 3 1 rfl
  rw [show Try.prog.cellsOf 3 = 1 by kernel_rfl] at t1
  obtain ⟨p1, e1, o1, s1⟩ := ty_intM t1 Try.underlying3
  simp at e1
  refine ⟨(p0, p1), ?_, ⟨o0, o1⟩, ?_⟩
  · simp [enc_Shape, e0, e1]
  · simp only [sz_Shape]; omega
abbrev A_LShape : Type := Option Bool × List A_Shape
def enc_LShape (p : A_LShape) : List PV := [.sl p.1 false p.2.length (p.2.flatMap enc_Shape)]
def ok_LShape (p : A_LShape) : Prop := p.2.length ≤ maxLen ∧ ∀ x ∈ p.2, ok_Shape x
def sz_LShape (p : A_LShape) : Nat := (p.2.map fun x => sz_Shape x).sum + 1
theorem of_LShape {r : List PV} {m : Nat} (h : TyC Try.prog 30 r m) : ∃ p : A_LShape, r = enc_LShape p ∧ ok_LShape p ∧ sz_LShape p ≤ m := by
  obtain ⟨nl, ps, h1, h2, h3, h4⟩ := ty_sliceM h Try.underlying30 enc_Shape (fun x => ok_Shape x) (fun x => sz_Shape x) (fun r m' h => of_Shape h)
  exact ⟨(nl, ps), h1, ⟨h2, h3⟩, h4⟩
abbrev A_Lstr : Type := Option Bool × List ByteArray
def enc_Lstr (p : A_Lstr) : List PV := [.sl p.1 false p.2.length (p.2.map (fun z => .v (.string z)))]
def ok_Lstr (p : A_Lstr) : Prop := p.2.length ≤ maxLen ∧ ∀ x ∈ p.2, x.size ≤ maxLen
def sz_Lstr (p : A_Lstr) : Nat := (p.2.map fun x => (x.size + 1)).sum + 1
theorem of_Lstr {r : List PV} {m : Nat} (h : TyC Try.prog 31 r m) : ∃ p : A_Lstr, r = enc_Lstr p ∧ ok_Lstr p ∧ sz_Lstr p ≤ m := by
  obtain ⟨nl, ps, h1, h2, h3, h4⟩ := ty_sliceM h Try.underlying31 (fun z => [.v (.string z)]) (fun x => x.size ≤ maxLen) (fun x => (x.size + 1)) (fun r m' h => (ty_strM h Try.underlying9))
  exact ⟨(nl, ps), by rw [h1, flat_one]; rfl, ⟨h2, h3⟩, h4⟩
abbrev A_Thread : Type := A_LFrame × Int × Int × A_Val
def enc_Thread (p : A_Thread) : List PV := [.sl p.1.1 false p.1.2.length (p.1.2.flatMap enc_Frame), Ia p.2.1, Ia p.2.2.1, Ia p.2.2.2.1, Ia p.2.2.2.2]
def ok_Thread (p : A_Thread) : Prop := ok_LFrame p.1 ∧ (Lit.int .i64 p.2.1).wf = true ∧ (Lit.int .i64 p.2.2.1).wf = true ∧ ok_Val p.2.2.2
def sz_Thread (p : A_Thread) : Nat := sz_LFrame p.1 + 1 + 1 + sz_Val p.2.2.2 + 1
theorem len_Thread (p : A_Thread) : (enc_Thread p).length = 5 := rfl
theorem of_Thread {r : List PV} {m : Nat} (h : TyC Try.prog 141 r m) : ∃ p : A_Thread, r = enc_Thread p ∧ ok_Thread p ∧ sz_Thread p ≤ m := by
  obtain ⟨hl, g, hf, hm⟩ := ty_fieldsM (l := [(128, 0), (3, 1), (3, 2), (48, 3)]) (by kernel_rfl) h
  rw [show Try.prog.cellsOf 141 = 5 by kernel_rfl] at hl
  simp only [sumF, List.length_cons, List.length_nil, Nat.zero_add, Nat.reduceAdd] at hm
  obtain ⟨c0, c1, c2, c3, c4, rfl⟩ : ∃ c0 c1 c2 c3 c4, r = [c0, c1, c2, c3, c4] := by
    match r, hl with
    | [c0, c1, c2, c3, c4], _ => exact ⟨c0, c1, c2, c3, c4, rfl⟩
  have t0 := hf 0 128 0 rfl
  rw [show Try.prog.cellsOf 128 = 1 by kernel_rfl] at t0
  obtain ⟨p0, e0, o0, s0⟩ := of_LFrame t0
  simp [enc_LFrame] at e0
  have t1 := hf 1 3 1 rfl
  rw [show Try.prog.cellsOf 3 = 1 by kernel_rfl] at t1
  obtain ⟨p1, e1, o1, s1⟩ := ty_intM t1 Try.underlying3
  simp at e1
  have t2 := hf 2 3 2 rfl
  rw [show Try.prog.cellsOf 3 = 1 by kernel_rfl] at t2
  obtain ⟨p2, e2, o2, s2⟩ := ty_intM t2 Try.underlying3
  simp at e2
  have t3 := hf 3 48 3 rfl
  rw [show Try.prog.cellsOf 48 = 2 by kernel_rfl] at t3
  obtain ⟨p3, e3, o3, s3⟩ := of_Val t3
  simp [enc_Val] at e3
  refine ⟨(p0, p1, p2, p3), ?_, ⟨o0, o1, o2, o3⟩, ?_⟩
  · simp [enc_Thread, e0, e1, e2, e3]
  · simp only [sz_Thread]; omega
abbrev A_LThread : Type := Option Bool × List A_Thread
def enc_LThread (p : A_LThread) : List PV := [.sl p.1 false p.2.length (p.2.flatMap enc_Thread)]
def ok_LThread (p : A_LThread) : Prop := p.2.length ≤ maxLen ∧ ∀ x ∈ p.2, ok_Thread x
def sz_LThread (p : A_LThread) : Nat := (p.2.map fun x => sz_Thread x).sum + 1
theorem of_LThread {r : List PV} {m : Nat} (h : TyC Try.prog 32 r m) : ∃ p : A_LThread, r = enc_LThread p ∧ ok_LThread p ∧ sz_LThread p ≤ m := by
  obtain ⟨nl, ps, h1, h2, h3, h4⟩ := ty_sliceM h Try.underlying32 enc_Thread (fun x => ok_Thread x) (fun x => sz_Thread x) (fun r m' h => of_Thread h)
  exact ⟨(nl, ps), h1, ⟨h2, h3⟩, h4⟩
abbrev A_End : Type := Int × A_Val
def enc_End (p : A_End) : List PV := [Ia p.1, Ia p.2.1, Ia p.2.2]
def ok_End (p : A_End) : Prop := (Lit.int .i64 p.1).wf = true ∧ ok_Val p.2
def sz_End (p : A_End) : Nat := 1 + sz_Val p.2 + 1
theorem len_End (p : A_End) : (enc_End p).length = 3 := rfl
theorem of_End {r : List PV} {m : Nat} (h : TyC Try.prog 145 r m) : ∃ p : A_End, r = enc_End p ∧ ok_End p ∧ sz_End p ≤ m := by
  obtain ⟨hl, g, hf, hm⟩ := ty_fieldsM (l := [(3, 0), (48, 1)]) (by kernel_rfl) h
  rw [show Try.prog.cellsOf 145 = 3 by kernel_rfl] at hl
  simp only [sumF, List.length_cons, List.length_nil, Nat.zero_add, Nat.reduceAdd] at hm
  obtain ⟨c0, c1, c2, rfl⟩ : ∃ c0 c1 c2, r = [c0, c1, c2] := by
    match r, hl with
    | [c0, c1, c2], _ => exact ⟨c0, c1, c2, rfl⟩
  have t0 := hf 0 3 0 rfl
  rw [show Try.prog.cellsOf 3 = 1 by kernel_rfl] at t0
  obtain ⟨p0, e0, o0, s0⟩ := ty_intM t0 Try.underlying3
  simp at e0
  have t1 := hf 1 48 1 rfl
  rw [show Try.prog.cellsOf 48 = 2 by kernel_rfl] at t1
  obtain ⟨p1, e1, o1, s1⟩ := of_Val t1
  simp [enc_Val] at e1
  refine ⟨(p0, p1), ?_, ⟨o0, o1⟩, ?_⟩
  · simp [enc_End, e0, e1]
  · simp only [sz_End]; omega
abbrev A_LEnd : Type := Option Bool × List A_End
def enc_LEnd (p : A_LEnd) : List PV := [.sl p.1 false p.2.length (p.2.flatMap enc_End)]
def ok_LEnd (p : A_LEnd) : Prop := p.2.length ≤ maxLen ∧ ∀ x ∈ p.2, ok_End x
def sz_LEnd (p : A_LEnd) : Nat := (p.2.map fun x => sz_End x).sum + 1
theorem of_LEnd {r : List PV} {m : Nat} (h : TyC Try.prog 33 r m) : ∃ p : A_LEnd, r = enc_LEnd p ∧ ok_LEnd p ∧ sz_LEnd p ≤ m := by
  obtain ⟨nl, ps, h1, h2, h3, h4⟩ := ty_sliceM h Try.underlying33 enc_End (fun x => ok_End x) (fun x => sz_End x) (fun r m' h => of_End h)
  exact ⟨(nl, ps), h1, ⟨h2, h3⟩, h4⟩
abbrev A_State : Type := A_LCell × A_LShape × A_Lstr × A_LThread × A_LEnd × A_LVal × Int × Int
def enc_State (p : A_State) : List PV := [.sl p.1.1 false p.1.2.length (p.1.2.flatMap enc_Cell), .sl p.2.1.1 false p.2.1.2.length (p.2.1.2.flatMap enc_Shape), .sl p.2.2.1.1 false p.2.2.1.2.length (p.2.2.1.2.map (fun z => .v (.string z))), .sl p.2.2.2.1.1 false p.2.2.2.1.2.length (p.2.2.2.1.2.flatMap enc_Thread), .sl p.2.2.2.2.1.1 false p.2.2.2.2.1.2.length (p.2.2.2.2.1.2.flatMap enc_End), .sl p.2.2.2.2.2.1.1 false p.2.2.2.2.2.1.2.length (p.2.2.2.2.2.1.2.flatMap enc_Val), Ia p.2.2.2.2.2.2.1, Ia p.2.2.2.2.2.2.2]
def ok_State (p : A_State) : Prop := ok_LCell p.1 ∧ ok_LShape p.2.1 ∧ ok_Lstr p.2.2.1 ∧ ok_LThread p.2.2.2.1 ∧ ok_LEnd p.2.2.2.2.1 ∧ ok_LVal p.2.2.2.2.2.1 ∧ (Lit.int .i64 p.2.2.2.2.2.2.1).wf = true ∧ (Lit.int .i64 p.2.2.2.2.2.2.2).wf = true
def sz_State (p : A_State) : Nat := sz_LCell p.1 + sz_LShape p.2.1 + sz_Lstr p.2.2.1 + sz_LThread p.2.2.2.1 + sz_LEnd p.2.2.2.2.1 + sz_LVal p.2.2.2.2.2.1 + 1 + 1 + 1
theorem len_State (p : A_State) : (enc_State p).length = 8 := rfl
theorem of_State {r : List PV} {m : Nat} (h : TyC Try.prog 36 r m) : ∃ p : A_State, r = enc_State p ∧ ok_State p ∧ sz_State p ≤ m := by
  obtain ⟨hl, g, hf, hm⟩ := ty_fieldsM (l := [(29, 0), (30, 1), (31, 2), (32, 3), (33, 4), (34, 5), (3, 6), (3, 7)]) (by kernel_rfl) h
  rw [show Try.prog.cellsOf 36 = 8 by kernel_rfl] at hl
  simp only [sumF, List.length_cons, List.length_nil, Nat.zero_add, Nat.reduceAdd] at hm
  obtain ⟨c0, c1, c2, c3, c4, c5, c6, c7, rfl⟩ : ∃ c0 c1 c2 c3 c4 c5 c6 c7, r = [c0, c1, c2, c3, c4, c5, c6, c7] := by
    match r, hl with
    | [c0, c1, c2, c3, c4, c5, c6, c7], _ => exact ⟨c0, c1, c2, c3, c4, c5, c6, c7, rfl⟩
  have t0 := hf 0 29 0 rfl
  rw [show Try.prog.cellsOf 29 = 1 by kernel_rfl] at t0
  obtain ⟨p0, e0, o0, s0⟩ := of_LCell t0
  simp [enc_LCell] at e0
  have t1 := hf 1 30 1 rfl
  rw [show Try.prog.cellsOf 30 = 1 by kernel_rfl] at t1
  obtain ⟨p1, e1, o1, s1⟩ := of_LShape t1
  simp [enc_LShape] at e1
  have t2 := hf 2 31 2 rfl
  rw [show Try.prog.cellsOf 31 = 1 by kernel_rfl] at t2
  obtain ⟨p2, e2, o2, s2⟩ := of_Lstr t2
  simp [enc_Lstr] at e2
  have t3 := hf 3 32 3 rfl
  rw [show Try.prog.cellsOf 32 = 1 by kernel_rfl] at t3
  obtain ⟨p3, e3, o3, s3⟩ := of_LThread t3
  simp [enc_LThread] at e3
  have t4 := hf 4 33 4 rfl
  rw [show Try.prog.cellsOf 33 = 1 by kernel_rfl] at t4
  obtain ⟨p4, e4, o4, s4⟩ := of_LEnd t4
  simp [enc_LEnd] at e4
  have t5 := hf 5 34 5 rfl
  rw [show Try.prog.cellsOf 34 = 1 by kernel_rfl] at t5
  obtain ⟨p5, e5, o5, s5⟩ := of_LVal t5
  simp [enc_LVal] at e5
  have t6 := hf 6 3 6 rfl
  rw [show Try.prog.cellsOf 3 = 1 by kernel_rfl] at t6
  obtain ⟨p6, e6, o6, s6⟩ := ty_intM t6 Try.underlying3
  simp at e6
  have t7 := hf 7 3 7 rfl
  rw [show Try.prog.cellsOf 3 = 1 by kernel_rfl] at t7
  obtain ⟨p7, e7, o7, s7⟩ := ty_intM t7 Try.underlying3
  simp at e7
  refine ⟨(p0, p1, p2, p3, p4, p5, p6, p7), ?_, ⟨o0, o1, o2, o3, o4, o5, o6, o7⟩, ?_⟩
  · simp [enc_State, e0, e1, e2, e3, e4, e5, e6, e7]
  · simp only [sz_State]; omega
abbrev A_Event : Type := Int × Int × Int × Int × Int × Int × Int × Int × A_Val × A_Val
def enc_Event (p : A_Event) : List PV := [Ia p.1, Ia p.2.1, Ia p.2.2.1, Ia p.2.2.2.1, Ia p.2.2.2.2.1, Ia p.2.2.2.2.2.1, Ia p.2.2.2.2.2.2.1, Ia p.2.2.2.2.2.2.2.1, Ia p.2.2.2.2.2.2.2.2.1.1, Ia p.2.2.2.2.2.2.2.2.1.2, Ia p.2.2.2.2.2.2.2.2.2.1, Ia p.2.2.2.2.2.2.2.2.2.2]
def ok_Event (p : A_Event) : Prop := (Lit.int .i64 p.1).wf = true ∧ (Lit.int .i64 p.2.1).wf = true ∧ (Lit.int .i64 p.2.2.1).wf = true ∧ (Lit.int .i64 p.2.2.2.1).wf = true ∧ (Lit.int .i64 p.2.2.2.2.1).wf = true ∧ (Lit.int .i64 p.2.2.2.2.2.1).wf = true ∧ (Lit.int .i64 p.2.2.2.2.2.2.1).wf = true ∧ (Lit.int .i64 p.2.2.2.2.2.2.2.1).wf = true ∧ ok_Val p.2.2.2.2.2.2.2.2.1 ∧ ok_Val p.2.2.2.2.2.2.2.2.2
def sz_Event (p : A_Event) : Nat := 1 + 1 + 1 + 1 + 1 + 1 + 1 + 1 + sz_Val p.2.2.2.2.2.2.2.2.1 + sz_Val p.2.2.2.2.2.2.2.2.2 + 1
theorem len_Event (p : A_Event) : (enc_Event p).length = 12 := rfl
theorem of_Event {r : List PV} {m : Nat} (h : TyC Try.prog 50 r m) : ∃ p : A_Event, r = enc_Event p ∧ ok_Event p ∧ sz_Event p ≤ m := by
  obtain ⟨hl, g, hf, hm⟩ := ty_fieldsM (l := [(3, 0), (3, 1), (3, 2), (3, 3), (3, 4), (3, 5), (3, 6), (3, 7), (48, 8), (48, 10)]) (by kernel_rfl) h
  rw [show Try.prog.cellsOf 50 = 12 by kernel_rfl] at hl
  simp only [sumF, List.length_cons, List.length_nil, Nat.zero_add, Nat.reduceAdd] at hm
  obtain ⟨c0, c1, c2, c3, c4, c5, c6, c7, c8, c9, c10, c11, rfl⟩ : ∃ c0 c1 c2 c3 c4 c5 c6 c7 c8 c9 c10 c11, r = [c0, c1, c2, c3, c4, c5, c6, c7, c8, c9, c10, c11] := by
    match r, hl with
    | [c0, c1, c2, c3, c4, c5, c6, c7, c8, c9, c10, c11], _ => exact ⟨c0, c1, c2, c3, c4, c5, c6, c7, c8, c9, c10, c11, rfl⟩
  have t0 := hf 0 3 0 rfl
  rw [show Try.prog.cellsOf 3 = 1 by kernel_rfl] at t0
  obtain ⟨p0, e0, o0, s0⟩ := ty_intM t0 Try.underlying3
  simp at e0
  have t1 := hf 1 3 1 rfl
  rw [show Try.prog.cellsOf 3 = 1 by kernel_rfl] at t1
  obtain ⟨p1, e1, o1, s1⟩ := ty_intM t1 Try.underlying3
  simp at e1
  have t2 := hf 2 3 2 rfl
  rw [show Try.prog.cellsOf 3 = 1 by kernel_rfl] at t2
  obtain ⟨p2, e2, o2, s2⟩ := ty_intM t2 Try.underlying3
  simp at e2
  have t3 := hf 3 3 3 rfl
  rw [show Try.prog.cellsOf 3 = 1 by kernel_rfl] at t3
  obtain ⟨p3, e3, o3, s3⟩ := ty_intM t3 Try.underlying3
  simp at e3
  have t4 := hf 4 3 4 rfl
  rw [show Try.prog.cellsOf 3 = 1 by kernel_rfl] at t4
  obtain ⟨p4, e4, o4, s4⟩ := ty_intM t4 Try.underlying3
  simp at e4
  have t5 := hf 5 3 5 rfl
  rw [show Try.prog.cellsOf 3 = 1 by kernel_rfl] at t5
  obtain ⟨p5, e5, o5, s5⟩ := ty_intM t5 Try.underlying3
  simp at e5
  have t6 := hf 6 3 6 rfl
  rw [show Try.prog.cellsOf 3 = 1 by kernel_rfl] at t6
  obtain ⟨p6, e6, o6, s6⟩ := ty_intM t6 Try.underlying3
  simp at e6
  have t7 := hf 7 3 7 rfl
  rw [show Try.prog.cellsOf 3 = 1 by kernel_rfl] at t7
  obtain ⟨p7, e7, o7, s7⟩ := ty_intM t7 Try.underlying3
  simp at e7
  have t8 := hf 8 48 8 rfl
  rw [show Try.prog.cellsOf 48 = 2 by kernel_rfl] at t8
  obtain ⟨p8, e8, o8, s8⟩ := of_Val t8
  simp [enc_Val] at e8
  have t9 := hf 9 48 10 rfl
  rw [show Try.prog.cellsOf 48 = 2 by kernel_rfl] at t9
  obtain ⟨p9, e9, o9, s9⟩ := of_Val t9
  simp [enc_Val] at e9
  refine ⟨(p0, p1, p2, p3, p4, p5, p6, p7, p8, p9), ?_, ⟨o0, o1, o2, o3, o4, o5, o6, o7, o8, o9⟩, ?_⟩
  · simp [enc_Event, e0, e1, e2, e3, e4, e5, e6, e7, e8, e9]
  · simp only [sz_Event]; omega
abbrev A_LEvent : Type := Option Bool × List A_Event
def enc_LEvent (p : A_LEvent) : List PV := [.sl p.1 false p.2.length (p.2.flatMap enc_Event)]
def ok_LEvent (p : A_LEvent) : Prop := p.2.length ≤ maxLen ∧ ∀ x ∈ p.2, ok_Event x
def sz_LEvent (p : A_LEvent) : Nat := (p.2.map fun x => sz_Event x).sum + 1
theorem of_LEvent {r : List PV} {m : Nat} (h : TyC Try.prog 39 r m) : ∃ p : A_LEvent, r = enc_LEvent p ∧ ok_LEvent p ∧ sz_LEvent p ≤ m := by
  obtain ⟨nl, ps, h1, h2, h3, h4⟩ := ty_sliceM h Try.underlying39 enc_Event (fun x => ok_Event x) (fun x => sz_Event x) (fun r m' h => of_Event h)
  exact ⟨(nl, ps), h1, ⟨h2, h3⟩, h4⟩
abbrev A_Lu8 : Type := Option Bool × List Int
def enc_Lu8 (p : A_Lu8) : List PV := [.sl p.1 false p.2.length (p.2.map (fun z => .v (.int .u8 z)))]
def ok_Lu8 (p : A_Lu8) : Prop := p.2.length ≤ maxLen ∧ ∀ x ∈ p.2, (Lit.int .u8 x).wf = true
def sz_Lu8 (p : A_Lu8) : Nat := (p.2.map fun x => 1).sum + 1
theorem of_Lu8 {r : List PV} {m : Nat} (h : TyC Try.prog 53 r m) : ∃ p : A_Lu8, r = enc_Lu8 p ∧ ok_Lu8 p ∧ sz_Lu8 p ≤ m := by
  obtain ⟨nl, ps, h1, h2, h3, h4⟩ := ty_sliceM h Try.underlying53 (fun z => [.v (.int .u8 z)]) (fun x => (Lit.int .u8 x).wf = true) (fun x => 1) (fun r m' h => (ty_intM h Try.underlying5))
  exact ⟨(nl, ps), by rw [h1, flat_one]; rfl, ⟨h2, h3⟩, h4⟩
abbrev A_DMark : Type := Int × Int × Int
def enc_DMark (p : A_DMark) : List PV := [Ia p.1, Ia p.2.1, Ia p.2.2]
def ok_DMark (p : A_DMark) : Prop := (Lit.int .i64 p.1).wf = true ∧ (Lit.int .i64 p.2.1).wf = true ∧ (Lit.int .i64 p.2.2).wf = true
def sz_DMark (p : A_DMark) : Nat := 1 + 1 + 1 + 1
theorem len_DMark (p : A_DMark) : (enc_DMark p).length = 3 := rfl
theorem of_DMark {r : List PV} {m : Nat} (h : TyC Try.prog 68 r m) : ∃ p : A_DMark, r = enc_DMark p ∧ ok_DMark p ∧ sz_DMark p ≤ m := by
  obtain ⟨hl, g, hf, hm⟩ := ty_fieldsM (l := [(3, 0), (3, 1), (3, 2)]) (by kernel_rfl) h
  rw [show Try.prog.cellsOf 68 = 3 by kernel_rfl] at hl
  simp only [sumF, List.length_cons, List.length_nil, Nat.zero_add, Nat.reduceAdd] at hm
  obtain ⟨c0, c1, c2, rfl⟩ : ∃ c0 c1 c2, r = [c0, c1, c2] := by
    match r, hl with
    | [c0, c1, c2], _ => exact ⟨c0, c1, c2, rfl⟩
  have t0 := hf 0 3 0 rfl
  rw [show Try.prog.cellsOf 3 = 1 by kernel_rfl] at t0
  obtain ⟨p0, e0, o0, s0⟩ := ty_intM t0 Try.underlying3
  simp at e0
  have t1 := hf 1 3 1 rfl
  rw [show Try.prog.cellsOf 3 = 1 by kernel_rfl] at t1
  obtain ⟨p1, e1, o1, s1⟩ := ty_intM t1 Try.underlying3
  simp at e1
  have t2 := hf 2 3 2 rfl
  rw [show Try.prog.cellsOf 3 = 1 by kernel_rfl] at t2
  obtain ⟨p2, e2, o2, s2⟩ := ty_intM t2 Try.underlying3
  simp at e2
  refine ⟨(p0, p1, p2), ?_, ⟨o0, o1, o2⟩, ?_⟩
  · simp [enc_DMark, e0, e1, e2]
  · simp only [sz_DMark]; omega
abbrev A_LDMark : Type := Option Bool × List A_DMark
def enc_LDMark (p : A_LDMark) : List PV := [.sl p.1 false p.2.length (p.2.flatMap enc_DMark)]
def ok_LDMark (p : A_LDMark) : Prop := p.2.length ≤ maxLen ∧ ∀ x ∈ p.2, ok_DMark x
def sz_LDMark (p : A_LDMark) : Nat := (p.2.map fun x => sz_DMark x).sum + 1
theorem of_LDMark {r : List PV} {m : Nat} (h : TyC Try.prog 60 r m) : ∃ p : A_LDMark, r = enc_LDMark p ∧ ok_LDMark p ∧ sz_LDMark p ≤ m := by
  obtain ⟨nl, ps, h1, h2, h3, h4⟩ := ty_sliceM h Try.underlying60 enc_DMark (fun x => ok_DMark x) (fun x => sz_DMark x) (fun r m' h => of_DMark h)
  exact ⟨(nl, ps), h1, ⟨h2, h3⟩, h4⟩
abbrev A_TIns : Type := Int × Int × Int × Int × Int × Int × A_Val
def enc_TIns (p : A_TIns) : List PV := [Ia p.1, Ia p.2.1, Ia p.2.2.1, Ia p.2.2.2.1, Ia p.2.2.2.2.1, Ia p.2.2.2.2.2.1, Ia p.2.2.2.2.2.2.1, Ia p.2.2.2.2.2.2.2]
def ok_TIns (p : A_TIns) : Prop := (Lit.int .i64 p.1).wf = true ∧ (Lit.int .i64 p.2.1).wf = true ∧ (Lit.int .i64 p.2.2.1).wf = true ∧ (Lit.int .i64 p.2.2.2.1).wf = true ∧ (Lit.int .i64 p.2.2.2.2.1).wf = true ∧ (Lit.int .i64 p.2.2.2.2.2.1).wf = true ∧ ok_Val p.2.2.2.2.2.2
def sz_TIns (p : A_TIns) : Nat := 1 + 1 + 1 + 1 + 1 + 1 + sz_Val p.2.2.2.2.2.2 + 1
theorem len_TIns (p : A_TIns) : (enc_TIns p).length = 8 := rfl
theorem of_TIns {r : List PV} {m : Nat} (h : TyC Try.prog 161 r m) : ∃ p : A_TIns, r = enc_TIns p ∧ ok_TIns p ∧ sz_TIns p ≤ m := by
  obtain ⟨hl, g, hf, hm⟩ := ty_fieldsM (l := [(3, 0), (3, 1), (3, 2), (3, 3), (3, 4), (3, 5), (48, 6)]) (by kernel_rfl) h
  rw [show Try.prog.cellsOf 161 = 8 by kernel_rfl] at hl
  simp only [sumF, List.length_cons, List.length_nil, Nat.zero_add, Nat.reduceAdd] at hm
  obtain ⟨c0, c1, c2, c3, c4, c5, c6, c7, rfl⟩ : ∃ c0 c1 c2 c3 c4 c5 c6 c7, r = [c0, c1, c2, c3, c4, c5, c6, c7] := by
    match r, hl with
    | [c0, c1, c2, c3, c4, c5, c6, c7], _ => exact ⟨c0, c1, c2, c3, c4, c5, c6, c7, rfl⟩
  have t0 := hf 0 3 0 rfl
  rw [show Try.prog.cellsOf 3 = 1 by kernel_rfl] at t0
  obtain ⟨p0, e0, o0, s0⟩ := ty_intM t0 Try.underlying3
  simp at e0
  have t1 := hf 1 3 1 rfl
  rw [show Try.prog.cellsOf 3 = 1 by kernel_rfl] at t1
  obtain ⟨p1, e1, o1, s1⟩ := ty_intM t1 Try.underlying3
  simp at e1
  have t2 := hf 2 3 2 rfl
  rw [show Try.prog.cellsOf 3 = 1 by kernel_rfl] at t2
  obtain ⟨p2, e2, o2, s2⟩ := ty_intM t2 Try.underlying3
  simp at e2
  have t3 := hf 3 3 3 rfl
  rw [show Try.prog.cellsOf 3 = 1 by kernel_rfl] at t3
  obtain ⟨p3, e3, o3, s3⟩ := ty_intM t3 Try.underlying3
  simp at e3
  have t4 := hf 4 3 4 rfl
  rw [show Try.prog.cellsOf 3 = 1 by kernel_rfl] at t4
  obtain ⟨p4, e4, o4, s4⟩ := ty_intM t4 Try.underlying3
  simp at e4
  have t5 := hf 5 3 5 rfl
  rw [show Try.prog.cellsOf 3 = 1 by kernel_rfl] at t5
  obtain ⟨p5, e5, o5, s5⟩ := ty_intM t5 Try.underlying3
  simp at e5
  have t6 := hf 6 48 6 rfl
  rw [show Try.prog.cellsOf 48 = 2 by kernel_rfl] at t6
  obtain ⟨p6, e6, o6, s6⟩ := of_Val t6
  simp [enc_Val] at e6
  refine ⟨(p0, p1, p2, p3, p4, p5, p6), ?_, ⟨o0, o1, o2, o3, o4, o5, o6⟩, ?_⟩
  · simp [enc_TIns, e0, e1, e2, e3, e4, e5, e6]
  · simp only [sz_TIns]; omega
abbrev A_LTIns : Type := Option Bool × List A_TIns
def enc_LTIns (p : A_LTIns) : List PV := [.sl p.1 false p.2.length (p.2.flatMap enc_TIns)]
def ok_LTIns (p : A_LTIns) : Prop := p.2.length ≤ maxLen ∧ ∀ x ∈ p.2, ok_TIns x
def sz_LTIns (p : A_LTIns) : Nat := (p.2.map fun x => sz_TIns x).sum + 1
theorem of_LTIns {r : List PV} {m : Nat} (h : TyC Try.prog 71 r m) : ∃ p : A_LTIns, r = enc_LTIns p ∧ ok_LTIns p ∧ sz_LTIns p ≤ m := by
  obtain ⟨nl, ps, h1, h2, h3, h4⟩ := ty_sliceM h Try.underlying71 enc_TIns (fun x => ok_TIns x) (fun x => sz_TIns x) (fun r m' h => of_TIns h)
  exact ⟨(nl, ps), h1, ⟨h2, h3⟩, h4⟩
abbrev A_TSet : Type := Int × Int
def enc_TSet (p : A_TSet) : List PV := [Ia p.1, Ia p.2]
def ok_TSet (p : A_TSet) : Prop := (Lit.int .i64 p.1).wf = true ∧ (Lit.int .i64 p.2).wf = true
def sz_TSet (p : A_TSet) : Nat := 1 + 1 + 1
theorem len_TSet (p : A_TSet) : (enc_TSet p).length = 2 := rfl
theorem of_TSet {r : List PV} {m : Nat} (h : TyC Try.prog 261 r m) : ∃ p : A_TSet, r = enc_TSet p ∧ ok_TSet p ∧ sz_TSet p ≤ m := by
  obtain ⟨hl, g, hf, hm⟩ := ty_fieldsM (l := [(3, 0), (3, 1)]) (by kernel_rfl) h
  rw [show Try.prog.cellsOf 261 = 2 by kernel_rfl] at hl
  simp only [sumF, List.length_cons, List.length_nil, Nat.zero_add, Nat.reduceAdd] at hm
  obtain ⟨c0, c1, rfl⟩ : ∃ c0 c1, r = [c0, c1] := by
    match r, hl with
    | [c0, c1], _ => exact ⟨c0, c1, rfl⟩
  have t0 := hf 0 3 0 rfl
  rw [show Try.prog.cellsOf 3 = 1 by kernel_rfl] at t0
  obtain ⟨p0, e0, o0, s0⟩ := ty_intM t0 Try.underlying3
  simp at e0
  have t1 := hf 1 3 1 rfl
  rw [show Try.prog.cellsOf 3 = 1 by kernel_rfl] at t1
  obtain ⟨p1, e1, o1, s1⟩ := ty_intM t1 Try.underlying3
  simp at e1
  refine ⟨(p0, p1), ?_, ⟨o0, o1⟩, ?_⟩
  · simp [enc_TSet, e0, e1]
  · simp only [sz_TSet]; omega
abbrev A_LTSet : Type := Option Bool × List A_TSet
def enc_LTSet (p : A_LTSet) : List PV := [.sl p.1 false p.2.length (p.2.flatMap enc_TSet)]
def ok_LTSet (p : A_LTSet) : Prop := p.2.length ≤ maxLen ∧ ∀ x ∈ p.2, ok_TSet x
def sz_LTSet (p : A_LTSet) : Nat := (p.2.map fun x => sz_TSet x).sum + 1
theorem of_LTSet {r : List PV} {m : Nat} (h : TyC Try.prog 73 r m) : ∃ p : A_LTSet, r = enc_LTSet p ∧ ok_LTSet p ∧ sz_LTSet p ≤ m := by
  obtain ⟨nl, ps, h1, h2, h3, h4⟩ := ty_sliceM h Try.underlying73 enc_TSet (fun x => ok_TSet x) (fun x => sz_TSet x) (fun r m' h => of_TSet h)
  exact ⟨(nl, ps), h1, ⟨h2, h3⟩, h4⟩
abbrev A_TMake : Type := Int × Int × Int × A_Li64
def enc_TMake (p : A_TMake) : List PV := [Ia p.1, Ia p.2.1, Ia p.2.2.1, .sl p.2.2.2.1 false p.2.2.2.2.length (p.2.2.2.2.map Ia)]
def ok_TMake (p : A_TMake) : Prop := (Lit.int .i64 p.1).wf = true ∧ (Lit.int .i64 p.2.1).wf = true ∧ (Lit.int .i64 p.2.2.1).wf = true ∧ ok_Li64 p.2.2.2
def sz_TMake (p : A_TMake) : Nat := 1 + 1 + 1 + sz_Li64 p.2.2.2 + 1
theorem len_TMake (p : A_TMake) : (enc_TMake p).length = 4 := rfl
theorem of_TMake {r : List PV} {m : Nat} (h : TyC Try.prog 263 r m) : ∃ p : A_TMake, r = enc_TMake p ∧ ok_TMake p ∧ sz_TMake p ≤ m := by
  obtain ⟨hl, g, hf, hm⟩ := ty_fieldsM (l := [(3, 0), (3, 1), (3, 2), (22, 3)]) (by kernel_rfl) h
  rw [show Try.prog.cellsOf 263 = 4 by kernel_rfl] at hl
  simp only [sumF, List.length_cons, List.length_nil, Nat.zero_add, Nat.reduceAdd] at hm
  obtain ⟨c0, c1, c2, c3, rfl⟩ : ∃ c0 c1 c2 c3, r = [c0, c1, c2, c3] := by
    match r, hl with
    | [c0, c1, c2, c3], _ => exact ⟨c0, c1, c2, c3, rfl⟩
  have t0 := hf 0 3 0 rfl
  rw [show Try.prog.cellsOf 3 = 1 by kernel_rfl] at t0
  obtain ⟨p0, e0, o0, s0⟩ := ty_intM t0 Try.underlying3
  simp at e0
  have t1 := hf 1 3 1 rfl
  rw [show Try.prog.cellsOf 3 = 1 by kernel_rfl] at t1
  obtain ⟨p1, e1, o1, s1⟩ := ty_intM t1 Try.underlying3
  simp at e1
  have t2 := hf 2 3 2 rfl
  rw [show Try.prog.cellsOf 3 = 1 by kernel_rfl] at t2
  obtain ⟨p2, e2, o2, s2⟩ := ty_intM t2 Try.underlying3
  simp at e2
  have t3 := hf 3 22 3 rfl
  rw [show Try.prog.cellsOf 22 = 1 by kernel_rfl] at t3
  obtain ⟨p3, e3, o3, s3⟩ := of_Li64 t3
  simp [enc_Li64] at e3
  refine ⟨(p0, p1, p2, p3), ?_, ⟨o0, o1, o2, o3⟩, ?_⟩
  · simp [enc_TMake, e0, e1, e2, e3]
  · simp only [sz_TMake]; omega
abbrev A_LTMake : Type := Option Bool × List A_TMake
def enc_LTMake (p : A_LTMake) : List PV := [.sl p.1 false p.2.length (p.2.flatMap enc_TMake)]
def ok_LTMake (p : A_LTMake) : Prop := p.2.length ≤ maxLen ∧ ∀ x ∈ p.2, ok_TMake x
def sz_LTMake (p : A_LTMake) : Nat := (p.2.map fun x => sz_TMake x).sum + 1
theorem of_LTMake {r : List PV} {m : Nat} (h : TyC Try.prog 74 r m) : ∃ p : A_LTMake, r = enc_LTMake p ∧ ok_LTMake p ∧ sz_LTMake p ≤ m := by
  obtain ⟨nl, ps, h1, h2, h3, h4⟩ := ty_sliceM h Try.underlying74 enc_TMake (fun x => ok_TMake x) (fun x => sz_TMake x) (fun r m' h => of_TMake h)
  exact ⟨(nl, ps), h1, ⟨h2, h3⟩, h4⟩
abbrev A_TExit : Type := Int × Int × A_LTSet × A_LTMake
def enc_TExit (p : A_TExit) : List PV := [Ia p.1, Ia p.2.1, .sl p.2.2.1.1 false p.2.2.1.2.length (p.2.2.1.2.flatMap enc_TSet), .sl p.2.2.2.1 false p.2.2.2.2.length (p.2.2.2.2.flatMap enc_TMake)]
def ok_TExit (p : A_TExit) : Prop := (Lit.int .i64 p.1).wf = true ∧ (Lit.int .i64 p.2.1).wf = true ∧ ok_LTSet p.2.2.1 ∧ ok_LTMake p.2.2.2
def sz_TExit (p : A_TExit) : Nat := 1 + 1 + sz_LTSet p.2.2.1 + sz_LTMake p.2.2.2 + 1
theorem len_TExit (p : A_TExit) : (enc_TExit p).length = 4 := rfl
theorem of_TExit {r : List PV} {m : Nat} (h : TyC Try.prog 76 r m) : ∃ p : A_TExit, r = enc_TExit p ∧ ok_TExit p ∧ sz_TExit p ≤ m := by
  obtain ⟨hl, g, hf, hm⟩ := ty_fieldsM (l := [(3, 0), (3, 1), (73, 2), (74, 3)]) (by kernel_rfl) h
  rw [show Try.prog.cellsOf 76 = 4 by kernel_rfl] at hl
  simp only [sumF, List.length_cons, List.length_nil, Nat.zero_add, Nat.reduceAdd] at hm
  obtain ⟨c0, c1, c2, c3, rfl⟩ : ∃ c0 c1 c2 c3, r = [c0, c1, c2, c3] := by
    match r, hl with
    | [c0, c1, c2, c3], _ => exact ⟨c0, c1, c2, c3, rfl⟩
  have t0 := hf 0 3 0 rfl
  rw [show Try.prog.cellsOf 3 = 1 by kernel_rfl] at t0
  obtain ⟨p0, e0, o0, s0⟩ := ty_intM t0 Try.underlying3
  simp at e0
  have t1 := hf 1 3 1 rfl
  rw [show Try.prog.cellsOf 3 = 1 by kernel_rfl] at t1
  obtain ⟨p1, e1, o1, s1⟩ := ty_intM t1 Try.underlying3
  simp at e1
  have t2 := hf 2 73 2 rfl
  rw [show Try.prog.cellsOf 73 = 1 by kernel_rfl] at t2
  obtain ⟨p2, e2, o2, s2⟩ := of_LTSet t2
  simp [enc_LTSet] at e2
  have t3 := hf 3 74 3 rfl
  rw [show Try.prog.cellsOf 74 = 1 by kernel_rfl] at t3
  obtain ⟨p3, e3, o3, s3⟩ := of_LTMake t3
  simp [enc_LTMake] at e3
  refine ⟨(p0, p1, p2, p3), ?_, ⟨o0, o1, o2, o3⟩, ?_⟩
  · simp [enc_TExit, e0, e1, e2, e3]
  · simp only [sz_TExit]; omega
abbrev A_LTExit : Type := Option Bool × List A_TExit
def enc_LTExit (p : A_LTExit) : List PV := [.sl p.1 false p.2.length (p.2.flatMap enc_TExit)]
def ok_LTExit (p : A_LTExit) : Prop := p.2.length ≤ maxLen ∧ ∀ x ∈ p.2, ok_TExit x
def sz_LTExit (p : A_LTExit) : Nat := (p.2.map fun x => sz_TExit x).sum + 1
theorem of_LTExit {r : List PV} {m : Nat} (h : TyC Try.prog 72 r m) : ∃ p : A_LTExit, r = enc_LTExit p ∧ ok_LTExit p ∧ sz_LTExit p ≤ m := by
  obtain ⟨nl, ps, h1, h2, h3, h4⟩ := ty_sliceM h Try.underlying72 enc_TExit (fun x => ok_TExit x) (fun x => sz_TExit x) (fun r m' h => of_TExit h)
  exact ⟨(nl, ps), h1, ⟨h2, h3⟩, h4⟩
abbrev A_TTrace : Type := Int × Int × Int × A_LTIns × A_LTExit × A_TExit × A_TExit
def enc_TTrace (p : A_TTrace) : List PV := [Ia p.1, Ia p.2.1, Ia p.2.2.1, .sl p.2.2.2.1.1 false p.2.2.2.1.2.length (p.2.2.2.1.2.flatMap enc_TIns), .sl p.2.2.2.2.1.1 false p.2.2.2.2.1.2.length (p.2.2.2.2.1.2.flatMap enc_TExit), Ia p.2.2.2.2.2.1.1, Ia p.2.2.2.2.2.1.2.1, .sl p.2.2.2.2.2.1.2.2.1.1 false p.2.2.2.2.2.1.2.2.1.2.length (p.2.2.2.2.2.1.2.2.1.2.flatMap enc_TSet), .sl p.2.2.2.2.2.1.2.2.2.1 false p.2.2.2.2.2.1.2.2.2.2.length (p.2.2.2.2.2.1.2.2.2.2.flatMap enc_TMake), Ia p.2.2.2.2.2.2.1, Ia p.2.2.2.2.2.2.2.1, .sl p.2.2.2.2.2.2.2.2.1.1 false p.2.2.2.2.2.2.2.2.1.2.length (p.2.2.2.2.2.2.2.2.1.2.flatMap enc_TSet), .sl p.2.2.2.2.2.2.2.2.2.1 false p.2.2.2.2.2.2.2.2.2.2.length (p.2.2.2.2.2.2.2.2.2.2.flatMap enc_TMake)]
def ok_TTrace (p : A_TTrace) : Prop := (Lit.int .i64 p.1).wf = true ∧ (Lit.int .i64 p.2.1).wf = true ∧ (Lit.int .i64 p.2.2.1).wf = true ∧ ok_LTIns p.2.2.2.1 ∧ ok_LTExit p.2.2.2.2.1 ∧ ok_TExit p.2.2.2.2.2.1 ∧ ok_TExit p.2.2.2.2.2.2
def sz_TTrace (p : A_TTrace) : Nat := 1 + 1 + 1 + sz_LTIns p.2.2.2.1 + sz_LTExit p.2.2.2.2.1 + sz_TExit p.2.2.2.2.2.1 + sz_TExit p.2.2.2.2.2.2 + 1
theorem len_TTrace (p : A_TTrace) : (enc_TTrace p).length = 13 := rfl
theorem of_TTrace {r : List PV} {m : Nat} (h : TyC Try.prog 78 r m) : ∃ p : A_TTrace, r = enc_TTrace p ∧ ok_TTrace p ∧ sz_TTrace p ≤ m := by
  obtain ⟨hl, g, hf, hm⟩ := ty_fieldsM (l := [(3, 0), (3, 1), (3, 2), (71, 3), (72, 4), (76, 5), (76, 9)]) (by kernel_rfl) h
  rw [show Try.prog.cellsOf 78 = 13 by kernel_rfl] at hl
  simp only [sumF, List.length_cons, List.length_nil, Nat.zero_add, Nat.reduceAdd] at hm
  obtain ⟨c0, c1, c2, c3, c4, c5, c6, c7, c8, c9, c10, c11, c12, rfl⟩ : ∃ c0 c1 c2 c3 c4 c5 c6 c7 c8 c9 c10 c11 c12, r = [c0, c1, c2, c3, c4, c5, c6, c7, c8, c9, c10, c11, c12] := by
    match r, hl with
    | [c0, c1, c2, c3, c4, c5, c6, c7, c8, c9, c10, c11, c12], _ => exact ⟨c0, c1, c2, c3, c4, c5, c6, c7, c8, c9, c10, c11, c12, rfl⟩
  have t0 := hf 0 3 0 rfl
  rw [show Try.prog.cellsOf 3 = 1 by kernel_rfl] at t0
  obtain ⟨p0, e0, o0, s0⟩ := ty_intM t0 Try.underlying3
  simp at e0
  have t1 := hf 1 3 1 rfl
  rw [show Try.prog.cellsOf 3 = 1 by kernel_rfl] at t1
  obtain ⟨p1, e1, o1, s1⟩ := ty_intM t1 Try.underlying3
  simp at e1
  have t2 := hf 2 3 2 rfl
  rw [show Try.prog.cellsOf 3 = 1 by kernel_rfl] at t2
  obtain ⟨p2, e2, o2, s2⟩ := ty_intM t2 Try.underlying3
  simp at e2
  have t3 := hf 3 71 3 rfl
  rw [show Try.prog.cellsOf 71 = 1 by kernel_rfl] at t3
  obtain ⟨p3, e3, o3, s3⟩ := of_LTIns t3
  simp [enc_LTIns] at e3
  have t4 := hf 4 72 4 rfl
  rw [show Try.prog.cellsOf 72 = 1 by kernel_rfl] at t4
  obtain ⟨p4, e4, o4, s4⟩ := of_LTExit t4
  simp [enc_LTExit] at e4
  have t5 := hf 5 76 5 rfl
  rw [show Try.prog.cellsOf 76 = 4 by kernel_rfl] at t5
  obtain ⟨p5, e5, o5, s5⟩ := of_TExit t5
  simp [enc_TExit] at e5
  have t6 := hf 6 76 9 rfl
  rw [show Try.prog.cellsOf 76 = 4 by kernel_rfl] at t6
  obtain ⟨p6, e6, o6, s6⟩ := of_TExit t6
  simp [enc_TExit] at e6
  refine ⟨(p0, p1, p2, p3, p4, p5, p6), ?_, ⟨o0, o1, o2, o3, o4, o5, o6⟩, ?_⟩
  · simp [enc_TTrace, e0, e1, e2, e3, e4, e5, e6]
  · simp only [sz_TTrace]; omega
abbrev A_DWait : Type := Int × Int × Int
def enc_DWait (p : A_DWait) : List PV := [Ia p.1, Ia p.2.1, Ia p.2.2]
def ok_DWait (p : A_DWait) : Prop := (Lit.int .i64 p.1).wf = true ∧ (Lit.int .i64 p.2.1).wf = true ∧ (Lit.int .i64 p.2.2).wf = true
def sz_DWait (p : A_DWait) : Nat := 1 + 1 + 1 + 1
theorem len_DWait (p : A_DWait) : (enc_DWait p).length = 3 := rfl
theorem of_DWait {r : List PV} {m : Nat} (h : TyC Try.prog 166 r m) : ∃ p : A_DWait, r = enc_DWait p ∧ ok_DWait p ∧ sz_DWait p ≤ m := by
  obtain ⟨hl, g, hf, hm⟩ := ty_fieldsM (l := [(3, 0), (3, 1), (3, 2)]) (by kernel_rfl) h
  rw [show Try.prog.cellsOf 166 = 3 by kernel_rfl] at hl
  simp only [sumF, List.length_cons, List.length_nil, Nat.zero_add, Nat.reduceAdd] at hm
  obtain ⟨c0, c1, c2, rfl⟩ : ∃ c0 c1 c2, r = [c0, c1, c2] := by
    match r, hl with
    | [c0, c1, c2], _ => exact ⟨c0, c1, c2, rfl⟩
  have t0 := hf 0 3 0 rfl
  rw [show Try.prog.cellsOf 3 = 1 by kernel_rfl] at t0
  obtain ⟨p0, e0, o0, s0⟩ := ty_intM t0 Try.underlying3
  simp at e0
  have t1 := hf 1 3 1 rfl
  rw [show Try.prog.cellsOf 3 = 1 by kernel_rfl] at t1
  obtain ⟨p1, e1, o1, s1⟩ := ty_intM t1 Try.underlying3
  simp at e1
  have t2 := hf 2 3 2 rfl
  rw [show Try.prog.cellsOf 3 = 1 by kernel_rfl] at t2
  obtain ⟨p2, e2, o2, s2⟩ := ty_intM t2 Try.underlying3
  simp at e2
  refine ⟨(p0, p1, p2), ?_, ⟨o0, o1, o2⟩, ?_⟩
  · simp [enc_DWait, e0, e1, e2]
  · simp only [sz_DWait]; omega
abbrev A_LDWait : Type := Option Bool × List A_DWait
def enc_LDWait (p : A_LDWait) : List PV := [.sl p.1 false p.2.length (p.2.flatMap enc_DWait)]
def ok_LDWait (p : A_LDWait) : Prop := p.2.length ≤ maxLen ∧ ∀ x ∈ p.2, ok_DWait x
def sz_LDWait (p : A_LDWait) : Nat := (p.2.map fun x => sz_DWait x).sum + 1
theorem of_LDWait {r : List PV} {m : Nat} (h : TyC Try.prog 81 r m) : ∃ p : A_LDWait, r = enc_LDWait p ∧ ok_LDWait p ∧ sz_LDWait p ≤ m := by
  obtain ⟨nl, ps, h1, h2, h3, h4⟩ := ty_sliceM h Try.underlying81 enc_DWait (fun x => ok_DWait x) (fun x => sz_DWait x) (fun r m' h => of_DWait h)
  exact ⟨(nl, ps), h1, ⟨h2, h3⟩, h4⟩
abbrev A_DPair : Type := Int × Int
def enc_DPair (p : A_DPair) : List PV := [Ia p.1, Ia p.2]
def ok_DPair (p : A_DPair) : Prop := (Lit.int .i64 p.1).wf = true ∧ (Lit.int .i64 p.2).wf = true
def sz_DPair (p : A_DPair) : Nat := 1 + 1 + 1
theorem len_DPair (p : A_DPair) : (enc_DPair p).length = 2 := rfl
theorem of_DPair {r : List PV} {m : Nat} (h : TyC Try.prog 169 r m) : ∃ p : A_DPair, r = enc_DPair p ∧ ok_DPair p ∧ sz_DPair p ≤ m := by
  obtain ⟨hl, g, hf, hm⟩ := ty_fieldsM (l := [(3, 0), (3, 1)]) (by kernel_rfl) h
  rw [show Try.prog.cellsOf 169 = 2 by kernel_rfl] at hl
  simp only [sumF, List.length_cons, List.length_nil, Nat.zero_add, Nat.reduceAdd] at hm
  obtain ⟨c0, c1, rfl⟩ : ∃ c0 c1, r = [c0, c1] := by
    match r, hl with
    | [c0, c1], _ => exact ⟨c0, c1, rfl⟩
  have t0 := hf 0 3 0 rfl
  rw [show Try.prog.cellsOf 3 = 1 by kernel_rfl] at t0
  obtain ⟨p0, e0, o0, s0⟩ := ty_intM t0 Try.underlying3
  simp at e0
  have t1 := hf 1 3 1 rfl
  rw [show Try.prog.cellsOf 3 = 1 by kernel_rfl] at t1
  obtain ⟨p1, e1, o1, s1⟩ := ty_intM t1 Try.underlying3
  simp at e1
  refine ⟨(p0, p1), ?_, ⟨o0, o1⟩, ?_⟩
  · simp [enc_DPair, e0, e1]
  · simp only [sz_DPair]; omega
abbrev A_LDPair : Type := Option Bool × List A_DPair
def enc_LDPair (p : A_LDPair) : List PV := [.sl p.1 false p.2.length (p.2.flatMap enc_DPair)]
def ok_LDPair (p : A_LDPair) : Prop := p.2.length ≤ maxLen ∧ ∀ x ∈ p.2, ok_DPair x
def sz_LDPair (p : A_LDPair) : Nat := (p.2.map fun x => sz_DPair x).sum + 1
theorem of_LDPair {r : List PV} {m : Nat} (h : TyC Try.prog 82 r m) : ∃ p : A_LDPair, r = enc_LDPair p ∧ ok_LDPair p ∧ sz_LDPair p ≤ m := by
  obtain ⟨nl, ps, h1, h2, h3, h4⟩ := ty_sliceM h Try.underlying82 enc_DPair (fun x => ok_DPair x) (fun x => sz_DPair x) (fun r m' h => of_DPair h)
  exact ⟨(nl, ps), h1, ⟨h2, h3⟩, h4⟩
abbrev A_DDep : Type := A_Li64
def enc_DDep (p : A_DDep) : List PV := [.sl p.1 false p.2.length (p.2.map Ia)]
def ok_DDep (p : A_DDep) : Prop := ok_Li64 p
def sz_DDep (p : A_DDep) : Nat := sz_Li64 p + 1
theorem len_DDep (p : A_DDep) : (enc_DDep p).length = 1 := rfl
theorem of_DDep {r : List PV} {m : Nat} (h : TyC Try.prog 176 r m) : ∃ p : A_DDep, r = enc_DDep p ∧ ok_DDep p ∧ sz_DDep p ≤ m := by
  obtain ⟨hl, g, hf, hm⟩ := ty_fieldsM (l := [(22, 0)]) (by kernel_rfl) h
  rw [show Try.prog.cellsOf 176 = 1 by kernel_rfl] at hl
  simp only [sumF, List.length_cons, List.length_nil, Nat.zero_add, Nat.reduceAdd] at hm
  obtain ⟨c0, rfl⟩ : ∃ c0, r = [c0] := by
    match r, hl with
    | [c0], _ => exact ⟨c0, rfl⟩
  have t0 := hf 0 22 0 rfl
  rw [show Try.prog.cellsOf 22 = 1 by kernel_rfl] at t0
  obtain ⟨p0, e0, o0, s0⟩ := of_Li64 t0
  simp [enc_Li64] at e0
  refine ⟨p0, ?_, o0, ?_⟩
  · simp [enc_DDep, e0]
  · simp only [sz_DDep]; omega
abbrev A_LDDep : Type := Option Bool × List A_DDep
def enc_LDDep (p : A_LDDep) : List PV := [.sl p.1 false p.2.length (p.2.flatMap enc_DDep)]
def ok_LDDep (p : A_LDDep) : Prop := p.2.length ≤ maxLen ∧ ∀ x ∈ p.2, ok_DDep x
def sz_LDDep (p : A_LDDep) : Nat := (p.2.map fun x => sz_DDep x).sum + 1
theorem of_LDDep {r : List PV} {m : Nat} (h : TyC Try.prog 91 r m) : ∃ p : A_LDDep, r = enc_LDDep p ∧ ok_LDDep p ∧ sz_LDDep p ≤ m := by
  obtain ⟨nl, ps, h1, h2, h3, h4⟩ := ty_sliceM h Try.underlying91 enc_DDep (fun x => ok_DDep x) (fun x => sz_DDep x) (fun r m' h => of_DDep h)
  exact ⟨(nl, ps), h1, ⟨h2, h3⟩, h4⟩
abbrev A_DLet : Type := Int × Int × Int × Int
def enc_DLet (p : A_DLet) : List PV := [Ia p.1, Ia p.2.1, Ia p.2.2.1, Ia p.2.2.2]
def ok_DLet (p : A_DLet) : Prop := (Lit.int .i64 p.1).wf = true ∧ (Lit.int .i64 p.2.1).wf = true ∧ (Lit.int .i64 p.2.2.1).wf = true ∧ (Lit.int .i64 p.2.2.2).wf = true
def sz_DLet (p : A_DLet) : Nat := 1 + 1 + 1 + 1 + 1
theorem len_DLet (p : A_DLet) : (enc_DLet p).length = 4 := rfl
theorem of_DLet {r : List PV} {m : Nat} (h : TyC Try.prog 112 r m) : ∃ p : A_DLet, r = enc_DLet p ∧ ok_DLet p ∧ sz_DLet p ≤ m := by
  obtain ⟨hl, g, hf, hm⟩ := ty_fieldsM (l := [(3, 0), (3, 1), (3, 2), (3, 3)]) (by kernel_rfl) h
  rw [show Try.prog.cellsOf 112 = 4 by kernel_rfl] at hl
  simp only [sumF, List.length_cons, List.length_nil, Nat.zero_add, Nat.reduceAdd] at hm
  obtain ⟨c0, c1, c2, c3, rfl⟩ : ∃ c0 c1 c2 c3, r = [c0, c1, c2, c3] := by
    match r, hl with
    | [c0, c1, c2, c3], _ => exact ⟨c0, c1, c2, c3, rfl⟩
  have t0 := hf 0 3 0 rfl
  rw [show Try.prog.cellsOf 3 = 1 by kernel_rfl] at t0
  obtain ⟨p0, e0, o0, s0⟩ := ty_intM t0 Try.underlying3
  simp at e0
  have t1 := hf 1 3 1 rfl
  rw [show Try.prog.cellsOf 3 = 1 by kernel_rfl] at t1
  obtain ⟨p1, e1, o1, s1⟩ := ty_intM t1 Try.underlying3
  simp at e1
  have t2 := hf 2 3 2 rfl
  rw [show Try.prog.cellsOf 3 = 1 by kernel_rfl] at t2
  obtain ⟨p2, e2, o2, s2⟩ := ty_intM t2 Try.underlying3
  simp at e2
  have t3 := hf 3 3 3 rfl
  rw [show Try.prog.cellsOf 3 = 1 by kernel_rfl] at t3
  obtain ⟨p3, e3, o3, s3⟩ := ty_intM t3 Try.underlying3
  simp at e3
  refine ⟨(p0, p1, p2, p3), ?_, ⟨o0, o1, o2, o3⟩, ?_⟩
  · simp [enc_DLet, e0, e1, e2, e3]
  · simp only [sz_DLet]; omega
abbrev A_LDLet : Type := Option Bool × List A_DLet
def enc_LDLet (p : A_LDLet) : List PV := [.sl p.1 false p.2.length (p.2.flatMap enc_DLet)]
def ok_LDLet (p : A_LDLet) : Prop := p.2.length ≤ maxLen ∧ ∀ x ∈ p.2, ok_DLet x
def sz_LDLet (p : A_LDLet) : Nat := (p.2.map fun x => sz_DLet x).sum + 1
theorem of_LDLet {r : List PV} {m : Nat} (h : TyC Try.prog 104 r m) : ∃ p : A_LDLet, r = enc_LDLet p ∧ ok_LDLet p ∧ sz_LDLet p ≤ m := by
  obtain ⟨nl, ps, h1, h2, h3, h4⟩ := ty_sliceM h Try.underlying104 enc_DLet (fun x => ok_DLet x) (fun x => sz_DLet x) (fun r m' h => of_DLet h)
  exact ⟨(nl, ps), h1, ⟨h2, h3⟩, h4⟩
abbrev A_DRun : Type := Int × Int
def enc_DRun (p : A_DRun) : List PV := [Ia p.1, Ia p.2]
def ok_DRun (p : A_DRun) : Prop := (Lit.int .i64 p.1).wf = true ∧ (Lit.int .i64 p.2).wf = true
def sz_DRun (p : A_DRun) : Nat := 1 + 1 + 1
theorem len_DRun (p : A_DRun) : (enc_DRun p).length = 2 := rfl
theorem of_DRun {r : List PV} {m : Nat} (h : TyC Try.prog 119 r m) : ∃ p : A_DRun, r = enc_DRun p ∧ ok_DRun p ∧ sz_DRun p ≤ m := by
  obtain ⟨hl, g, hf, hm⟩ := ty_fieldsM (l := [(3, 0), (3, 1)]) (by kernel_rfl) h
  rw [show Try.prog.cellsOf 119 = 2 by kernel_rfl] at hl
  simp only [sumF, List.length_cons, List.length_nil, Nat.zero_add, Nat.reduceAdd] at hm
  obtain ⟨c0, c1, rfl⟩ : ∃ c0 c1, r = [c0, c1] := by
    match r, hl with
    | [c0, c1], _ => exact ⟨c0, c1, rfl⟩
  have t0 := hf 0 3 0 rfl
  rw [show Try.prog.cellsOf 3 = 1 by kernel_rfl] at t0
  obtain ⟨p0, e0, o0, s0⟩ := ty_intM t0 Try.underlying3
  simp at e0
  have t1 := hf 1 3 1 rfl
  rw [show Try.prog.cellsOf 3 = 1 by kernel_rfl] at t1
  obtain ⟨p1, e1, o1, s1⟩ := ty_intM t1 Try.underlying3
  simp at e1
  refine ⟨(p0, p1), ?_, ⟨o0, o1⟩, ?_⟩
  · simp [enc_DRun, e0, e1]
  · simp only [sz_DRun]; omega
abbrev A_LDRun : Type := Option Bool × List A_DRun
def enc_LDRun (p : A_LDRun) : List PV := [.sl p.1 false p.2.length (p.2.flatMap enc_DRun)]
def ok_LDRun (p : A_LDRun) : Prop := p.2.length ≤ maxLen ∧ ∀ x ∈ p.2, ok_DRun x
def sz_LDRun (p : A_LDRun) : Nat := (p.2.map fun x => sz_DRun x).sum + 1
theorem of_LDRun {r : List PV} {m : Nat} (h : TyC Try.prog 114 r m) : ∃ p : A_LDRun, r = enc_LDRun p ∧ ok_LDRun p ∧ sz_LDRun p ≤ m := by
  obtain ⟨nl, ps, h1, h2, h3, h4⟩ := ty_sliceM h Try.underlying114 enc_DRun (fun x => ok_DRun x) (fun x => sz_DRun x) (fun r m' h => of_DRun h)
  exact ⟨(nl, ps), h1, ⟨h2, h3⟩, h4⟩
theorem small_sum {H : Type} {ds gs : List (DataW H)} (h : Rows.uptoSmall H (ds ++ gs) = true) : (ds.map Rows.uptoBulk).sum ≤ 1048576 := by
  have h1 : Rows.uptoBulkAll (ds ++ gs) ≤ 1048576 := of_decide_eq_true h
  have h2 : ∀ l : List (DataW H), (l.map Rows.uptoBulk).sum = Rows.uptoBulkAll l := by
    intro l
    induction l with
    | nil => rfl
    | cons d l ih => simp [Rows.uptoBulkAll, ih]
  rw [← h2, List.map_append, List.sum_append] at h1
  omega
theorem bulkOk (H : Type) : BulkOk (Rows.uptoBulk (H := H)) := by
  have all : ∀ l : List (DataW H), (l.map Rows.uptoBulk).sum = Rows.uptoBulkAll l := by
    intro l
    induction l with
    | nil => rfl
    | cons d l ih => simp [Rows.uptoBulkAll, ih]
  refine ⟨fun l => ?_, fun s => ?_, ?_, fun es sp => ?_, fun ps => ?_⟩
  · cases l <;> simp [Rows.uptoBulk]
  · simp [Rows.uptoBulk]
  · simp [Rows.uptoBulk]
  · simp [Rows.uptoBulk, all]
  · simp [Rows.uptoBulk, all]
theorem own : ownKnob Try.prog.godebug = none := by kernel_rfl
theorem laidOut : laidOutB Try.prog = true := by kernel_rfl
end Go.Proofs.Ytangmjeafnkfaaa
