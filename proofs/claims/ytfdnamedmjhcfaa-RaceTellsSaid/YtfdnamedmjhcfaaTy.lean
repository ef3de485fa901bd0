import Derived.Test.YtfdnamedmjhcfaaAm31
import Derived.Test.YtfdnamedmjhcfaaRows
set_option linter.unusedVariables false
set_option linter.unusedSimpArgs false
set_option maxRecDepth 100000
namespace Go.Proofs.Ytfdnamedmjhcfaa
open Go Go.AM
open Go.ChangeShapes Go.WideShapes Go.ChangeAt Go.RowKit
abbrev A_Val : Type := Int × Int
def enc_Val (p : A_Val) : List PV := [Ia p.1, Ia p.2]
def ok_Val (p : A_Val) : Prop := (Lit.int .i64 p.1).wf = true ∧ (Lit.int .i64 p.2).wf = true
def sz_Val (p : A_Val) : Nat := 1 + 1 + 1
theorem len_Val (p : A_Val) : (enc_Val p).length = 2 := rfl
theorem of_Val {r : List PV} {m : Nat} (h : TyC Try.prog 40 r m) : ∃ p : A_Val, r = enc_Val p ∧ ok_Val p ∧ sz_Val p ≤ m := by
  obtain ⟨hl, g, hf, hm⟩ := ty_fieldsM (l := [(3, 0), (3, 1)]) (by kernel_rfl) h
  rw [show Try.prog.cellsOf 40 = 2 by kernel_rfl] at hl
  simp only [sumF, List.length_cons, List.length_nil, Nat.zero_add, Nat.reduceAdd] at hm
  obtain ⟨c0, c1, rfl⟩ : ∃ c0 c1, r = [c0, c1] := by
    match r, hl with
    | [c0, c1], _ => exact ⟨c0, c1, rfl⟩
  have t0 := hf 0 3 0 rfl
  rw [show Try.prog.cellsOf 3 = 1 by kernel_rfl] at t0
  obtain ⟨p0, e0, o0, s0⟩ := ty_intM t0 Try.underlying3
  simp at e0
  have t1 := hf 1 3 1 rfl
  rw [show Try.prog.cellsOf 3 = 1 by kernel_rfl] at t1
  obtain ⟨p1, e1, o1, s1⟩ := ty_intM t1 Try.underlying3
  simp at e1
  refine ⟨(p0, p1), ?_, ⟨o0, o1⟩, ?_⟩
  · simp [enc_Val, e0, e1]
  · simp only [sz_Val]; omega
abbrev A_Event : Type := Int × Int × Int × Int × Int × Int × Int × Int × A_Val × A_Val
def enc_Event (p : A_Event) : List PV := [Ia p.1, Ia p.2.1, Ia p.2.2.1, Ia p.2.2.2.1, Ia p.2.2.2.2.1, Ia p.2.2.2.2.2.1, Ia p.2.2.2.2.2.2.1, Ia p.2.2.2.2.2.2.2.1, Ia p.2.2.2.2.2.2.2.2.1.1, Ia p.2.2.2.2.2.2.2.2.1.2, Ia p.2.2.2.2.2.2.2.2.2.1, Ia p.2.2.2.2.2.2.2.2.2.2]
def ok_Event (p : A_Event) : Prop := (Lit.int .i64 p.1).wf = true ∧ (Lit.int .i64 p.2.1).wf = true ∧ (Lit.int .i64 p.2.2.1).wf = true ∧ (Lit.int .i64 p.2.2.2.1).wf = true ∧ (Lit.int .i64 p.2.2.2.2.1).wf = true ∧ (Lit.int .i64 p.2.2.2.2.2.1).wf = true ∧ (Lit.int .i64 p.2.2.2.2.2.2.1).wf = true ∧ (Lit.int .i64 p.2.2.2.2.2.2.2.1).wf = true ∧ ok_Val p.2.2.2.2.2.2.2.2.1 ∧ ok_Val p.2.2.2.2.2.2.2.2.2
def sz_Event (p : A_Event) : Nat := 1 + 1 + 1 + 1 + 1 + 1 + 1 + 1 + sz_Val p.2.2.2.2.2.2.2.2.1 + sz_Val p.2.2.2.2.2.2.2.2.2 + 1
theorem len_Event (p : A_Event) : (enc_Event p).length = 12 := rfl
theorem of_Event {r : List PV} {m : Nat} (h : TyC Try.prog 42 r m) : ∃ p : A_Event, r = enc_Event p ∧ ok_Event p ∧ sz_Event p ≤ m := by
  obtain ⟨hl, g, hf, hm⟩ := ty_fieldsM (l := [(3, 0), (3, 1), (3, 2), (3, 3), (3, 4), (3, 5), (3, 6), (3, 7), (40, 8), (40, 10)]) (by kernel_rfl) h
  rw [show Try.prog.cellsOf 42 = 12 by kernel_rfl] at hl
  simp only [sumF, List.length_cons, List.length_nil, Nat.zero_add, Nat.reduceAdd] at hm
  obtain ⟨c0, c1, c2, c3, c4, c5, c6, c7, c8, c9, c10, c11, rfl⟩ : ∃ c0 c1 c2 c3 c4 c5 c6 c7 c8 c9 c10 c11, r = [c0, c1, c2, c3, c4, c5, c6, c7, c8, c9, c10, c11] := by
    match r, hl with
    | [c0, c1, c2, c3, c4, c5, c6, c7, c8, c9, c10, c11], _ => exact ⟨c0, c1, c2, c3, c4, c5, c6, c7, c8, c9, c10, c11, rfl⟩
  have t0 := hf 0 3 0 rfl
  rw [show Try.prog.cellsOf 3 = 1 by kernel_rfl] at t0
  obtain ⟨p0, e0, o0, s0⟩ := ty_intM t0 Try.underlying3
  simp at e0
  have t1 := hf 1 3 1 rfl
  rw [show Try.prog.cellsOf 3 = 1 by kernel_rfl] at t1
  obtain ⟨p1, e1, o1, s1⟩ := ty_intM t1 Try.underlying3
  simp at e1
  have t2 := hf 2 3 2 rfl
  rw [show Try.prog.cellsOf 3 = 1 by kernel_rfl] at t2
  obtain ⟨p2, e2, o2, s2⟩ := ty_intM t2 Try.underlying3
  simp at e2
  have t3 := hf 3 3 3 rfl
  rw [show Try.prog.cellsOf 3 = 1 by kernel_rfl] at t3
  obtain ⟨p3, e3, o3, s3⟩ := ty_intM t3 Try.underlying3
  simp at e3
  have t4 := hf 4 3 4 rfl
  rw [show Try.prog.cellsOf 3 = 1 by kernel_rfl] at t4
  obtain ⟨p4, e4, o4, s4⟩ := ty_intM t4 Try.underlying3
  simp at e4
  have t5 := hf 5 3 5 rfl
  rw [show Try.prog.cellsOf 3 = 1 by kernel_rfl] at t5
  obtain ⟨p5, e5, o5, s5⟩ := ty_intM t5 Try.underlying3
  simp at e5
  have t6 := hf 6 3 6 rfl
  rw [show Try.prog.cellsOf 3 = 1 by kernel_rfl] at t6
  obtain ⟨p6, e6, o6, s6⟩ := ty_intM t6 Try.underlying3
  simp at e6
  have t7 := hf 7 3 7 rfl
  rw [show Try.prog.cellsOf 3 = 1 by kernel_rfl] at t7
  obtain ⟨p7, e7, o7, s7⟩ := ty_intM t7 Try.underlying3
  simp at e7
  have t8 := hf 8 40 8 rfl
  rw [show Try.prog.cellsOf 40 = 2 by kernel_rfl] at t8
  obtain ⟨p8, e8, o8, s8⟩ := of_Val t8
  simp [enc_Val] at e8
  have t9 := hf 9 40 10 rfl
  rw [show Try.prog.cellsOf 40 = 2 by kernel_rfl] at t9
  obtain ⟨p9, e9, o9, s9⟩ := of_Val t9
  simp [enc_Val] at e9
  refine ⟨(p0, p1, p2, p3, p4, p5, p6, p7, p8, p9), ?_, ⟨o0, o1, o2, o3, o4, o5, o6, o7, o8, o9⟩, ?_⟩
  · simp [enc_Event, e0, e1, e2, e3, e4, e5, e6, e7, e8, e9]
  · simp only [sz_Event]; omega
abbrev A_LEvent : Type := Option Bool × List A_Event
def enc_LEvent (p : A_LEvent) : List PV := [.sl p.1 false p.2.length (p.2.flatMap enc_Event)]
def ok_LEvent (p : A_LEvent) : Prop := p.2.length ≤ maxLen ∧ ∀ x ∈ p.2, ok_Event x
def sz_LEvent (p : A_LEvent) : Nat := (p.2.map fun x => sz_Event x).sum + 1
theorem of_LEvent {r : List PV} {m : Nat} (h : TyC Try.prog 22 r m) : ∃ p : A_LEvent, r = enc_LEvent p ∧ ok_LEvent p ∧ sz_LEvent p ≤ m := by
  obtain ⟨nl, ps, h1, h2, h3, h4⟩ := ty_sliceM h Try.underlying22 enc_Event (fun x => ok_Event x) (fun x => sz_Event x) (fun r m' h => of_Event h)
  exact ⟨(nl, ps), h1, ⟨h2, h3⟩, h4⟩
abbrev A_Li64 : Type := Option Bool × List Int
def enc_Li64 (p : A_Li64) : List PV := [.sl p.1 false p.2.length (p.2.map Ia)]
def ok_Li64 (p : A_Li64) : Prop := p.2.length ≤ maxLen ∧ ∀ x ∈ p.2, (Lit.int .i64 x).wf = true
def sz_Li64 (p : A_Li64) : Nat := (p.2.map fun x => 1).sum + 1
theorem of_Li64 {r : List PV} {m : Nat} (h : TyC Try.prog 23 r m) : ∃ p : A_Li64, r = enc_Li64 p ∧ ok_Li64 p ∧ sz_Li64 p ≤ m := by
  obtain ⟨nl, ps, h1, h2, h3, h4⟩ := ty_sliceM h Try.underlying23 (fun z => [Ia z]) (fun x => (Lit.int .i64 x).wf = true) (fun x => 1) (fun r m' h => (ty_intM h Try.underlying3))
  exact ⟨(nl, ps), by rw [h1, flat_one]; rfl, ⟨h2, h3⟩, h4⟩
abbrev A_DProof : Type := A_Li64 × A_Li64
def enc_DProof (p : A_DProof) : List PV := [.sl p.1.1 false p.1.2.length (p.1.2.map Ia), .sl p.2.1 false p.2.2.length (p.2.2.map Ia)]
def ok_DProof (p : A_DProof) : Prop := ok_Li64 p.1 ∧ ok_Li64 p.2
def sz_DProof (p : A_DProof) : Nat := sz_Li64 p.1 + sz_Li64 p.2 + 1
theorem len_DProof (p : A_DProof) : (enc_DProof p).length = 2 := rfl
theorem of_DProof {r : List PV} {m : Nat} (h : TyC Try.prog 25 r m) : ∃ p : A_DProof, r = enc_DProof p ∧ ok_DProof p ∧ sz_DProof p ≤ m := by
  obtain ⟨hl, g, hf, hm⟩ := ty_fieldsM (l := [(23, 0), (23, 1)]) (by kernel_rfl) h
  rw [show Try.prog.cellsOf 25 = 2 by kernel_rfl] at hl
  simp only [sumF, List.length_cons, List.length_nil, Nat.zero_add, Nat.reduceAdd] at hm
  obtain ⟨c0, c1, rfl⟩ : ∃ c0 c1, r = [c0, c1] := by
    match r, hl with
    | [c0, c1], _ => exact ⟨c0, c1, rfl⟩
  have t0 := hf 0 23 0 rfl
  rw [show Try.prog.cellsOf 23 = 1 by kernel_rfl] at t0
  obtain ⟨p0, e0, o0, s0⟩ := of_Li64 t0
  simp [enc_Li64] at e0
  have t1 := hf 1 23 1 rfl
  rw [show Try.prog.cellsOf 23 = 1 by kernel_rfl] at t1
  obtain ⟨p1, e1, o1, s1⟩ := of_Li64 t1
  simp [enc_Li64] at e1
  refine ⟨(p0, p1), ?_, ⟨o0, o1⟩, ?_⟩
  · simp [enc_DProof, e0, e1]
  · simp only [sz_DProof]; omega
theorem small_sum {H : Type} {ds gs : List (DataW H)} (h : Rows.uptoSmall H (ds ++ gs) = true) : (ds.map Rows.uptoBulk).sum ≤ 1048576 := by
  have h1 : Rows.uptoBulkAll (ds ++ gs) ≤ 1048576 := of_decide_eq_true h
  have h2 : ∀ l : List (DataW H), (l.map Rows.uptoBulk).sum = Rows.uptoBulkAll l := by
    intro l
    induction l with
    | nil => rfl
    | cons d l ih => simp [Rows.uptoBulkAll, ih]
  rw [← h2, List.map_append, List.sum_append] at h1
  omega
theorem bulkOk (H : Type) : BulkOk (Rows.uptoBulk (H := H)) := by
  have all : ∀ l : List (DataW H), (l.map Rows.uptoBulk).sum = Rows.uptoBulkAll l := by
    intro l
    induction l with
    | nil => rfl
    | cons d l ih => simp [Rows.uptoBulkAll, ih]
  refine ⟨fun l => ?_, fun s => ?_, ?_, fun es sp => ?_, fun ps => ?_⟩
  · cases l <;> simp [Rows.uptoBulk]
  · simp [Rows.uptoBulk]
  · simp [Rows.uptoBulk]
  · simp [Rows.uptoBulk, all]
  · simp [Rows.uptoBulk, all]
theorem own : ownKnob Try.prog.godebug = none := by kernel_rfl
theorem laidOut : laidOutB Try.prog = true := by kernel_rfl
end Go.Proofs.Ytfdnamedmjhcfaa
