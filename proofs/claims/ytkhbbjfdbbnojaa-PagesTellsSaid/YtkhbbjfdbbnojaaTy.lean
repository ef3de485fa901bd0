import Derived.Test.YtkhbbjfdbbnojaaAm31
import Derived.Test.YtkhbbjfdbbnojaaRows
set_option linter.unusedVariables false
set_option linter.unusedSimpArgs false
set_option maxRecDepth 100000
namespace Go.Proofs.Ytkhbbjfdbbnojaa
open Go Go.AM
open Go.ChangeShapes Go.WideShapes Go.ChangeAt Go.RowKit
abbrev A_A4i64 : Type := Int × Int × Int × Int
def enc_A4i64 (p : A_A4i64) : List PV := [Ia p.1, Ia p.2.1, Ia p.2.2.1, Ia p.2.2.2]
def ok_A4i64 (p : A_A4i64) : Prop := (Lit.int .i64 p.1).wf = true ∧ (Lit.int .i64 p.2.1).wf = true ∧ (Lit.int .i64 p.2.2.1).wf = true ∧ (Lit.int .i64 p.2.2.2).wf = true
def sz_A4i64 (p : A_A4i64) : Nat := 1 + 1 + 1 + 1 + 1
theorem len_A4i64 (p : A_A4i64) : (enc_A4i64 p).length = 4 := rfl
theorem of_A4i64 {r : List PV} {m : Nat} (h : TyC Try.prog 149 r m) : ∃ p : A_A4i64, r = enc_A4i64 p ∧ ok_A4i64 p ∧ sz_A4i64 p ≤ m := by
  obtain ⟨hl, g, hf, hm⟩ := ty_arrM (l := [(3, 0), (3, 1), (3, 2), (3, 3)]) (by kernel_rfl) h
  rw [show Try.prog.cellsOf 149 = 4 by kernel_rfl] at hl
  simp only [sumF, List.length_cons, List.length_nil, Nat.zero_add, Nat.reduceAdd] at hm
  obtain ⟨c0, c1, c2, c3, rfl⟩ : ∃ c0 c1 c2 c3, r = [c0, c1, c2, c3] := by
    match r, hl with
    | [c0, c1, c2, c3], _ => exact ⟨c0, c1, c2, c3, rfl⟩
  have t0 := hf 0 3 0 rfl
  rw [show Try.prog.cellsOf 3 = 1 by kernel_rfl] at t0
  obtain ⟨p0, e0, o0, s0⟩ := ty_intM t0 Try.underlying3
  simp at e0
  have t1 := hf 1 3 1 rfl
  rw [show Try.prog.cellsOf 3 = 1 by kernel_rfl] at t1
  obtain ⟨p1, e1, o1, s1⟩ := ty_intM t1 Try.underlying3
  simp at e1
  have t2 := hf 2 3 2 rfl
  rw [show Try.prog.cellsOf 3 = 1 by kernel_rfl] at t2
  obtain ⟨p2, e2, o2, s2⟩ := ty_intM t2 Try.underlying3
  simp at e2
  have t3 := hf 3 3 3 rfl
  rw [show Try.prog.cellsOf 3 = 1 by kernel_rfl] at t3
  obtain ⟨p3, e3, o3, s3⟩ := ty_intM t3 Try.underlying3
  simp at e3
  refine ⟨(p0, p1, p2, p3), ?_, ⟨o0, o1, o2, o3⟩, ?_⟩
  · simp [enc_A4i64, e0, e1, e2, e3]
  · simp only [sz_A4i64]; omega
abbrev A_LA4i64 : Type := Option Bool × List A_A4i64
def enc_LA4i64 (p : A_LA4i64) : List PV := [.sl p.1 false p.2.length (p.2.flatMap enc_A4i64)]
def ok_LA4i64 (p : A_LA4i64) : Prop := p.2.length ≤ maxLen ∧ (∀ x ∈ p.2, ok_A4i64 x) ∧ Kn p
def sz_LA4i64 (p : A_LA4i64) : Nat := (p.2.map fun x => sz_A4i64 x).sum + 1
theorem of_LA4i64 {r : List PV} {m : Nat} (h : TyC Try.prog 70 r m) : ∃ p : A_LA4i64, r = enc_LA4i64 p ∧ ok_LA4i64 p ∧ sz_LA4i64 p ≤ m := by
  obtain ⟨nl, ps, h1, h2, h3, hk, h4⟩ := ty_sliceK h Try.underlying70 enc_A4i64 (fun x => ok_A4i64 x) (fun x => sz_A4i64 x) (fun r m' h => of_A4i64 h)
  exact ⟨(nl, ps), h1, ⟨h2, h3, hk⟩, h4⟩
abbrev A_Li64 : Type := Option Bool × List Int
def enc_Li64 (p : A_Li64) : List PV := [.sl p.1 false p.2.length (p.2.map Ia)]
def ok_Li64 (p : A_Li64) : Prop := p.2.length ≤ maxLen ∧ (∀ x ∈ p.2, (Lit.int .i64 x).wf = true) ∧ Kn p
def sz_Li64 (p : A_Li64) : Nat := (p.2.map fun x => 1).sum + 1
theorem of_Li64 {r : List PV} {m : Nat} (h : TyC Try.prog 30 r m) : ∃ p : A_Li64, r = enc_Li64 p ∧ ok_Li64 p ∧ sz_Li64 p ≤ m := by
  obtain ⟨nl, ps, h1, h2, h3, hk, h4⟩ := ty_sliceK h Try.underlying30 (fun z => [Ia z]) (fun x => (Lit.int .i64 x).wf = true) (fun x => 1) (fun r m' h => (ty_intM h Try.underlying3))
  exact ⟨(nl, ps), by rw [h1, flat_one]; rfl, ⟨h2, h3, hk⟩, h4⟩
abbrev A_LLi64 : Type := Option Bool × List A_Li64
def enc_LLi64 (p : A_LLi64) : List PV := [.sl p.1 false p.2.length (p.2.flatMap enc_Li64)]
def ok_LLi64 (p : A_LLi64) : Prop := p.2.length ≤ maxLen ∧ (∀ x ∈ p.2, ok_Li64 x) ∧ Kn p
def sz_LLi64 (p : A_LLi64) : Nat := (p.2.map fun x => sz_Li64 x).sum + 1
theorem of_LLi64 {r : List PV} {m : Nat} (h : TyC Try.prog 61 r m) : ∃ p : A_LLi64, r = enc_LLi64 p ∧ ok_LLi64 p ∧ sz_LLi64 p ≤ m := by
  obtain ⟨nl, ps, h1, h2, h3, hk, h4⟩ := ty_sliceK h Try.underlying61 enc_Li64 (fun x => ok_Li64 x) (fun x => sz_Li64 x) (fun r m' h => of_Li64 h)
  exact ⟨(nl, ps), h1, ⟨h2, h3, hk⟩, h4⟩
abbrev A_DStore : Type := A_LA4i64 × A_Li64 × A_LLi64
def enc_DStore (p : A_DStore) : List PV := [.sl p.1.1 false p.1.2.length (p.1.2.flatMap enc_A4i64), .sl p.2.1.1 false p.2.1.2.length (p.2.1.2.map Ia), .sl p.2.2.1 false p.2.2.2.length (p.2.2.2.flatMap enc_Li64)]
def ok_DStore (p : A_DStore) : Prop := ok_LA4i64 p.1 ∧ ok_Li64 p.2.1 ∧ ok_LLi64 p.2.2
def sz_DStore (p : A_DStore) : Nat := sz_LA4i64 p.1 + sz_Li64 p.2.1 + sz_LLi64 p.2.2 + 1
theorem len_DStore (p : A_DStore) : (enc_DStore p).length = 3 := rfl
theorem of_DStore {r : List PV} {m : Nat} (h : TyC Try.prog 72 r m) : ∃ p : A_DStore, r = enc_DStore p ∧ ok_DStore p ∧ sz_DStore p ≤ m := by
  obtain ⟨hl, g, hf, hm⟩ := ty_fieldsM (l := [(70, 0), (30, 1), (61, 2)]) (by kernel_rfl) h
  rw [show Try.prog.cellsOf 72 = 3 by kernel_rfl] at hl
  simp only [sumF, List.length_cons, List.length_nil, Nat.zero_add, Nat.reduceAdd] at hm
  obtain ⟨c0, c1, c2, rfl⟩ : ∃ c0 c1 c2, r = [c0, c1, c2] := by
    match r, hl with
    | [c0, c1, c2], _ => exact ⟨c0, c1, c2, rfl⟩
  have t0 := hf 0 70 0 rfl
  rw [show Try.prog.cellsOf 70 = 1 by kernel_rfl] at t0
  obtain ⟨p0, e0, o0, s0⟩ := of_LA4i64 t0
  simp [enc_LA4i64] at e0
  have t1 := hf 1 30 1 rfl
  rw [show Try.prog.cellsOf 30 = 1 by kernel_rfl] at t1
  obtain ⟨p1, e1, o1, s1⟩ := of_Li64 t1
  simp [enc_Li64] at e1
  have t2 := hf 2 61 2 rfl
  rw [show Try.prog.cellsOf 61 = 1 by kernel_rfl] at t2
  obtain ⟨p2, e2, o2, s2⟩ := of_LLi64 t2
  simp [enc_LLi64] at e2
  refine ⟨(p0, p1, p2), ?_, ⟨o0, o1, o2⟩, ?_⟩
  · simp [enc_DStore, e0, e1, e2]
  · simp only [sz_DStore]; omega
theorem small_sum {H : Type} {ds gs : List (DataW H)} (h : Rows.uptoSmall H (ds ++ gs) = true) : (ds.map Rows.uptoBulk).sum ≤ 1048576 := by
  have h1 : Rows.uptoBulkAll (ds ++ gs) ≤ 1048576 := of_decide_eq_true h
  have h2 : ∀ l : List (DataW H), (l.map Rows.uptoBulk).sum = Rows.uptoBulkAll l := by
    intro l
    induction l with
    | nil => rfl
    | cons d l ih => simp [Rows.uptoBulkAll, ih]
  rw [← h2, List.map_append, List.sum_append] at h1
  omega
theorem bulkOk (H : Type) : BulkOk (Rows.uptoBulk (H := H)) := by
  have all : ∀ l : List (DataW H), (l.map Rows.uptoBulk).sum = Rows.uptoBulkAll l := by
    intro l
    induction l with
    | nil => rfl
    | cons d l ih => simp [Rows.uptoBulkAll, ih]
  refine ⟨fun l => ?_, fun s => ?_, ?_, fun es sp => ?_, fun ps => ?_⟩
  · cases l <;> simp [Rows.uptoBulk]
  · simp [Rows.uptoBulk]
  · simp [Rows.uptoBulk]
  · simp [Rows.uptoBulk, all]
  · simp [Rows.uptoBulk, all]
theorem own : ownKnob Try.prog.godebug = none := by kernel_rfl
theorem laidOut : laidOutB Try.prog = true := by kernel_rfl
end Go.Proofs.Ytkhbbjfdbbnojaa
