import Derived.Test.YtkhbbjfdbbnojaaAm31
import Derived.Test.YtkhbbjfdbbnojaaRows
set_option linter.unusedVariables false
set_option linter.unusedSimpArgs false
set_option maxRecDepth 100000
namespace Go.Proofs.Ytkhbbjfdbbnojaa
open Go Go.AM
open Go.ChangeShapes Go.WideShapes Go.ChangeAt Go.RowKit
abbrev A_A3i64 : Type := Int × Int × Int
def enc_A3i64 (p : A_A3i64) : List PV := [Ia p.1, Ia p.2.1, Ia p.2.2]
def ok_A3i64 (p : A_A3i64) : Prop := (Lit.int .i64 p.1).wf = true ∧ (Lit.int .i64 p.2.1).wf = true ∧ (Lit.int .i64 p.2.2).wf = true
def sz_A3i64 (p : A_A3i64) : Nat := 1 + 1 + 1 + 1
theorem len_A3i64 (p : A_A3i64) : (enc_A3i64 p).length = 3 := rfl
theorem of_A3i64 {r : List PV} {m : Nat} (h : TyC Try.prog 94 r m) : ∃ p : A_A3i64, r = enc_A3i64 p ∧ ok_A3i64 p ∧ sz_A3i64 p ≤ m := by
  obtain ⟨hl, g, hf, hm⟩ := ty_arrM (l := [(3, 0), (3, 1), (3, 2)]) (by kernel_rfl) h
  rw [show Try.prog.cellsOf 94 = 3 by kernel_rfl] at hl
  simp only [sumF, List.length_cons, List.length_nil, Nat.zero_add, Nat.reduceAdd] at hm
  obtain ⟨c0, c1, c2, rfl⟩ : ∃ c0 c1 c2, r = [c0, c1, c2] := by
    match r, hl with
    | [c0, c1, c2], _ => exact ⟨c0, c1, c2, rfl⟩
  have t0 := hf 0 3 0 rfl
  rw [show Try.prog.cellsOf 3 = 1 by kernel_rfl] at t0
  obtain ⟨p0, e0, o0, s0⟩ := ty_intM t0 Try.underlying3
  simp at e0
  have t1 := hf 1 3 1 rfl
  rw [show Try.prog.cellsOf 3 = 1 by kernel_rfl] at t1
  obtain ⟨p1, e1, o1, s1⟩ := ty_intM t1 Try.underlying3
  simp at e1
  have t2 := hf 2 3 2 rfl
  rw [show Try.prog.cellsOf 3 = 1 by kernel_rfl] at t2
  obtain ⟨p2, e2, o2, s2⟩ := ty_intM t2 Try.underlying3
  simp at e2
  refine ⟨(p0, p1, p2), ?_, ⟨o0, o1, o2⟩, ?_⟩
  · simp [enc_A3i64, e0, e1, e2]
  · simp only [sz_A3i64]; omega
abbrev A_LA3i64 : Type := Option Bool × List A_A3i64
def enc_LA3i64 (p : A_LA3i64) : List PV := [.sl p.1 false p.2.length (p.2.flatMap enc_A3i64)]
def ok_LA3i64 (p : A_LA3i64) : Prop := p.2.length ≤ maxLen ∧ ∀ x ∈ p.2, ok_A3i64 x
def sz_LA3i64 (p : A_LA3i64) : Nat := (p.2.map fun x => sz_A3i64 x).sum + 1
theorem of_LA3i64 {r : List PV} {m : Nat} (h : TyC Try.prog 89 r m) : ∃ p : A_LA3i64, r = enc_LA3i64 p ∧ ok_LA3i64 p ∧ sz_LA3i64 p ≤ m := by
  obtain ⟨nl, ps, h1, h2, h3, h4⟩ := ty_sliceM h Try.underlying89 enc_A3i64 (fun x => ok_A3i64 x) (fun x => sz_A3i64 x) (fun r m' h => of_A3i64 h)
  exact ⟨(nl, ps), h1, ⟨h2, h3⟩, h4⟩
theorem small_sum {H : Type} {ds gs : List (DataW H)} (h : Rows.uptoSmall H (ds ++ gs) = true) : (ds.map Rows.uptoBulk).sum ≤ 1048576 := by
  have h1 : Rows.uptoBulkAll (ds ++ gs) ≤ 1048576 := of_decide_eq_true h
  have h2 : ∀ l : List (DataW H), (l.map Rows.uptoBulk).sum = Rows.uptoBulkAll l := by
    intro l
    induction l with
    | nil => rfl
    | cons d l ih => simp [Rows.uptoBulkAll, ih]
  rw [← h2, List.map_append, List.sum_append] at h1
  omega
theorem bulkOk (H : Type) : BulkOk (Rows.uptoBulk (H := H)) := by
  have all : ∀ l : List (DataW H), (l.map Rows.uptoBulk).sum = Rows.uptoBulkAll l := by
    intro l
    induction l with
    | nil => rfl
    | cons d l ih => simp [Rows.uptoBulkAll, ih]
  refine ⟨fun l => ?_, fun s => ?_, ?_, fun es sp => ?_, fun ps => ?_⟩
  · cases l <;> simp [Rows.uptoBulk]
  · simp [Rows.uptoBulk]
  · simp [Rows.uptoBulk]
  · simp [Rows.uptoBulk, all]
  · simp [Rows.uptoBulk, all]
theorem own : ownKnob Try.prog.godebug = none := by kernel_rfl
theorem laidOut : laidOutB Try.prog = true := by kernel_rfl
end Go.Proofs.Ytkhbbjfdbbnojaa
