import Derived.Test.YtkhbbjfdbbnojaaAm31
import Derived.Test.YtkhbbjfdbbnojaaRows
set_option linter.unusedVariables false
set_option linter.unusedSimpArgs false
set_option maxRecDepth 100000
namespace Go.Proofs.Ytkhbbjfdbbnojaa
open Go Go.AM
open Go.ChangeShapes Go.WideShapes Go.ChangeAt Go.RowKit
abbrev A_Li64 : Type := Option Bool × List Int
def enc_Li64 (p : A_Li64) : List PV := [.sl p.1 false p.2.length (p.2.map Ia)]
def ok_Li64 (p : A_Li64) : Prop := p.2.length ≤ maxLen ∧ ∀ x ∈ p.2, (Lit.int .i64 x).wf = true
def sz_Li64 (p : A_Li64) : Nat := (p.2.map fun x => 1).sum + 1
theorem of_Li64 {r : List PV} {m : Nat} (h : TyC Try.prog 30 r m) : ∃ p : A_Li64, r = enc_Li64 p ∧ ok_Li64 p ∧ sz_Li64 p ≤ m := by
  obtain ⟨nl, ps, h1, h2, h3, h4⟩ := ty_sliceM h Try.underlying30 (fun z => [Ia z]) (fun x => (Lit.int .i64 x).wf = true) (fun x => 1) (fun r m' h => (ty_intM h Try.underlying3))
  exact ⟨(nl, ps), by rw [h1, flat_one]; rfl, ⟨h2, h3⟩, h4⟩
theorem small_sum {H : Type} {ds gs : List (DataW H)} (h : Rows.uptoSmall H (ds ++ gs) = true) : (ds.map Rows.uptoBulk).sum ≤ 1048576 := by
  have h1 : Rows.uptoBulkAll (ds ++ gs) ≤ 1048576 := of_decide_eq_true h
  have h2 : ∀ l : List (DataW H), (l.map Rows.uptoBulk).sum = Rows.uptoBulkAll l := by
    intro l
    induction l with
    | nil => rfl
    | cons d l ih => simp [Rows.uptoBulkAll, ih]
  rw [← h2, List.map_append, List.sum_append] at h1
  omega
theorem bulkOk (H : Type) : BulkOk (Rows.uptoBulk (H := H)) := by
  have all : ∀ l : List (DataW H), (l.map Rows.uptoBulk).sum = Rows.uptoBulkAll l := by
    intro l
    induction l with
    | nil => rfl
    | cons d l ih => simp [Rows.uptoBulkAll, ih]
  refine ⟨fun l => ?_, fun s => ?_, ?_, fun es sp => ?_, fun ps => ?_⟩
  · cases l <;> simp [Rows.uptoBulk]
  · simp [Rows.uptoBulk]
  · simp [Rows.uptoBulk]
  · simp [Rows.uptoBulk, all]
  · simp [Rows.uptoBulk, all]
theorem own : ownKnob Try.prog.godebug = none := by kernel_rfl
theorem laidOut : laidOutB Try.prog = true := by kernel_rfl
end Go.Proofs.Ytkhbbjfdbbnojaa
