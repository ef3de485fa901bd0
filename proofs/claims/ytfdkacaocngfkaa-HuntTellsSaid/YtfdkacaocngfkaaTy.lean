import Derived.Test.YtfdkacaocngfkaaAm19
import Derived.Test.YtfdkacaocngfkaaRows
set_option linter.unusedVariables false
set_option linter.unusedSimpArgs false
set_option maxRecDepth 100000
namespace Go.Proofs.Ytfdkacaocngfkaa
open Go Go.AM
open Go.ChangeShapes Go.WideShapes Go.ChangeAt Go.RowKit
abbrev A_Li64 : Type := Option Bool × List Int
def enc_Li64 (p : A_Li64) : List PV := [.sl p.1 false p.2.length (p.2.map Ia)]
def ok_Li64 (p : A_Li64) : Prop := p.2.length ≤ maxLen ∧ ∀ x ∈ p.2, (Lit.int .i64 x).wf = true
def sz_Li64 (p : A_Li64) : Nat := (p.2.map fun x => 1).sum + 1
theorem of_Li64 {r : List PV} {m : Nat} (h : TyC Try.prog 30 r m) : ∃ p : A_Li64, r = enc_Li64 p ∧ ok_Li64 p ∧ sz_Li64 p ≤ m := by
  obtain ⟨nl, ps, h1, h2, h3, h4⟩ := ty_sliceM h Try.underlying30 (fun z => [Ia z]) (fun x => (Lit.int .i64 x).wf = true) (fun x => 1) (fun r m' h => (ty_intM h Try.underlying3))
  exact ⟨(nl, ps), by rw [h1, flat_one]; rfl, ⟨h2, h3⟩, h4⟩
abbrev A_DDep : Type := A_Li64
def enc_DDep (p : A_DDep) : List PV := [.sl p.1 false p.2.length (p.2.map Ia)]
def ok_DDep (p : A_DDep) : Prop := ok_Li64 p
def sz_DDep (p : A_DDep) : Nat := sz_Li64 p + 1
theorem len_DDep (p : A_DDep) : (enc_DDep p).length = 1 := rfl
theorem of_DDep {r : List PV} {m : Nat} (h : TyC Try.prog 126 r m) : ∃ p : A_DDep, r = enc_DDep p ∧ ok_DDep p ∧ sz_DDep p ≤ m := by
  obtain ⟨hl, g, hf, hm⟩ := ty_fieldsM (l := [(30, 0)]) (by kernel_rfl) h
  rw [show Try.prog.cellsOf 126 = 1 by kernel_rfl] at hl
  simp only [sumF, List.length_cons, List.length_nil, Nat.zero_add, Nat.reduceAdd] at hm
  obtain ⟨c0, rfl⟩ : ∃ c0, r = [c0] := by
    match r, hl with
    | [c0], _ => exact ⟨c0, rfl⟩
  have t0 := hf 0 30 0 rfl
  rw [show Try.prog.cellsOf 30 = 1 by kernel_rfl] at t0
  obtain ⟨p0, e0, o0, s0⟩ := of_Li64 t0
  simp [enc_Li64] at e0
  refine ⟨p0, ?_, o0, ?_⟩
  · simp [enc_DDep, e0]
  · simp only [sz_DDep]; omega
abbrev A_LDDep : Type := Option Bool × List A_DDep
def enc_LDDep (p : A_LDDep) : List PV := [.sl p.1 false p.2.length (p.2.flatMap enc_DDep)]
def ok_LDDep (p : A_LDDep) : Prop := p.2.length ≤ maxLen ∧ ∀ x ∈ p.2, ok_DDep x
def sz_LDDep (p : A_LDDep) : Nat := (p.2.map fun x => sz_DDep x).sum + 1
theorem of_LDDep {r : List PV} {m : Nat} (h : TyC Try.prog 60 r m) : ∃ p : A_LDDep, r = enc_LDDep p ∧ ok_LDDep p ∧ sz_LDDep p ≤ m := by
  obtain ⟨nl, ps, h1, h2, h3, h4⟩ := ty_sliceM h Try.underlying60 enc_DDep (fun x => ok_DDep x) (fun x => sz_DDep x) (fun r m' h => of_DDep h)
  exact ⟨(nl, ps), h1, ⟨h2, h3⟩, h4⟩
abbrev A_Lbool : Type := Option Bool × List Bool
def enc_Lbool (p : A_Lbool) : List PV := [.sl p.1 false p.2.length (p.2.map (fun z => .v (.bool z)))]
def ok_Lbool (p : A_Lbool) : Prop := p.2.length ≤ maxLen ∧ ∀ x ∈ p.2, True
def sz_Lbool (p : A_Lbool) : Nat := (p.2.map fun x => 1).sum + 1
theorem of_Lbool {r : List PV} {m : Nat} (h : TyC Try.prog 61 r m) : ∃ p : A_Lbool, r = enc_Lbool p ∧ ok_Lbool p ∧ sz_Lbool p ≤ m := by
  obtain ⟨nl, ps, h1, h2, h3, h4⟩ := ty_sliceM h Try.underlying61 (fun z => [.v (.bool z)]) (fun x => True) (fun x => 1) (fun r m' h => (ty_boolM h Try.underlying4))
  exact ⟨(nl, ps), by rw [h1, flat_one]; rfl, ⟨h2, h3⟩, h4⟩
theorem small_sum {H : Type} {ds gs : List (DataW H)} (h : Rows.uptoSmall H (ds ++ gs) = true) : (ds.map Rows.uptoBulk).sum ≤ 1048576 := by
  have h1 : Rows.uptoBulkAll (ds ++ gs) ≤ 1048576 := of_decide_eq_true h
  have h2 : ∀ l : List (DataW H), (l.map Rows.uptoBulk).sum = Rows.uptoBulkAll l := by
    intro l
    induction l with
    | nil => rfl
    | cons d l ih => simp [Rows.uptoBulkAll, ih]
  rw [← h2, List.map_append, List.sum_append] at h1
  omega
theorem bulkOk (H : Type) : BulkOk (Rows.uptoBulk (H := H)) := by
  have all : ∀ l : List (DataW H), (l.map Rows.uptoBulk).sum = Rows.uptoBulkAll l := by
    intro l
    induction l with
    | nil => rfl
    | cons d l ih => simp [Rows.uptoBulkAll, ih]
  refine ⟨fun l => ?_, fun s => ?_, ?_, fun es sp => ?_, fun ps => ?_⟩
  · cases l <;> simp [Rows.uptoBulk]
  · simp [Rows.uptoBulk]
  · simp [Rows.uptoBulk]
  · simp [Rows.uptoBulk, all]
  · simp [Rows.uptoBulk, all]
theorem own : ownKnob Try.prog.godebug = none := by kernel_rfl
theorem laidOut : laidOutB Try.prog = true := by kernel_rfl
end Go.Proofs.Ytfdkacaocngfkaa
