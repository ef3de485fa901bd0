/-
strings.Fields of a text of plain letters, as the shelf has it; what is known of a package variable.
-/
import Derived.Test.YtfdnamedmjhcfaaDoorAm16
import Derived.Shelf.Strings.Fields
set_option linter.unusedVariables false
set_option linter.unusedSimpArgs false
set_option linter.unusedSectionVars false
namespace Go.AM
variable [Know]
open Go.Proofs Go.Shelf

/-- A cell of strings.asciiSpace. -/
def spCell (c : Nat) : Value := .int .u8 (if Lib.isSp (UInt8.ofNat c) then 1 else 0)
/-- The variable strings.asciiSpace is known. -/
abbrev spKnow (g : Nat) : Know := ⟨fun b j => if b = g ∧ j < 256 then some (spCell j) else none⟩

section
variable {P : Program} {H : Heap} {β : Beta} {F : Frz} {w : World}

variable (P) in
def FieldsC (f : FuncId) (g : Nat) : Prop := ∀ (s : ByteArray) (w : World), s.size < 4294967281 → (∀ (j : Nat) b, s.data.toList[j]? = some b → b.toNat < 128) → (∀ c, c < 256 → w.cell? ⟨g, c, none⟩ = some (spCell c)) →
  Calls P f #[.string s] w fun e w' => e = .returned (.slice (some ⟨w.heap.size, 0, none⟩) (Lib.fields s.data.toList).length (Lib.fields s.data.toList).length) ∧ ∃ ty, w' = w.alloc (.cells ((Lib.fields s.data.toList).map fun l => Value.string ⟨l.toArray⟩).toArray ty)

theorem fieldsC_of {ρ : Ren} (L : Lays.n157 P ρ) (hi9 : (P.info? (ρ.t 9)).map (fun i => (i.zero, i.size, i.bytes)) = some (some (.string ByteArray.empty), 1, 16)) : FieldsC P (ρ.f 157) (ρ.g 0) :=
  fun s w hs ha ht => (Any.strings_Fields_core L hi9 s w hs ha ht).mono fun e w' h => ⟨h.1, _, h.2⟩

theorem fields_sound {f : FuncId} {g : Nat} (hf : ∃ fn, P.funcs[f]? = some fn ∧ fn.body.isSome = true ∧ (fn.name == "runtime.NumGoroutine") = false) (hC : FieldsC P f g) (hk : ∀ c, c < 256 → Know.cell g c = some (spCell c))
    {args : List AV} {lo : List Nat} {rs : List AV} {H' : Heap} (h : fieldsRun args H = some (rs, H')) {vs : Array Value} (hI : Inv H β F w) (hv : RAs H β F w vs.toList args) (hlo : LowAll lo H) :
    (∃ fn, P.funcs[f]? = some fn ∧ fn.body.isSome = true ∧ (fn.name == "runtime.NumGoroutine") = false) ∧
    Calls P f vs w (fun e w' => ∃ v β' F', e = .returned v ∧ RA H' β' F' w' v (ret rs) ∧ Inv H' β' F' w' ∧ Ext H β F w H' β' F' w') ∧ LowAll lo H' := by
  obtain ⟨l⟩ := vs
  unfold fieldsRun at h
  split at h
  · rename_i s
    split at h
    · rename_i hc
      cases h
      simp only [Bool.and_eq_true, decide_eq_true_eq, List.all_eq_true] at hc
      obtain ⟨⟨hs, ha⟩, hne⟩ := hc
      cases hv with
      | cons hv hv' =>
        cases hv'
        have e := hv.v_inv.1
        subst e
        refine ⟨hf, (hC s w (by omega) (fun j b hb => ha b (List.mem_of_getElem? hb)) (fun c hc => (hI.kn _ _ _ (hk c hc)).2)).mono fun e w' hh => ?_, hlo⟩
        obtain ⟨rfl, ty, rfl⟩ := hh
        generalize hds : (Lib.fields s.data.toList).map (fun l => Value.string ⟨l.toArray⟩) = ds
        have hln : (Lib.fields s.data.toList).length = ds.length := by rw [← hds, List.length_map]
        have hw : strWords s = ds.map .v := by rw [← hds, List.map_map]; rfl
        have hblk : (w.alloc (.cells ds.toArray ty)).heap[w.heap.size]? = some (.cells ds.toArray ty (0, 0)) := heap_alloc_new' _
        have hT : Touch w (w.alloc (.cells ds.toArray ty)) (fun _ => False) := alloc_touch _ _
        obtain ⟨i1, i2⟩ := hI.frozen (F' := fun b j => F b j ∨ (b = w.heap.size ∧ j < ds.length)) hT (fun _ _ h => .inl h) (fun b j h => h.imp (fun x => x) fun x => by omega) (fun b j hj => by
          rcases hj with hj | ⟨rfl, hj⟩
          · obtain ⟨v, hv⟩ := hI.fz b j hj
            exact ⟨v, (World.cell?_of_block (w := w) (hT.block b (hI.lt hj) fun e => e)).trans hv⟩
          · exact ⟨_, cell_in hblk (by simpa using hj)⟩)
        refine ⟨_, β, _, rfl, ?_, i1, i2⟩
        rw [hln, hw]
        show RA _ _ _ _ _ (AV.p (.sl (some false) true (ds.map PV.v).length (ds.map PV.v)))
        rw [List.length_map]
        refine .p (.sl (fun j => ds.toArray.getD j undef) (by simp) (Nat.le_refl _) (fun _ => rfl) (fun j hj => ?_) (fun j hj => ?_))
        · have hj' : j < ds.length := by simpa using hj
          rw [Nat.zero_add]
          exact ⟨.inr ⟨rfl, hj'⟩, cell_in hblk (by simpa using hj')⟩
        · have hj' : j < ds.length := by simpa using hj
          have : ds.toArray.getD j undef = ds[j] := by
            rw [Array.getD_eq_getD_getElem?]
            simp [hj']
          simp only [this, List.getElem_map]
          refine .v ?_
          have hmem : ds[j] ∈ (Lib.fields s.data.toList).map (fun l => Value.string ⟨l.toArray⟩) := by rw [hds]; exact List.getElem_mem hj'
          obtain ⟨l', _, e⟩ := List.mem_map.mp hmem
          have : ds[j] = .string ⟨l'.toArray⟩ := e.symm ▸ rfl
          rw [this]
          rfl
    · cases h
  · cases h

/-- One function of the shelf's: strings.Fields. -/
theorem ExtOk.fields {cfg : Cfg} {f : FuncId} {g : Nat} (h : ∀ q k, cfg.ext q = some k → q = f ∧ k = .fields) (hf : ∃ fn, P.funcs[f]? = some fn ∧ fn.body.isSome = true ∧ (fn.name == "runtime.NumGoroutine") = false) (hC : FieldsC P f g) (hk : ∀ c, c < 256 → Know.cell g c = some (spCell c)) : ExtOk P cfg := by
  intro q k hq O hO args lo H rs H' he vs w β F hI hv hlo
  obtain ⟨rfl, rfl⟩ := h q k hq
  exact fields_sound hf hC hk he hI hv hlo
end
end Go.AM
