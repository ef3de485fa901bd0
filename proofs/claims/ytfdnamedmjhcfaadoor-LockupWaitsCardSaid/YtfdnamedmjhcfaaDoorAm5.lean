/-
How memory changes under the abstract operations: one object that changes, one that is made.
-/
import Derived.Test.YtfdnamedmjhcfaaDoorAm4
set_option linter.unusedVariables false
set_option linter.unusedSimpArgs false
set_option linter.unusedSectionVars false
namespace Go.AM
variable [Know]
section
variable {P : Program} {H H' : Heap} {β β' : Beta} {F F' : Frz} {w w' : World}

/-- The world w' is w but for what lies in these blocks, and new ones. -/
structure Touch (w w' : World) (may : Nat → Prop) : Prop where
  os : w'.os = w.os
  tape : w'.tape = w.tape
  output : w'.output = w.output
  size : w.heap.size ≤ w'.heap.size
  drawn : w.drawn ≤ w'.drawn
  block : ∀ k, k < w.heap.size → ¬ may k → w'.heap[k]? = w.heap[k]?

theorem Touch.refl (w : World) (may : Nat → Prop) : Touch w w may := ⟨rfl, rfl, rfl, Nat.le_refl _, Nat.le_refl _, fun _ _ _ => rfl⟩

theorem Touch.mono {may may' : Nat → Prop} (h : Touch w w' may) (hm : ∀ k, may k → may' k) : Touch w w' may' := ⟨h.os, h.tape, h.output, h.size, h.drawn, fun k hk hn => h.block k hk fun e => hn (hm k e)⟩

theorem Touch.trans {w'' : World} {may : Nat → Prop} (h : Touch w w' may) (k : Touch w' w'' may) : Touch w w'' may :=
  ⟨k.os.trans h.os, k.tape.trans h.tape, k.output.trans h.output, Nat.le_trans h.size k.size, Nat.le_trans h.drawn k.drawn, fun i hi hn => (k.block i (Nat.lt_of_lt_of_le hi h.size) hn).trans (h.block i hi hn)⟩

theorem push_get {α : Type} (l : List α) (o : α) : (l ++ [o])[l.length]? = some o := by simp

theorem set_get {α : Type} {l : List α} {i : Nat} {x : α} (o : α) (h : l[i]? = some x) : (l.set i o)[i]? = some o := by simp [getElem?_lt h]

theorem block_lt {b : Nat} {o : Obj} (h : w.heap[b]? = some o) : b < w.heap.size := by
  rcases Nat.lt_or_ge b w.heap.size with h' | h'
  · exact h'
  · simp [Array.getElem?_eq_none h'] at h

theorem ObjOk.lt {id : Nat} {o : AObj} (h : ObjOk H β F w id o) {b s t : Nat} (hb : β id = some (b, s, t)) : b < w.heap.size := by
  cases o with
  | box xs =>
    rcases h with ⟨_, h1⟩ | ⟨b', c, e, h1, h2, _⟩
    · rw [hb] at h1; cases h1
    · rw [hb] at h1
      cases h1
      exact block_lt h2
  | row g sz xs =>
    rcases h with ⟨_, h1⟩ | ⟨b', s', t', c, e, h1, h2, _⟩
    · rw [hb] at h1; cases h1
    · rw [hb] at h1
      cases h1
      exact block_lt h2
  | map es c =>
    obtain ⟨b', en, h1, h2, _⟩ := h
    rw [hb] at h1
    cases h1
    exact block_lt h2
  | iter m since seen last =>
    obtain ⟨_, b', bm, s', t', es, c, h1, _, _, h2, _⟩ := h
    rw [hb] at h1
    cases h1
    exact block_lt h2
  | hole => rw [show β id = none from h] at hb; cases hb

theorem Inv.some_of {id b s t : Nat} (hI : Inv H β F w) (hb : β id = some (b, s, t)) : ∃ o, H[id]? = some o := by
  rcases Nat.lt_or_ge id H.length with h | h
  · exact ⟨_, List.getElem?_eq_getElem h⟩
  · rw [hI.dom id h] at hb; cases hb

theorem Inv.block_lt {id b s t : Nat} (hI : Inv H β F w) (hb : β id = some (b, s, t)) : b < w.heap.size :=
  let ⟨_, ho⟩ := hI.some_of hb
  (hI.obj id _ ho).lt hb

theorem ObjOk.mono {id : Nat} {o : AObj} (hI : Inv H β F w) (hE : Ext H β F w H' β' F' w') (hβ : β' id = β id) (hb : ∀ b s t, β id = some (b, s, t) → w'.heap[b]? = w.heap[b]?) (h : ObjOk H β F w id o) : ObjOk H' β' F' w' id o := by
  cases o with
  | box xs =>
    rcases h with ⟨h1, h2⟩ | ⟨b, c, e, h1, h2, h3, h4⟩
    · exact .inl ⟨h1, hβ.trans h2⟩
    · exact .inr ⟨b, c, e, hβ.trans h1, (hb _ _ _ h1).trans h2, h3, fun i hi => ⟨(h4 i hi).1.ext hI hE, (h4 i hi).2⟩⟩
  | row g sz xs =>
    rcases h with ⟨h1, h2⟩ | ⟨b, s, t, c, e, h1, h2, h3, h4, h5⟩
    · exact .inl ⟨h1, hβ.trans h2⟩
    · exact .inr ⟨b, s, t, c, e, hβ.trans h1, (hb _ _ _ h1).trans h2, h3, h4, fun i hi => (h5 i hi).ext hI hE⟩
  | map es c =>
    obtain ⟨b, en, h1, h2, h3, h4⟩ := h
    refine ⟨b, en, hβ.trans h1, (hb _ _ _ h1).trans h2, h3, fun i hi => ?_⟩
    obtain ⟨e, k1, k2, k3, k4⟩ := h4 i hi
    exact ⟨e, k1, k2.ext hI hE, k3.ext hI hE, k4⟩
  | iter m since seen last =>
    obtain ⟨h0, b, bm, s, t, es, c, h1, h2, h3, h4, h5⟩ := h
    obtain ⟨o', ho', k⟩ := hE.grow m _ h2
    cases o' <;> first | exact k.elim | skip
    exact ⟨h0, b, bm, s, t, _, _, hβ.trans h1, ho', Eq.trans k h3, (hb _ _ _ h1).trans h4, h5⟩
  | hole => exact hβ.trans h

def updB (β : Beta) (id : Nat) (nb : Option (Nat × Nat × Nat)) : Beta := fun i => if i = id then nb else β i

theorem updB_same (β : Beta) (id : Nat) (nb : Option (Nat × Nat × Nat)) : updB β id nb id = nb := by simp [updB]
theorem updB_other (β : Beta) {id i : Nat} (nb : Option (Nat × Nat × Nat)) (h : i ≠ id) : updB β id nb i = β i := by simp [updB, h]
theorem updB_id (β : Beta) (id : Nat) : updB β id (β id) = β := by
  funext i
  unfold updB
  split
  · rename_i e; rw [e]
  · rfl

/-- One object changes: its block is written, or another takes its place, or it is given away. -/
theorem Inv.update {id : Nat} {o o' : AObj} {nb : Option (Nat × Nat × Nat)} (hI : Inv H β F w) (ho : H[id]? = some o) (hT : Touch w w' (fun k => ∃ s t, β id = some (k, s, t)))
    (hn : ∀ b s t, nb = some (b, s, t) → (w.heap.size ≤ b ∨ ∃ s' t', β id = some (b, s', t')) ∧ ∀ j, ¬ F' b j)
    (hG : GrowO β (updB β id nb) id o o') (hF : ∀ b j, F b j → F' b j) (hF' : ∀ b j, F' b j → F b j ∨ w.heap.size ≤ b ∨ ∃ s t, β id = some (b, s, t))
    (hfz : ∀ b j, F' b j → ∃ v, w'.cell? ⟨b, j, none⟩ = some v)
    (hO : Ext H β F w (H.set id o') (updB β id nb) F' w' → ObjOk (H.set id o') (updB β id nb) F' w' id o') : Inv (H.set id o') (updB β id nb) F' w' ∧ Ext H β F w (H.set id o') (updB β id nb) F' w' := by
  have hlt := getElem?_lt ho
  have hgrow : Grow H β (H.set id o') (updB β id nb) := by
    intro i x hx
    by_cases e : i = id
    · subst e
      rw [ho] at hx
      cases hx
      exact ⟨o', by simp [hlt], hG⟩
    · refine ⟨x, by rw [List.getElem?_set_ne (Ne.symm e)]; exact hx, ?_⟩
      cases x with
      | box xs => exact fun _ => ⟨rfl, updB_other _ _ e⟩
      | row g sz xs => exact ⟨rfl, Nat.le_refl _, fun _ => ⟨rfl, updB_other _ _ e⟩⟩
      | map es c => exact updB_other _ _ e
      | iter m since seen last => exact ⟨rfl, updB_other _ _ e⟩
      | hole => exact trivial
  have hE : Ext H β F w (H.set id o') (updB β id nb) F' w' :=
    { os := hT.os, tape := hT.tape, output := hT.output, size := hT.size, drawn := hT.drawn
      block := fun b hb hnb => hT.block b hb fun ⟨s, t, e⟩ => hnb id s t e
      fz := hF
      fn := fun b j hj => (hF' b j hj).imp (fun x => x) (Or.imp (fun x => x) fun ⟨s, t, e⟩ => ⟨id, s, t, e⟩)
      own := fun i b s t e => by
        by_cases ei : i = id
        · subst ei
          rw [updB_same] at e
          exact ((hn b s t e).1).imp (fun x => x) fun ⟨s', t', e'⟩ => ⟨_, s', t', e'⟩
        · rw [updB_other _ _ ei] at e
          exact .inr ⟨i, s, t, e⟩
      grow := hgrow }
  refine ⟨⟨fun i x hx => ?_, fun i j b s t s' t' hij hi hj => ?_, fun i hi => ?_, hfz, fun i b s t j hi hj => ?_, fun b j v e => ⟨hF _ _ (hI.kn b j v e).1, (Ext.cell hI hE (hI.kn b j v e).1).trans (hI.kn b j v e).2⟩⟩, hE⟩
  · by_cases e : i = id
    · subst e
      simp [hlt] at hx
      subst hx
      exact hO hE
    · rw [List.getElem?_set_ne (Ne.symm e)] at hx
      refine (hI.obj i x hx).mono hI hE (updB_other _ _ e) fun b s t hb => ?_
      exact hT.block b (hI.block_lt hb) fun ⟨s', t', e'⟩ => hI.inj _ _ _ _ _ _ _ e hb e'
  · by_cases ei : i = id
    · subst ei
      rw [updB_same] at hi
      rw [updB_other _ _ (Ne.symm hij)] at hj
      rcases (hn b s t hi).1 with h | ⟨s'', t'', e⟩
      · have := hI.block_lt hj; omega
      · exact hI.inj _ _ _ _ _ _ _ hij e hj
    · rw [updB_other _ _ ei] at hi
      by_cases ej : j = id
      · subst ej
        rw [updB_same] at hj
        rcases (hn b s' t' hj).1 with h | ⟨s'', t'', e⟩
        · have := hI.block_lt hi; omega
        · exact hI.inj _ _ _ _ _ _ _ hij hi e
      · rw [updB_other _ _ ej] at hj
        exact hI.inj _ _ _ _ _ _ _ hij hi hj
  · have : i ≠ id := by simp at hi; omega
    rw [updB_other _ _ this]
    exact hI.dom i (by simpa using hi)
  · by_cases ei : i = id
    · subst ei
      rw [updB_same] at hi
      exact (hn b s t hi).2 j hj
    · rw [updB_other _ _ ei] at hi
      rcases hF' b j hj with h | h | ⟨s', t', h⟩
      · exact hI.own _ _ _ _ _ hi h
      · have := hI.block_lt hi; omega
      · exact hI.inj _ _ _ _ _ _ _ ei hi h

/-- One object is made. -/
theorem Inv.push {o' : AObj} {nb : Option (Nat × Nat × Nat)} (hI : Inv H β F w) (hT : Touch w w' (fun _ => False)) (hn : ∀ b s t, nb = some (b, s, t) → w.heap.size ≤ b)
    (hO : Ext H β F w (H ++ [o']) (updB β H.length nb) F w' → ObjOk (H ++ [o']) (updB β H.length nb) F w' H.length o') : Inv (H ++ [o']) (updB β H.length nb) F w' ∧ Ext H β F w (H ++ [o']) (updB β H.length nb) F w' := by
  have hgrow : Grow H β (H ++ [o']) (updB β H.length nb) := by
    intro i x hx
    have hi := getElem?_lt hx
    have e : i ≠ H.length := by omega
    refine ⟨x, by rw [List.getElem?_append_left hi]; exact hx, ?_⟩
    cases x with
    | box xs => exact fun _ => ⟨rfl, updB_other _ _ e⟩
    | row g sz xs => exact ⟨rfl, Nat.le_refl _, fun _ => ⟨rfl, updB_other _ _ e⟩⟩
    | map es c => exact updB_other _ _ e
    | iter m since seen last => exact ⟨rfl, updB_other _ _ e⟩
    | hole => exact trivial
  have hE : Ext H β F w (H ++ [o']) (updB β H.length nb) F w' :=
    { os := hT.os, tape := hT.tape, output := hT.output, size := hT.size, drawn := hT.drawn
      block := fun b hb _ => hT.block b hb fun e => e
      fz := fun _ _ h => h
      fn := fun _ _ h => .inl h
      own := fun i b s t e => by
        by_cases ei : i = H.length
        · subst ei
          rw [updB_same] at e
          exact .inl (hn b s t e)
        · rw [updB_other _ _ ei] at e
          exact .inr ⟨i, s, t, e⟩
      grow := hgrow }
  refine ⟨⟨fun i x hx => ?_, fun i j b s t s' t' hij hi hj => ?_, fun i hi => ?_, fun b j hj => ?_, fun i b s t j hi hj => ?_, fun b j v e => ⟨(hI.kn b j v e).1, (Ext.cell hI hE (hI.kn b j v e).1).trans (hI.kn b j v e).2⟩⟩, hE⟩
  · by_cases e : i = H.length
    · subst e
      simp at hx
      subst hx
      exact hO hE
    · have hi := getElem?_lt hx
      simp at hi
      rw [List.getElem?_append_left (by omega)] at hx
      refine (hI.obj i x hx).mono hI hE (updB_other _ _ e) fun b s t hb => ?_
      exact hT.block b (hI.block_lt hb) fun e => e
  · by_cases ei : i = H.length
    · subst ei
      rw [updB_same] at hi
      rw [updB_other _ _ (Ne.symm hij)] at hj
      have h := hn b s t hi
      have := hI.block_lt hj; omega
    · rw [updB_other _ _ ei] at hi
      by_cases ej : j = H.length
      · subst ej
        rw [updB_same] at hj
        have h := hn b s' t' hj
        have := hI.block_lt hi; omega
      · rw [updB_other _ _ ej] at hj
        exact hI.inj _ _ _ _ _ _ _ hij hi hj
  · have : i ≠ H.length := by simp at hi; omega
    rw [updB_other _ _ this]
    exact hI.dom i (by simp at hi; omega)
  · obtain ⟨v, hv⟩ := hI.fz b j hj
    exact ⟨v, (World.cell?_of_block (w := w) (hT.block b (hI.lt hj) fun e => e)).trans hv⟩
  · by_cases ei : i = H.length
    · subst ei
      rw [updB_same] at hi
      have h := hn b s t hi
      have := hI.lt hj
      omega
    · rw [updB_other _ _ ei] at hi
      exact hI.own _ _ _ _ _ hi hj

/-- Only new frozen cells, in new blocks. -/
theorem Inv.frozen (hI : Inv H β F w) (hT : Touch w w' (fun _ => False)) (hF : ∀ b j, F b j → F' b j) (hF' : ∀ b j, F' b j → F b j ∨ w.heap.size ≤ b) (hfz : ∀ b j, F' b j → ∃ v, w'.cell? ⟨b, j, none⟩ = some v) :
    Inv H β F' w' ∧ Ext H β F w H β F' w' := by
  have hE : Ext H β F w H β F' w' :=
    { os := hT.os, tape := hT.tape, output := hT.output, size := hT.size, drawn := hT.drawn
      block := fun b hb _ => hT.block b hb fun e => e
      fz := hF
      fn := fun b j h => (hF' b j h).imp id .inl
      own := fun i b s t e => .inr ⟨i, s, t, e⟩
      grow := Grow.refl _ _ }
  refine ⟨⟨fun i x hx => ?_, hI.inj, hI.dom, hfz, fun i b s t j hi hj => ?_, fun b j v e => ⟨hF _ _ (hI.kn b j v e).1, (Ext.cell hI hE (hI.kn b j v e).1).trans (hI.kn b j v e).2⟩⟩, hE⟩
  · exact (hI.obj i x hx).mono hI hE rfl fun b s t hb => hT.block b (hI.block_lt hb) fun e => e
  · rcases hF' b j hj with h | h
    · exact hI.own _ _ _ _ _ hi h
    · have := hI.block_lt hi; omega

/-- Nothing but draws. -/
theorem Inv.same (hI : Inv H β F w) (hT : Touch w w' (fun _ => False)) : Inv H β F w' ∧ Ext H β F w H β F w' :=
  hI.frozen hT (fun _ _ h => h) (fun _ _ h => .inl h) fun b j hj => by
    obtain ⟨v, hv⟩ := hI.fz b j hj
    exact ⟨v, (World.cell?_of_block (w := w) (hT.block b (hI.lt hj) fun e => e)).trans hv⟩

/-! ### Cells written -/
theorem cell_in {b j : Nat} {c : Array Value} {e : TypeId} {m : Nat × Nat} (h : w.heap[b]? = some (.cells c e m)) (hj : j < c.size) : w.cell? ⟨b, j, none⟩ = some (c.getD j undef) := by
  simp [World.cell?, h, Array.getD, hj]

theorem frozen_no {b j : Nat} {c : Array Value} {e : TypeId} (h : w.heap[b]? = some (.cells c e (0, 0))) : w.frozen? ⟨b, j, none⟩ = false := by
  simp [World.frozen?, h]

theorem oneCell_of {v : Value} (h : leafyV v = true) : v.oneCell' = true := by cases v <;> first | rfl | cases h

theorem store_run {b j : Nat} {c : Array Value} {e : TypeId} {v : Value} (h : w.heap[b]? = some (.cells c e (0, 0))) (hj : j < c.size) (hv : leafyV v = true) :
    (store ⟨b, j, none⟩ v).run P w = .ok () (w.setCell ⟨b, j, none⟩ v) := by
  rw [run_store P w _ _ _ (oneCell_of hv), cell_in h hj]
  simp [frozen_no h]

theorem setCell_block {b j : Nat} {c : Array Value} {e : TypeId} {m : Nat × Nat} {v : Value} (h : w.heap[b]? = some (.cells c e m)) : (w.setCell ⟨b, j, none⟩ v).heap[b]? = some (.cells (c.setIfInBounds j v) e m) := by
  simp [World.setCell, Array.getElem?_modify, h]

theorem setCell_touch {b j : Nat} {v : Value} : Touch w (w.setCell ⟨b, j, none⟩ v) (fun k => k = b) :=
  ⟨rfl, rfl, rfl, by simp, Nat.le_refl _, fun k _ hk => by
    simp only [World.setCell, Array.getElem?_modify]
    rw [if_neg (fun e => hk e.symm)]⟩

theorem storeCells_run {b o : Nat} {e : TypeId} : ∀ (vs : List Value) (i : Nat) (w : World) (c : Array Value), w.heap[b]? = some (.cells c e (0, 0)) → (∀ v ∈ vs, leafyV v = true) → o + i + vs.length ≤ c.size →
    ∃ w' c', (storeCells ⟨b, o, none⟩ vs i).run P w = .ok () w' ∧ w'.heap[b]? = some (.cells c' e (0, 0)) ∧ c'.size = c.size ∧ Touch w w' (fun k => k = b) ∧
      ∀ j, c'.getD j undef = if o + i ≤ j ∧ j < o + i + vs.length then vs.getD (j - (o + i)) undef else c.getD j undef := by
  intro vs
  induction vs with
  | nil =>
    intro i w c h _ _
    exact ⟨w, c, by simp [storeCells], h, rfl, Touch.refl _ _, fun j => by rw [if_neg (by simp)]⟩
  | cons v vs ih =>
    intro i w c h hv hs
    simp only [List.length_cons] at hs
    have h1 : o + i < c.size := by omega
    obtain ⟨w', c', r1, r2, r3, r4, r5⟩ := ih (i + 1) (w.setCell ⟨b, o + i, none⟩ v) (c.setIfInBounds (o + i) v) (setCell_block h) (fun x hx => hv x (by simp [hx])) (by simp; omega)
    refine ⟨w', c', ?_, r2, by simpa using r3, setCell_touch.trans r4, fun j => ?_⟩
    · simp only [storeCells, Sem.run_bind, Addr.add_lit, store_run h h1 (hv v (by simp)), Result.andThen_ok]
      exact r1
    · rw [r5 j]
      simp only [List.length_cons]
      by_cases e1 : j = o + i
      · subst e1
        rw [if_neg (by omega), if_pos (by omega)]
        simp [Array.getD, h1]
      · by_cases e2 : o + i ≤ j ∧ j < o + i + (vs.length + 1)
        · rw [if_pos (by omega), if_pos e2]
          obtain ⟨k, hk⟩ : ∃ k, j - (o + i) = k + 1 := ⟨j - (o + i) - 1, by omega⟩
          rw [hk, show j - (o + (i + 1)) = k by omega]
          rfl
        · rw [if_neg (by omega), if_neg e2]
          rw [Array.getD_eq_getD_getElem?, Array.getD_eq_getD_getElem?, Array.getElem?_setIfInBounds_ne (by omega)]

end
end Go.AM
