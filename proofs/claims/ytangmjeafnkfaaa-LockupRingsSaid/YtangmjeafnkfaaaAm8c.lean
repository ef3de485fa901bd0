/-
A range over a map: begun, gone on with, looked at.
-/
import Derived.Test.YtangmjeafnkfaaaAm8b
import Derived.Maps.RangeRun
set_option linter.unusedVariables false
set_option linter.unusedSimpArgs false
namespace Go.AM
section
variable {P : Program} {H : Heap} {β : Beta} {F : Frz} {w : World}

theorem range_sound (hI : Inv H β F w) {t kt et : TypeId} {X C : AV} {H' : Heap} {vx : Value} (hu : P.underlying t = some (.map kt et)) (h : rangeA X H = some (C, H')) (hx : RA H β F w vx X) : Runs P H β F w (Instr.range t vx) C H' := by
  unfold rangeA at h
  split at h
  · rename_i id
    split at h
    · rename_i es c ho
      cases h
      obtain ⟨b, en, rfl, h1, h2, h3, h4⟩ := mp_inv hI ho hx
      have hlt := getElem?_lt ho
      obtain ⟨i1, i2⟩ := Inv.push (o' := .iter id c [] c) (nb := some (w.heap.size, 0, 0)) hI (alloc_touch (w := w) (.mapIter (some b) c #[] c) _) (fun b s t e => by cases e; exact Nat.le_refl _)
        (fun hE => ⟨hlt, w.heap.size, b, 0, 0, es, c, updB_same _ _ _, by rw [List.getElem?_append_left hlt]; exact ho, by rw [updB_other _ _ (by omega)]; exact h1, heap_alloc_new' _, Nat.le_refl _⟩)
      have hp : RA (H ++ [.iter id c [] c]) (updB β H.length (some (w.heap.size, 0, 0))) F (w.alloc (.mapIter (some b) c #[] c)) (.pointer (some ⟨w.heap.size, 0, none⟩)) (.it H.length) := RA.it (push_get _ _) (updB_same _ _ _)
      refine ⟨_, _, _, _, ?_, hp, i1, i2⟩
      simp [Instr.range, Sem.run_bind, run_underlying hu, Result.andThen_ok, Sem.run_pure, MapKept.run_getObj_map h2]
    · cases h
  · cases h

theorem it_inv (hI : Inv H β F w) {id m since last : Nat} {seen : List Nat} {v : Value} (ho : H[id]? = some (.iter m since seen last)) (h : RA H β F w v (.it id)) {es : List Ent} {c : Nat} (hm : H[m]? = some (.map es c)) :
    ∃ b bm en, v = .pointer (some ⟨b, 0, none⟩) ∧ β id = some (b, 0, 0) ∧ β m = some (bm, 0, 0) ∧ w.heap[b]? = some (.mapIter (some bm) since seen.toArray last) ∧ since ≤ last ∧ m < id ∧
      w.heap[bm]? = some (.map en c) ∧ en.size = es.length ∧ ∀ i (h : i < es.length), ∃ e, en[i]? = some e ∧ ERel H β F w e es[i] := by
  obtain ⟨h0, b, bm, s, t, es', c', h1, h2, h3, h4, h5⟩ := hI.obj id _ ho
  obtain ⟨bm', en, k1, k2, k3, k4⟩ := hI.map hm
  rw [h3] at k1
  cases k1
  cases h with
  | it ho' hb =>
    rw [h1] at hb
    cases hb
    exact ⟨b, bm, en, rfl, h1, h3, h4, h5, h0, k2, k3, k4⟩

theorem entry_sound (hI : Inv H β F w) {X C : AV} {vx : Value} (h : entryA X H = some C) (hx : RA H β F w vx X) : ∃ r, (Instr.entry vx).run P w = .ok r w ∧ RA H β F w r C := by
  unfold entryA at h
  split at h
  · rename_i id
    split at h
    · rename_i m since seen last ho
      split at h
      · rename_i es c st hm hst
        split at h
        · rename_i hc
          subst hc
          rw [Option.map_eq_some_iff] at h
          obtain ⟨e, hf, rfl⟩ := h
          obtain ⟨b, bm, en, rfl, h1, h2, h3, h4, h5, k1, k2, k3⟩ := it_inv hI ho hx hm
          obtain ⟨hp, i, hi, rfl, hmin⟩ := List.find?_eq_some_iff_getElem.mp hf
          obtain ⟨e', he', r1, r2, r3⟩ := k3 i hi
          have hen : en.toList.find? (fun x => x.born == st) = some e' := by
            rw [List.find?_eq_some_iff_getElem]
            have hi' : i < en.toList.length := by simp; omega
            refine ⟨by rw [r3]; simpa [Nat.beq_eq] using hp, i, hi', ?_, fun j hj => ?_⟩
            · have : en[i]? = some en[i] := Array.getElem?_eq_getElem (by omega)
              rw [he'] at this
              simpa using this.symm
            · obtain ⟨q, hq, _, _, q3⟩ := k3 j (by omega)
              have : en[j]? = some en[j] := Array.getElem?_eq_getElem (by omega)
              rw [hq] at this
              have hj2 := hmin j hj
              simp only [Array.getElem_toList]
              rw [← Option.some.inj this, q3]
              have hne : ¬ es[j].2.2 = st := fun e => by rw [e, Nat.beq_refl] at hj2; cases hj2
              simp [hne]
          have hen2 : en.find? (fun x => x.born == st) = some e' := by rw [← Array.find?_toList]; exact hen
          refine ⟨.tuple #[e'.key, e'.val], ?_, .tup rfl fun j hj => ?_⟩
          · have hb2 : seen.toArray.back? = some st := by simpa using hst
            simp only [Instr.entry, getObj, Sem.run_bind, Sem.run, h3, k1, Result.andThen, hb2, hen2, bne_self_eq_false, Bool.false_eq_true, if_false]
            rfl
          · match j, hj with
            | 0, _ => exact r1
            | 1, _ => exact r2
        · cases h
      · cases h
    · cases h
  · cases h

theorem next_sound (hI : Inv H β F w) {X : AV} {vx : Value} {ty : TypeId} {l : List (AV × Heap)} (h : nextA X H = some l) (hx : RA H β F w vx X) : ∃ y ∈ l, Runs P H β F w (Instr.next vx false ty) y.1 y.2 := by
  unfold nextA at h
  split at h
  · rename_i id
    split at h
    · rename_i m since seen last ho
      split at h
      · rename_i es c hm
        split at h
        · rename_i hall
          rw [Bool.and_eq_true, decide_eq_true_eq] at hall
          obtain ⟨hsc, hall⟩ := hall
          simp only [Option.some.injEq] at h
          obtain ⟨b, bm, en, rfl, h1, h2, h3, h4, h5, k1, k2, k3⟩ := it_inv hI ho hx hm
          have hold : ∀ x ∈ en.toList, x.born < since := by
            intro x hx
            obtain ⟨i, hi, rfl⟩ := List.getElem_of_mem hx
            have hi' : i < es.length := by simp at hi; omega
            obtain ⟨e', he', _, _, r3⟩ := k3 i hi'
            have : en[i]? = some en[i] := Array.getElem?_eq_getElem (by omega)
            rw [he'] at this
            have := Option.some.inj this
            simp only [Array.getElem_toList]
            rw [← this, r3]
            have := List.all_eq_true.mp hall es[i] (List.getElem_mem hi')
            simpa using this
          have left : ∀ e ∈ (leftOf en seen.toArray).toList, ∃ e2 ∈ leftA es seen, ERel H β F w e e2 := by
            intro e he
            unfold leftOf at he
            simp only [Array.toList_filter, List.mem_filter] at he
            obtain ⟨hmem, hns⟩ := he
            obtain ⟨i, hi, rfl⟩ := List.getElem_of_mem hmem
            have hi' : i < es.length := by simp at hi; omega
            obtain ⟨e', he', r⟩ := k3 i hi'
            have : en[i]? = some en[i] := Array.getElem?_eq_getElem (by omega)
            rw [he'] at this
            have := Option.some.inj this
            simp only [Array.getElem_toList] at hns ⊢
            rw [← this] at hns ⊢
            refine ⟨es[i], ?_, r⟩
            unfold leftA
            rw [List.mem_filter]
            refine ⟨List.getElem_mem hi', ?_⟩
            rw [← r.2.2]
            simpa using hns
          rcases run_next_at (P := P) w ty b bm since last seen.toArray en c h3 k1 hold h4 with ⟨hz, hrun⟩ | ⟨e, he, w1, hw1, hrun⟩
          · have hnil : leftA es seen = [] := by
              cases hl : leftA es seen with
              | nil => rfl
              | cons e r =>
                exfalso
                have hmem : e ∈ leftA es seen := by rw [hl]; simp
                unfold leftA at hmem
                rw [List.mem_filter] at hmem
                obtain ⟨i, hi, rfl⟩ := List.getElem_of_mem hmem.1
                obtain ⟨e', he', _, _, r3⟩ := k3 i hi
                have : e' ∈ (leftOf en seen.toArray) := by
                  unfold leftOf
                  rw [Array.mem_filter]
                  refine ⟨Array.mem_of_getElem? he', ?_⟩
                  rw [r3]
                  simpa using hmem.2
                have := Array.size_pos_of_mem this
                omega
            rw [hnil] at h
            subst h
            refine ⟨_, List.mem_singleton.mpr rfl, _, w, β, F, hrun, .tup rfl fun j hj => ?_, hI, Ext.refl _ _ _ _⟩
            match j, hj with
            | 0, _ => exact .of_leafy rfl
          · obtain ⟨e2, he2, r⟩ := left e he
            have hy : (AV.tup [B true, e2.1, e2.2.1], H.set id (.iter m since (seen ++ [e2.2.2]) c)) ∈ l := by
              cases hl : leftA es seen with
              | nil => rw [hl] at he2; cases he2
              | cons x xs =>
                rw [hl] at h he2
                subst h
                exact List.mem_map.mpr ⟨e2, he2, rfl⟩
            refine ⟨_, hy, ?_⟩
            have hb1 : w1.heap[b]? = some (.mapIter (some bm) since seen.toArray last) := by rcases hw1 with rfl | rfl <;> exact h3
            have hs := MapKept.heap_set (w := w1) (o' := .mapIter (some bm) since (seen.toArray.push e.born) c) hb1
            have hT1 : Touch w1 { w1 with heap := w1.heap.setIfInBounds b (.mapIter (some bm) since (seen.toArray.push e.born) c) } (fun k => k = b) := ⟨rfl, rfl, rfl, by simp, fun k _ hk => hs.2 k hk⟩
            have hT : Touch w { w1 with heap := w1.heap.setIfInBounds b (.mapIter (some bm) since (seen.toArray.push e.born) c) } (fun k => k = b) := by
              rcases hw1 with rfl | rfl
              · exact hT1
              · exact (drew_touch _).trans hT1
            obtain ⟨i1, i2⟩ := Inv.update (F' := F) (o' := .iter m since (seen ++ [e2.2.2]) c) (nb := β id) hI ho (hT.mono fun k hk => ⟨0, 0, by rw [hk]; exact h1⟩) (fun b2 s2 t2 e2 => ⟨.inr ⟨s2, t2, e2⟩, fun j => hI.own _ _ _ _ _ e2⟩)
              ⟨rfl, by rw [updB_same]⟩ (fun _ _ h => h) (fun _ _ h => .inl h) (fz_later hI h1 hT) (fun hE => by
                refine ⟨h5, b, bm, 0, 0, es, c, by rw [updB_same, h1], by rw [List.getElem?_set_ne (by omega)]; exact hm, by rw [updB_other _ _ (by omega), h2], ?_, ?_⟩
                · have : (seen ++ [e2.2.2]).toArray = seen.toArray.push e.born := by rw [r.2.2]; simp
                  rw [this]
                  exact hs.1
                · exact hsc)
            rw [updB_id] at i1 i2
            refine ⟨_, _, β, F, hrun, .tup rfl fun j hj => ?_, i1, i2⟩
            match j, hj with
            | 0, _ => exact .of_leafy rfl
            | 1, _ => exact r.1.ext hI i2
            | 2, _ => exact r.2.1.ext hI i2
        · cases h
      · cases h
    · cases h
  · cases h

end
end Go.AM
