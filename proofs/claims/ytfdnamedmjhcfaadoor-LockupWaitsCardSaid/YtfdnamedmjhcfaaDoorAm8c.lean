/-
A range over a map: begun, gone on with, looked at.
-/
import Derived.Test.YtfdnamedmjhcfaaDoorAm8b
import Derived.Maps.RangeRun
set_option linter.unusedVariables false
set_option linter.unusedSimpArgs false
set_option linter.unusedSectionVars false
namespace Go.AM
variable [Know]
section
variable {P : Program} {H : Heap} {β : Beta} {F : Frz} {w : World}

theorem range_sound (hI : Inv H β F w) {t kt et : TypeId} {X C : AV} {H' : Heap} {vx : Value} (hu : P.underlying t = some (.map kt et)) (h : rangeA X H = some (C, H')) (hx : RA H β F w vx X) : Runs P H β F w (Instr.range t vx) C H' := by
  unfold rangeA at h
  split at h
  · rename_i id
    split at h
    · rename_i es c ho
      cases h
      obtain ⟨b, en, rfl, h1, h2, h3, h4⟩ := mp_inv hI ho hx
      have hlt := getElem?_lt ho
      obtain ⟨i1, i2⟩ := Inv.push (o' := .iter id c [] c) (nb := some (w.heap.size, 0, 0)) hI (alloc_touch (w := w) (.mapIter (some b) c #[] c) _) (fun b s t e => by cases e; exact Nat.le_refl _)
        (fun hE => ⟨hlt, w.heap.size, b, 0, 0, es, c, updB_same _ _ _, by rw [List.getElem?_append_left hlt]; exact ho, by rw [updB_other _ _ (by omega)]; exact h1, heap_alloc_new' _, Nat.le_refl _⟩)
      have hp : RA (H ++ [.iter id c [] c]) (updB β H.length (some (w.heap.size, 0, 0))) F (w.alloc (.mapIter (some b) c #[] c)) (.pointer (some ⟨w.heap.size, 0, none⟩)) (.it H.length) := RA.it (push_get _ _) (updB_same _ _ _)
      refine ⟨_, _, _, _, ?_, hp, i1, i2⟩
      simp [Instr.range, Sem.run_bind, run_underlying hu, Result.andThen_ok, Sem.run_pure, MapKept.run_getObj_map h2]
    · cases h
  · cases h

theorem it_inv (hI : Inv H β F w) {id m since last : Nat} {seen : List Nat} {v : Value} (ho : H[id]? = some (.iter m since seen last)) (h : RA H β F w v (.it id)) {es : List Ent} {c : Nat} (hm : H[m]? = some (.map es c)) :
    ∃ b bm en, v = .pointer (some ⟨b, 0, none⟩) ∧ β id = some (b, 0, 0) ∧ β m = some (bm, 0, 0) ∧ w.heap[b]? = some (.mapIter (some bm) since seen.toArray last) ∧ since ≤ last ∧ m < id ∧
      w.heap[bm]? = some (.map en c) ∧ en.size = es.length ∧ ∀ i (h : i < es.length), ∃ e, en[i]? = some e ∧ ERel H β F w e es[i] := by
  obtain ⟨h0, b, bm, s, t, es', c', h1, h2, h3, h4, h5⟩ := hI.obj id _ ho
  obtain ⟨bm', en, k1, k2, k3, k4⟩ := hI.map hm
  rw [h3] at k1
  cases k1
  cases h with
  | it ho' hb =>
    rw [h1] at hb
    cases hb
    exact ⟨b, bm, en, rfl, h1, h3, h4, h5, h0, k2, k3, k4⟩

theorem entry_sound (hI : Inv H β F w) {X C : AV} {vx : Value} (h : entryA X H = some C) (hx : RA H β F w vx X) : ∃ r, (Instr.entry vx).run P w = .ok r w ∧ RA H β F w r C := by
  unfold entryA at h
  split at h
  · rename_i id
    split at h
    · rename_i m since seen last ho
      split at h
      · rename_i es c st hm hst
        split at h
        · rename_i hc
          subst hc
          rw [Option.map_eq_some_iff] at h
          obtain ⟨e, hf, rfl⟩ := h
          obtain ⟨b, bm, en, rfl, h1, h2, h3, h4, h5, k1, k2, k3⟩ := it_inv hI ho hx hm
          obtain ⟨hp, i, hi, rfl, hmin⟩ := List.find?_eq_some_iff_getElem.mp hf
          obtain ⟨e', he', r1, r2, r3⟩ := k3 i hi
          have hen : en.toList.find? (fun x => x.born == st) = some e' := by
            rw [List.find?_eq_some_iff_getElem]
            have hi' : i < en.toList.length := by simp; omega
            refine ⟨by rw [r3]; simpa [Nat.beq_eq] using hp, i, hi', ?_, fun j hj => ?_⟩
            · have : en[i]? = some en[i] := Array.getElem?_eq_getElem (by omega)
              rw [he'] at this
              simpa using this.symm
            · obtain ⟨q, hq, _, _, q3⟩ := k3 j (by omega)
              have : en[j]? = some en[j] := Array.getElem?_eq_getElem (by omega)
              rw [hq] at this
              have hj2 := hmin j hj
              simp only [Array.getElem_toList]
              rw [← Option.some.inj this, q3]
              have hne : ¬ es[j].2.2 = st := fun e => by rw [e, Nat.beq_refl] at hj2; cases hj2
              simp [hne]
          have hen2 : en.find? (fun x => x.born == st) = some e' := by rw [← Array.find?_toList]; exact hen
          refine ⟨.tuple #[e'.key, e'.val], ?_, .tup rfl fun j hj => ?_⟩
          · have hb2 : seen.toArray.back? = some st := by simpa using hst
            simp only [Instr.entry, getObj, Sem.run_bind, Sem.run, h3, k1, Result.andThen, hb2, hen2, bne_self_eq_false, Bool.false_eq_true, if_false]
            rfl
          · match j, hj with
            | 0, _ => exact r1
            | 1, _ => exact r2
        · cases h
      · cases h
    · cases h
  · cases h

theorem next_sound (hI : Inv H β F w) {X : AV} {vx : Value} {ty : TypeId} {l : List (AV × Heap)} (h : nextA X H = some l) (hx : RA H β F w vx X) : ∃ y ∈ l, Runs P H β F w (Instr.next vx false ty) y.1 y.2 := by
  unfold nextA at h
  split at h
  · rename_i id
    split at h
    · rename_i m since seen last ho
      split at h
      · rename_i es c hm
        split at h
        · rename_i hall
          rw [Bool.and_eq_true, decide_eq_true_eq] at hall
          obtain ⟨hsc, hall⟩ := hall
          simp only [Option.some.injEq] at h
          obtain ⟨b, bm, en, rfl, h1, h2, h3, h4, h5, k1, k2, k3⟩ := it_inv hI ho hx hm
          have hold : ∀ x ∈ en.toList, x.born < since := by
            intro x hx
            obtain ⟨i, hi, rfl⟩ := List.getElem_of_mem hx
            have hi' : i < es.length := by simp at hi; omega
            obtain ⟨e', he', _, _, r3⟩ := k3 i hi'
            have : en[i]? = some en[i] := Array.getElem?_eq_getElem (by omega)
            rw [he'] at this
            have := Option.some.inj this
            simp only [Array.getElem_toList]
            rw [← this, r3]
            have := List.all_eq_true.mp hall es[i] (List.getElem_mem hi')
            simpa using this
          have left : ∀ e ∈ (leftOf en seen.toArray).toList, ∃ e2 ∈ leftA es seen, ERel H β F w e e2 := by
            intro e he
            unfold leftOf at he
            simp only [Array.toList_filter, List.mem_filter] at he
            obtain ⟨hmem, hns⟩ := he
            obtain ⟨i, hi, rfl⟩ := List.getElem_of_mem hmem
            have hi' : i < es.length := by simp at hi; omega
            obtain ⟨e', he', r⟩ := k3 i hi'
            have : en[i]? = some en[i] := Array.getElem?_eq_getElem (by omega)
            rw [he'] at this
            have := Option.some.inj this
            simp only [Array.getElem_toList] at hns ⊢
            rw [← this] at hns ⊢
            refine ⟨es[i], ?_, r⟩
            unfold leftA
            rw [List.mem_filter]
            refine ⟨List.getElem_mem hi', ?_⟩
            rw [← r.2.2]
            simpa using hns
          rcases run_next_at (P := P) w ty b bm since last seen.toArray en c h3 k1 hold h4 with ⟨hz, hrun⟩ | ⟨e, he, w1, hw1, hrun⟩
          · have hnil : leftA es seen = [] := by
              cases hl : leftA es seen with
              | nil => rfl
              | cons e r =>
                exfalso
                have hmem : e ∈ leftA es seen := by rw [hl]; simp
                unfold leftA at hmem
                rw [List.mem_filter] at hmem
                obtain ⟨i, hi, rfl⟩ := List.getElem_of_mem hmem.1
                obtain ⟨e', he', _, _, r3⟩ := k3 i hi
                have : e' ∈ (leftOf en seen.toArray) := by
                  unfold leftOf
                  rw [Array.mem_filter]
                  refine ⟨Array.mem_of_getElem? he', ?_⟩
                  rw [r3]
                  simpa using hmem.2
                have := Array.size_pos_of_mem this
                omega
            rw [hnil] at h
            subst h
            refine ⟨_, List.mem_singleton.mpr rfl, _, w, β, F, hrun, .tup rfl fun j hj => ?_, hI, Ext.refl _ _ _ _⟩
            match j, hj with
            | 0, _ => exact .of_leafy rfl
          · obtain ⟨e2, he2, r⟩ := left e he
            have hy : (AV.tup [B true, e2.1, e2.2.1], H.set id (.iter m since (seen ++ [e2.2.2]) c)) ∈ l := by
              cases hl : leftA es seen with
              | nil => rw [hl] at he2; cases he2
              | cons x xs =>
                rw [hl] at h he2
                subst h
                exact List.mem_map.mpr ⟨e2, he2, rfl⟩
            refine ⟨_, hy, ?_⟩
            have hb1 : w1.heap[b]? = some (.mapIter (some bm) since seen.toArray last) := by rcases hw1 with rfl | rfl <;> exact h3
            have hs := MapKept.heap_set (w := w1) (o' := .mapIter (some bm) since (seen.toArray.push e.born) c) hb1
            have hT1 : Touch w1 { w1 with heap := w1.heap.setIfInBounds b (.mapIter (some bm) since (seen.toArray.push e.born) c) } (fun k => k = b) := ⟨rfl, rfl, rfl, by simp, Nat.le_refl _, fun k _ hk => hs.2 k hk⟩
            have hT : Touch w { w1 with heap := w1.heap.setIfInBounds b (.mapIter (some bm) since (seen.toArray.push e.born) c) } (fun k => k = b) := by
              rcases hw1 with rfl | rfl
              · exact hT1
              · exact (drew_touch _).trans hT1
            obtain ⟨i1, i2⟩ := Inv.update (F' := F) (o' := .iter m since (seen ++ [e2.2.2]) c) (nb := β id) hI ho (hT.mono fun k hk => ⟨0, 0, by rw [hk]; exact h1⟩) (fun b2 s2 t2 e2 => ⟨.inr ⟨s2, t2, e2⟩, fun j => hI.own _ _ _ _ _ e2⟩)
              ⟨rfl, by rw [updB_same]⟩ (fun _ _ h => h) (fun _ _ h => .inl h) (fz_later hI h1 hT) (fun hE => by
                refine ⟨h5, b, bm, 0, 0, es, c, by rw [updB_same, h1], by rw [List.getElem?_set_ne (by omega)]; exact hm, by rw [updB_other _ _ (by omega), h2], ?_, ?_⟩
                · have : (seen ++ [e2.2.2]).toArray = seen.toArray.push e.born := by rw [r.2.2]; simp
                  rw [this]
                  exact hs.1
                · exact hsc)
            rw [updB_id] at i1 i2
            refine ⟨_, _, β, F, hrun, .tup rfl fun j hj => ?_, i1, i2⟩
            match j, hj with
            | 0, _ => exact .of_leafy rfl
            | 1, _ => exact r.1.ext hI i2
            | 2, _ => exact r.2.1.ext hI i2
        · cases h
      · cases h
    · cases h
  · cases h

/-! ### Clearing -/
theorem row_write (hI : Inv H β F w) {id g off n sz : Nat} {xs new : List PV} {vs : List Value} {vx : Value} (ho : H[id]? = some (.row g sz xs)) (hx : RA H β F w vx (.row id g off n)) (hle : off + n * sz ≤ xs.length) (hv : RPs F w vs new) (hl : new.length ≤ n * sz) :
    ∃ base cap w' β', vx = .slice base n cap ∧ (base = none → n = 0) ∧ (match base with | some a => (storeCells a vs).run P w | none => .ok () w) = .ok () w' ∧ Inv (H.set id (.row g sz (splice xs off new))) β' F w' ∧ Ext H β F w (H.set id (.row g sz (splice xs off new))) β' F w' := by
  have hvl : vs.length = new.length := hv.get.1
  cases hx with
  | row hl0 ho' hg hr0 =>
    rw [ho] at ho'
    cases ho'
    have hr' := hr0 rfl
    unfold RowAt at hr'
    split at hr'
    · rename_i hβ
      obtain ⟨rfl, rfl, h3, a, rfl, hsp⟩ := hr'
      have hx0 : xs = [] := List.length_eq_zero_iff.mp h3
      subst hx0
      have e1 : new = [] := List.length_eq_zero_iff.mp (by simpa using hl)
      subst e1
      have e2 : vs = [] := List.length_eq_zero_iff.mp (by simpa using hvl)
      subst e2
      obtain ⟨i1, i2⟩ := Inv.update (F' := F) (o' := .row g sz (splice [] 0 [])) (nb := none) hI ho (Touch.refl w _) (fun b s t e => by cases e) ⟨rfl, Nat.le_refl _, fun _ => ⟨rfl, by rw [updB_same, hβ]⟩⟩ (fun _ _ h => h) (fun _ _ h => .inl h) hI.fz (fun hE => .inl ⟨rfl, updB_same _ _ _⟩)
      refine ⟨a, 0, w, _, rfl, fun _ => rfl, ?_, i1, i2⟩
      cases a <;> simp [storeCells]
    · rename_i b s t hb
      obtain ⟨A, cap, rfl, hA, h5, h6, h7⟩ := hr'
      rcases hI.obj id _ ho with ⟨_, k1⟩ | ⟨b', s', t'', c, e1, k1, k2, k3, k4, k5⟩
      · rw [hb] at k1; cases k1
      · rw [hb] at k1
        cases k1
        have hst : ∃ w' c', (storeCells A vs).run P w = .ok () w' ∧ w'.heap[b]? = some (.cells c' e1 (0, 0)) ∧ c'.size = c.size ∧ Touch w w' (fun k => k = b) ∧
            ∀ j, c'.getD j undef = if s + off ≤ j ∧ j < s + off + vs.length then vs.getD (j - (s + off)) undef else c.getD j undef := by
          rcases hA with rfl | ⟨rfl, rfl, hsp⟩
          · obtain ⟨w', c', r1, r2, r3, r4, r5⟩ := storeCells_run (P := P) (o := s + off) vs 0 w c k2 hv.leafy (by omega)
            exact ⟨w', c', r1, r2, r3, r4, r5⟩
          · have e2 : vs = [] := List.length_eq_zero_iff.mp (by rw [Nat.zero_mul] at hl; omega)
            subst e2
            exact ⟨w, c, by simp [storeCells], k2, rfl, Touch.refl _ _, fun j => by rw [if_neg (by simp)]⟩
        obtain ⟨w', c', r1, r2, r3, r4, r5⟩ := hst
        have hT := r4.own (β := β) hb
        obtain ⟨i1, i2⟩ := Inv.update (w' := w') (F' := F) (o' := .row g sz (splice xs off new)) (nb := β id) hI ho hT (fun b2 s2 t2 e2 => ⟨.inr ⟨s2, t2, e2⟩, fun j => hI.own _ _ _ _ _ e2⟩)
          ⟨rfl, Nat.le_refl _, fun _ => ⟨splice_length _ _ _, updB_same _ _ _⟩⟩ (fun _ _ h => h) (fun _ _ h => .inl h) (fz_later hI hb r4) (fun hE => by
            refine .inr ⟨b, s, t, c', e1, by rw [updB_same, hb], r2, r3.trans k3, by rw [splice_length]; exact k4, fun i hi => ?_⟩
            rw [splice_length] at hi
            have hg := splice_get new xs off i (by omega)
            rw [List.getElem?_eq_getElem (by rw [splice_length]; exact hi)] at hg
            rw [r5 (s + i)]
            by_cases hin : off ≤ i ∧ i < off + new.length
            · rw [if_pos hin] at hg
              rw [if_pos (by omega)]
              have hk : i - off < new.length := by omega
              rw [List.getElem?_eq_getElem hk] at hg
              simp only [Option.some.injEq] at hg
              rw [hg]
              have := (hv.get.2 _ hk).ext hI hE
              have e1 : s + i - (s + off) = i - off := by omega
              rw [e1]
              exact this
            · rw [if_neg hin] at hg
              rw [if_neg (by omega)]
              rw [List.getElem?_eq_getElem hi] at hg
              simp only [Option.some.injEq] at hg
              rw [hg]
              exact (k5 i hi).ext hI hE)
        exact ⟨some A, cap, w', _, rfl, fun e => (by cases e), r1, i1, i2⟩

theorem zeroCells_flat {cells : Array Value} {k : Nat} (hk : cells.size = k) (n : Nat) : (Builtin.zeroCells cells n).toList = (List.replicate n cells.toList).flatten := by
  have hl : (List.replicate n cells.toList).flatten.length = n * k := by simp [hk]
  apply List.ext_getElem
  · rw [hl, Array.length_toList, size_zeroCells, hk]
  · intro j h1 h2
    have hj : j < n * cells.size := by rw [hl] at h2; rw [hk]; exact h2
    have := range_zeros cells n (n * cells.size) (Nat.le_refl _) j hj
    rw [Nat.zero_add] at this
    have e1 : (Builtin.zeroCells cells n).toList[j] = (Builtin.zeroCells cells n).getD j undef := by
      rw [Array.length_toList] at h1
      simp [Array.getD, h1]
    rw [e1]
    have e2 : (List.replicate n cells.toList).flatten[j] = (List.replicate n cells.toList).flatten.getD j undef := by
      rw [List.getD_eq_getElem?_getD, List.getElem?_eq_getElem h2]; rfl
    rw [e2, ← this]
    rfl

theorem clear_sound (hI : Inv H β F w) {ts : Array TypeId} {t0 e ty : TypeId} (hts : ts[0]? = some t0) (h0 : P.underlying t0 = some (.slice e)) (hok : elemOk P e = true) {q : List PV} (hq : zeroCellsOf P e = some q) {X : AV} {H' : Heap} {vx : Value} (h : clearA (P.cellsOf e) q X H = some H') (hx : RA H β F w vx X) :
    Runs P H β F w (Builtin.clear_ ts ty #[vx]) undefA H' := by
  obtain ⟨d, i, z, hd, hi, hz, hzs, hzl, hb1, hb2⟩ := elemOk_inv hok
  have hq' := zeroCells_inv hi hz hzl hq
  have un : ∀ w, RA H β F w (.tuple #[]) undefA := fun w => .tup rfl fun i hi => by simp at hi
  unfold clearA at h
  split at h
  · cases h
    have hv : ∃ a c, vx = .slice a 0 c := by
      cases hx with
      | p hx =>
        cases hx with
        | nil => exact ⟨_, _, rfl⟩
        | emp => exact ⟨_, _, rfl⟩
        | sl => exact ⟨_, _, rfl⟩
    obtain ⟨a, c, rfl⟩ := hv
    refine ⟨.tuple #[], w, β, F, ?_, un w, hI, Ext.refl _ _ _ _⟩
    cases a <;> simp [Builtin.clear_, hts, run_underlying h0, Sem.run_bind, Result.andThen_ok]
  · rename_i id g off n
    split at h
    · rename_i g' sz' xs ho
      split at h
      · rename_i hc
        obtain ⟨rfl, rfl, hle⟩ := hc
        cases h
        have hrp : RPs F w (List.replicate n z.cells.toList).flatten (zerosA n q) := by
          subst hq'
          exact (pvOf_all _ hzl).replicate _
        have plen : (zerosA n q).length = n * P.cellsOf e := by
          subst hq'
          simp [zerosA, hzs]
        obtain ⟨base, cap, w', β', rfl, hnil, hrun, i1, i2⟩ := row_write (P := P) hI ho hx hle hrp (by omega)
        refine ⟨.tuple #[], w', β', F, ?_, .tup rfl fun i hi => by simp at hi, i1, i2⟩
        have hzf := zeroCells_flat hzs n
        have hzr : (zeroValue e).run P w = .ok z w := run_zeroValue hi hz
        cases base with
        | none =>
          have := hnil rfl
          subst this
          simp only at hrun
          cases hrun
          simp [Builtin.clear_, hts, run_underlying h0, Sem.run_bind, Result.andThen_ok]
        | some a =>
          by_cases hn : n = 0
          · subst hn
            have hv0 : (List.replicate 0 z.cells.toList).flatten = [] := rfl
            simp only [hv0, storeCells] at hrun
            have : w' = w := by simpa using hrun.symm
            subst this
            simp [Builtin.clear_, hts, run_underlying h0, Sem.run_bind, Result.andThen_ok]
          · simp only at hrun
            rw [← hzf] at hrun
            simp [Builtin.clear_, hts, run_underlying h0, Sem.run_bind, Result.andThen_ok, hzr, hrun, hn]
      · cases h
    · cases h
  · cases h

end
end Go.AM
