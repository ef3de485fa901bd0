/-
The abstract operations on memory: what they answer the program's own operations answer.
-/
import Derived.Test.YtfdnamedmjhcfaaDoorAm5
import Derived.Laws.AppendOwn
set_option linter.unusedVariables false
set_option linter.unusedSimpArgs false
set_option linter.unusedSectionVars false
namespace Go.AM
variable [Know]

/-- An operation that comes to a value, over a heap that it may have changed. -/
def Runs (P : Program) (H : Heap) (β : Beta) (F : Frz) (w : World) (s : Sem Value) (x : AV) (H' : Heap) : Prop :=
  ∃ r w' β' F', s.run P w = .ok r w' ∧ RA H' β' F' w' r x ∧ Inv H' β' F' w' ∧ Ext H β F w H' β' F' w'

section
variable {P : Program} {H : Heap} {β : Beta} {F : Frz} {w : World}

theorem Runs.of_same {s : Sem Value} {x : AV} {r : Value} (hI : Inv H β F w) (h : s.run P w = .ok r w) (hr : RA H β F w r x) : Runs P H β F w s x H := ⟨r, w, β, F, h, hr, hI, Ext.refl _ _ _ _⟩

theorem partP_eq (agg : Bool) (n : Nat) (xs : List PV) (off : Nat) : partP agg n xs off = partA agg n (xs.map .p) off := by
  unfold partP partA
  simp [List.map_drop, List.map_take]

theorem load_run {t : TypeId} {d : TypeDesc} (hd : P.underlying t = some d) {b o off : Nat} {cs : Nat → Value} {xs : List AV} {C : AV}
    (hc : ∀ i, i < xs.length → w.cell? ⟨b, o + i, none⟩ = some (cs i)) (hr : ∀ i (h : i < xs.length), RA H β F w (cs i) xs[i]) (h : partA (isAggT P t) (P.cellsOf t) xs off = some C) :
    ∃ r, (Instr.loadAt t (.pointer (some ⟨b, o + off, none⟩))).run P w = .ok r w ∧ RA H β F w r C := by
  simp only [Instr.loadAt, Instr.sureAddr, loadVar, Sem.run_bind, Sem.run_pure, Result.andThen_ok, run_isAgg hd]
  unfold partA at h
  split at h
  · rename_i ha
    split at h
    · rename_i hle
      cases h
      rw [ha]
      simp only [if_true, Sem.run_bind, run_sizeOf hd, Result.andThen_ok, Sem.run_pure]
      rw [run_loadCells w ⟨b, o + off, none⟩ (P.cellsOf t) (fun j => cs (off + j)) (fun j hj => by
        rw [Addr.add_lit, Nat.add_assoc]
        exact hc _ (by omega))]
      refine ⟨_, rfl, .agg (by simp; omega) fun i hi => ?_⟩
      have hi' : i < P.cellsOf t := by simp at hi; omega
      simp only [List.getElem_take, List.getElem_drop]
      have := hr (off + i) (by omega)
      simpa [Array.getD, hi'] using this
    · cases h
  · rename_i ha
    have hi := getElem?_lt h
    have : isAggT P t = false := by simpa using ha
    rw [this]
    simp only [Bool.false_eq_true, if_false, run_load, hc off hi]
    refine ⟨_, rfl, ?_⟩
    rw [List.getElem?_eq_getElem hi] at h
    cases h
    exact hr off hi

theorem ld_sound (hI : Inv H β F w) {t : TypeId} {d : TypeDesc} (hd : P.underlying t = some d) {A C : AV} {va : Value} (h : ld (isAggT P t) (P.cellsOf t) A H = some C) (ha : RA H β F w va A) :
    ∃ r, (Instr.loadAt t va).run P w = .ok r w ∧ RA H β F w r C := by
  unfold ld at h
  split at h
  · rename_i xs off
    cases ha with
    | @fp b s _ _ c h4 h5 =>
      rw [partP_eq] at h
      exact load_run hd (cs := c) (fun i hi => (h4 i (by simpa using hi)).2) (fun i hi => by simpa using RA.p (h5 i (by simpa using hi))) h
  · rename_i id off
    split at h
    · rename_i xs ho
      split at h
      · rename_i hpos
        cases ha with
        | ptr _ ho' hb =>
          rw [ho] at ho'
          cases ho'
          obtain ⟨b, s, t', hbb, rfl⟩ := hb hpos
          clear hb
          rcases hI.obj id _ ho with ⟨h1, _⟩ | ⟨b', c, e, h1, h2, h3, h4⟩
          · rw [h1] at hpos; exact absurd hpos (by simp)
          · rw [hbb] at h1
            cases h1
            exact load_run hd (cs := fun i => c.getD i undef) (fun i hi => by rw [Nat.zero_add]; exact cell_in h2 (by omega)) (fun i hi => (h4 i hi).1) h
      · cases h
    · cases h
  · rename_i id g off
    split at h
    · rename_i g' sz xs ho
      split at h
      · rename_i hg
        subst hg
        cases ha with
        | rptr hl ho' hg h' =>
          rw [ho] at ho'
          cases ho'
          obtain ⟨b, s, t', hb, rfl⟩ := h' rfl
          rcases hI.obj id _ ho with ⟨_, h1⟩ | ⟨b', s', t'', c, e, h1, h2, h3, h4, h5⟩
          · rw [hb] at h1; cases h1
          · rw [hb] at h1
            cases h1
            rw [partP_eq] at h
            exact load_run hd (cs := fun i => c.getD (s + i) undef) (fun i hi => cell_in h2 (by simp at hi; omega)) (fun i hi => by simpa using RA.p (h5 i (by simpa using hi))) h
      · cases h
    · cases h
  · cases h

theorem splice_length {α : Type} : ∀ (ys xs : List α) (off : Nat), (splice xs off ys).length = xs.length := by
  intro ys
  induction ys with
  | nil => intro xs off; rfl
  | cons y ys ih => intro xs off; simp [splice, ih]

theorem splice_get {α : Type} : ∀ (ys xs : List α) (off i : Nat), off + ys.length ≤ xs.length → (splice xs off ys)[i]? = if off ≤ i ∧ i < off + ys.length then ys[i - off]? else xs[i]? := by
  intro ys
  induction ys with
  | nil => intro xs off i h; rw [if_neg (by simp)]; rfl
  | cons y ys ih =>
    intro xs off i h
    simp only [List.length_cons] at h ⊢
    rw [splice, ih _ _ _ (by simp; omega)]
    by_cases e : i = off
    · subst e
      rw [if_neg (by omega), if_pos (by omega), Nat.sub_self]
      simp [show i < xs.length by omega]
    · by_cases e2 : off ≤ i ∧ i < off + (ys.length + 1)
      · rw [if_pos (by omega), if_pos e2]
        obtain ⟨k, hk⟩ : ∃ k, i - off = k + 1 := ⟨i - off - 1, by omega⟩
        rw [hk, show i - (off + 1) = k by omega]
        rfl
      · rw [if_neg (by omega), if_neg e2, List.getElem?_set_ne (Ne.symm e)]

theorem Touch.own {w' : World} {b s t id : Nat} (hb : β id = some (b, s, t)) (h : Touch w w' (fun k => k = b)) : Touch w w' (fun k => ∃ s t, β id = some (k, s, t)) := h.mono fun k e => ⟨s, t, by rw [e]; exact hb⟩

theorem fz_later {w' : World} {b : Nat} (hI : Inv H β F w) {id s t : Nat} (hb : β id = some (b, s, t)) (hT : Touch w w' (fun k => k = b)) : ∀ b' j, F b' j → ∃ v, w'.cell? ⟨b', j, none⟩ = some v := by
  intro b' j hj
  obtain ⟨v, hv⟩ := hI.fz b' j hj
  exact ⟨v, (World.cell?_of_block (w := w) (hT.block b' (hI.lt hj) fun e => hI.own _ _ _ _ _ (e ▸ hb) hj)).trans hv⟩

theorem RowA.leafy {cs : Array Value} {xs : List AV} (h : RowA H β F w cs xs) (hl : xs.all AV.leaf = true) : ∀ v ∈ cs.toList, leafyV v = true := by
  intro v hv
  obtain ⟨i, hi, rfl⟩ := List.getElem_of_mem hv
  have hi' : i < cs.size := by simpa using hi
  have h2 := h.2 i (by rw [← h.1]; exact hi')
  have h3 := (List.all_eq_true.mp hl) _ (List.getElem_mem (by rw [← h.1]; exact hi' : i < xs.length))
  have := h2.leafy h3
  simpa [Array.getD, hi'] using this

/-- A variable in memory is written. -/
theorem stA_box_sound (hI : Inv H β F w) {t : TypeId} {d : TypeDesc} (hd : P.underlying t = some d) {lo : List Nat} {id off : Nat} {Y : AV} {H' : Heap} {va vy : Value}
    (h : stA (P.cellsOf t) (.ptr id off) Y lo H = some H') (ha : RA H β F w va (.ptr id off)) (hy : RA H β F w vy Y) :
    ∃ w' β' F', (Instr.storeAt t va vy).run P w = .ok () w' ∧ Inv H' β' F' w' ∧ Ext H β F w H' β' F' w' := by
  unfold stA at h
  simp only at h
  split at h
  · rename_i xs ho
    split at h
    · rename_i hc
      obtain ⟨h1, h2, hpos, h3, h4⟩ := hc
      cases h
      cases ha with
      | ptr _ ho' hb =>
        rw [ho] at ho'
        cases ho'
        obtain ⟨b, s, t', hbb, rfl⟩ := hb hpos
        clear hb
        have hb := hbb
        rcases hI.obj id _ ho with ⟨k1, _⟩ | ⟨b', c, e, k1, k2, k3, k4⟩
        · rw [k1] at hpos; exact absurd hpos (by simp)
        rw [hb] at k1
        cases k1
        have hrow := hy.cells h3
        have hlen : vy.cells.size = P.cellsOf t := by rw [hrow.1]; exact h1
        obtain ⟨w', c', r1, r2, r3, r4, r5⟩ := storeCells_run (P := P) (o := 0 + off) vy.cells.toList 0 w c k2 (hrow.leafy h3) (by simp; omega)
        have hT := r4.own (β := β) hb
        obtain ⟨i1, i2⟩ := Inv.update (w' := w') (F' := F) (o' := .box (splice xs off Y.cells)) (nb := β id) hI ho hT (fun b2 s2 t2 e2 => ⟨.inr ⟨s2, t2, e2⟩, fun j => hI.own _ _ _ _ _ e2⟩)
          (fun _ => ⟨splice_length _ _ _, by rw [updB_same]⟩) (fun _ _ h => h) (fun _ _ h => .inl h) (fz_later hI hb r4) (fun hE => by
            refine .inr ⟨b, c', e, by rw [updB_same, hb, splice_length], r2, by rw [r3, splice_length]; exact k3, fun i hi => ?_⟩
            rw [splice_length] at hi
            have hg := splice_get Y.cells xs off i (by omega)
            rw [List.getElem?_eq_getElem (by rw [splice_length]; exact hi)] at hg
            rw [r5 i]
            by_cases hin : off ≤ i ∧ i < off + Y.cells.length
            · rw [if_pos hin] at hg
              rw [if_pos (by simp only [Array.length_toList]; omega)]
              have hk : i - off < Y.cells.length := by omega
              rw [List.getElem?_eq_getElem hk] at hg
              simp only [Option.some.injEq] at hg
              rw [hg]
              refine ⟨?_, List.all_eq_true.mp h3 _ (List.getElem_mem hk)⟩
              have := (hrow.2 _ hk).ext hI hE
              have e1 : i - (0 + off + 0) = i - off := by omega
              rw [e1]
              simpa [Array.getD, List.getD, hlen, h1 ▸ hk] using this
            · rw [if_neg hin] at hg
              rw [if_neg (by simp only [Array.length_toList]; omega)]
              rw [List.getElem?_eq_getElem hi] at hg
              simp only [Option.some.injEq] at hg
              rw [hg]
              exact ⟨((k4 i hi).1).ext hI hE, (k4 i hi).2⟩)
        refine ⟨w', _, F, ?_, i1, i2⟩
        simp only [Instr.storeAt, Instr.sureAddr, storeVar, Sem.run_bind, Sem.run_pure, Result.andThen_ok, run_sizeOf hd, hlen, ne_eq, not_true_eq_false, if_false]
        exact r1
    · cases h
  · cases h

end
end Go.AM

namespace Go.AM
variable [Know]
section
variable {P : Program} {H : Heap} {β : Beta} {F : Frz} {w : World}

/-- A row is given away: nobody writes it any more. -/
theorem toPV_sound (hI : Inv H β F w) {y : AV} {v : Value} {x : PV} {H' : Heap} (h : toPV H y = some (x, H')) (hy : RA H β F w v y) :
    ∃ β' F', RP F' w v x ∧ Inv H' β' F' w ∧ Ext H β F w H' β' F' w := by
  unfold toPV at h
  split at h
  · cases h
    cases hy with
    | p hy => exact ⟨β, F, hy, hI, Ext.refl _ _ _ _⟩
  · rename_i id g off n
    split at h
    · rename_i g' sz xs ho
      split at h
      · rename_i hc
        obtain ⟨rfl, hle⟩ := hc
        cases h
        cases hy with
        | row hl ho' hg hr =>
          rw [ho] at ho'
          cases ho'
          have hr' := hr rfl
          unfold RowAt at hr'
          split at hr'
          · rename_i hb
            obtain ⟨rfl, rfl, h3, a, rfl, hsp⟩ := hr'
            obtain ⟨i1, i2⟩ := Inv.update (w' := w) (F' := F) (o' := .row (g' + 1) sz []) (nb := none) hI ho (Touch.refl _ _) (fun _ _ _ e => by cases e)
              ⟨rfl, by omega, fun e => by omega⟩ (fun _ _ h => h) (fun _ _ h => .inl h) hI.fz (fun _ => .inl ⟨rfl, updB_same _ _ _⟩)
            refine ⟨_, F, ?_, i1, i2⟩
            simp only [Nat.zero_mul, List.take_zero]
            cases a with
            | none => exact .nil (by simp)
            | some A =>
              exact .emp (by simp)
          · rename_i b s t hb
            obtain ⟨A, cap, rfl, hA, h5, h6, h7⟩ := hr'
            rcases hI.obj id _ ho with ⟨_, k1⟩ | ⟨b', s', t'', c, e, k1, k2, k3, k4, k5⟩
            · rw [hb] at k1; cases k1
            · rw [hb] at k1
              cases k1
              have hfz : ∀ b' j, (F b' j ∨ (b' = b ∧ s ≤ j ∧ j < s + xs.length)) → ∃ v, w.cell? ⟨b', j, none⟩ = some v := by
                intro b' j hj
                rcases hj with hj | ⟨rfl, h8, h9⟩
                · exact hI.fz _ _ hj
                · exact ⟨_, cell_in k2 (by omega)⟩
              obtain ⟨i1, i2⟩ := Inv.update (w' := w) (F' := fun b' j => F b' j ∨ (b' = b ∧ s ≤ j ∧ j < s + xs.length)) (o' := .row (g' + 1) sz []) (nb := none) hI ho (Touch.refl _ _) (fun _ _ _ e => by cases e)
                ⟨rfl, by omega, fun e => by omega⟩ (fun _ _ h => .inl h) (fun b' j h => h.imp (fun x => x) fun ⟨e, _⟩ => .inr ⟨s, t, by rw [e]; exact hb⟩) hfz (fun _ => .inl ⟨rfl, updB_same _ _ _⟩)
              refine ⟨_, _, ?_, i1, i2⟩
              rcases hA with rfl | ⟨rfl, rfl, hsp⟩
              · refine .sl (fun i => c.getD (s + off + i) undef) (by simp) h5 (by simp) (fun i hi => ?_) (fun i hi => ?_)
                · have hi' : i < n * sz := by simp at hi; omega
                  exact ⟨.inr ⟨rfl, by omega, by omega⟩, cell_in k2 (by omega)⟩
                · have hi' : i < n * sz := by simp at hi; omega
                  simp only [List.getElem_take, List.getElem_drop]
                  have := (k5 (off + i) (by omega)).ext hI i2
                  rwa [← Nat.add_assoc] at this
              · simp only [Nat.zero_mul, List.take_zero]
                exact .emp (by simp)
      · cases h
    · cases h
  · cases h

/-- Pure values one by one. -/
inductive RPs (F : Frz) (w : World) : List Value → List PV → Prop
  | nil : RPs F w [] []
  | cons {v : Value} {x : PV} {vs : List Value} {xs : List PV} (h : RP F w v x) (h' : RPs F w vs xs) : RPs F w (v :: vs) (x :: xs)

theorem RPs.get {vs : List Value} {xs : List PV} (h : RPs F w vs xs) : vs.length = xs.length ∧ ∀ i (hi : i < xs.length), RP F w (vs.getD i undef) xs[i] := by
  induction h with
  | nil => exact ⟨rfl, fun i hi => by simp at hi⟩
  | cons h _ ih =>
    refine ⟨by simp [ih.1], fun i hi => ?_⟩
    cases i with
    | zero => simpa using h
    | succ i => simpa using ih.2 i (by simpa using hi)

theorem RPs.mono {F' : Frz} {w' : World} {vs : List Value} {xs : List PV} (h : RPs F w vs xs) (hm : ∀ v x, RP F w v x → RP F' w' v x) : RPs F' w' vs xs := by
  induction h with
  | nil => exact .nil
  | cons h _ ih => exact .cons (hm _ _ h) ih

theorem RAs.mono {H' : Heap} {β' : Beta} {F' : Frz} {w' : World} {vs : List Value} {xs : List AV} (h : RAs H β F w vs xs) (hm : ∀ v x, RA H β F w v x → RA H' β' F' w' v x) : RAs H' β' F' w' vs xs := by
  induction h with
  | nil => exact .nil
  | cons h _ ih => exact .cons (hm _ _ h) ih

theorem toPVs_sound : ∀ (ys : List AV) (H : Heap) (β : Beta) (F : Frz) (vs : List Value) (xs : List PV) (H' : Heap), Inv H β F w → toPVs H ys = some (xs, H') → RAs H β F w vs ys →
    ∃ β' F', RPs F' w vs xs ∧ Inv H' β' F' w ∧ Ext H β F w H' β' F' w := by
  intro ys
  induction ys with
  | nil =>
    intro H β F vs xs H' hI h hv
    cases h
    cases hv
    exact ⟨β, F, .nil, hI, Ext.refl _ _ _ _⟩
  | cons y ys ih =>
    intro H β F vs xs H' hI h hv
    cases hv with
    | cons hy hv =>
      simp only [toPVs, Option.bind_eq_some_iff] at h
      obtain ⟨⟨x, H1⟩, h1, h⟩ := h
      rw [Option.map_eq_some_iff] at h
      obtain ⟨⟨zs, H2⟩, h2, h⟩ := h
      cases h
      obtain ⟨β1, F1, r1, i1, e1⟩ := toPV_sound hI h1 hy
      obtain ⟨β2, F2, r2, i2, e2⟩ := ih H1 β1 F1 _ _ _ i1 h2 (hv.mono fun v x h => h.ext hI e1)
      exact ⟨β2, F2, .cons (r1.ext i1 e2) r2, i2, e1.trans e2⟩

theorem RowA.list {cs : Array Value} {xs : List AV} (h : RowA H β F w cs xs) : RAs H β F w cs.toList xs := by
  obtain ⟨l⟩ := cs
  obtain ⟨h1, h2⟩ := h
  simp at h1
  induction xs generalizing l with
  | nil =>
    have : l = [] := List.length_eq_zero_iff.mp h1
    subst this
    exact .nil
  | cons x xs ih =>
    cases l with
    | nil => simp at h1
    | cons v l =>
      refine .cons ?_ (ih l ?_ ?_)
      · have := h2 0 (by simp)
        simpa [Array.getD] using this
      · intro i hi
        have := h2 (i + 1) (by simpa using hi)
        simpa [Array.getD] using this
      · simpa using h1

/-- A cell of a row of the call's own is written. -/
theorem stA_row_sound (hI : Inv H β F w) {t : TypeId} {d : TypeDesc} (hd : P.underlying t = some d) {lo : List Nat} {id g off : Nat} {Y : AV} {H' : Heap} {va vy : Value}
    (h : stA (P.cellsOf t) (.rptr id g off) Y lo H = some H') (ha : RA H β F w va (.rptr id g off)) (hy : RA H β F w vy Y) :
    ∃ w' β' F', (Instr.storeAt t va vy).run P w = .ok () w' ∧ Inv H' β' F' w' ∧ Ext H β F w H' β' F' w' := by
  unfold stA at h
  simp only at h
  split at h
  · rename_i g' sz xs ho
    split at h
    · rename_i hc
      obtain ⟨rfl, h1, h2⟩ := hc
      rw [Option.bind_eq_some_iff] at h
      obtain ⟨⟨ps, H1⟩, hp, h⟩ := h
      simp only at h
      split at h
      · rename_i g2 sz2 ys ho1
        split at h
        · rename_i hc2
          obtain ⟨rfl, hlen⟩ := hc2
          cases h
          have hleaf : Y.cells.all AV.leaf = true := by
            refine List.all_eq_true.mpr fun z hz => ?_
            have : ∀ (l : List AV) (H : Heap) r, toPVs H l = some r → ∀ z ∈ l, z.leaf = true := by
              intro l
              induction l with
              | nil => intro H r _ z hz; cases hz
              | cons y l ih =>
                intro H r hr z hz
                simp only [toPVs, Option.bind_eq_some_iff] at hr
                obtain ⟨r1, hr1, hr⟩ := hr
                rw [Option.map_eq_some_iff] at hr
                obtain ⟨r2, hr2, _⟩ := hr
                cases hz with
                | head => unfold toPV at hr1; split at hr1 <;> first | rfl | cases hr1
                | tail _ hz => exact ih _ _ hr2 z hz
            exact this _ _ _ hp z hz
          have hrow := hy.cells hleaf
          have hsz : vy.cells.size = P.cellsOf t := by rw [hrow.1]; exact h1
          obtain ⟨β1, F1, q1, i1, e1⟩ := toPVs_sound Y.cells H β F vy.cells.toList ps H1 hI hp hrow.list
          obtain ⟨q2, q3⟩ := q1.get
          have ha1 := ha.ext hI e1
          cases ha1 with
          | rptr hl ho' hg h' =>
            rw [ho1] at ho'
            cases ho'
            obtain ⟨b, s, t', hb, rfl⟩ := h' rfl
            rcases i1.obj id _ ho1 with ⟨_, k1⟩ | ⟨b', s', t'', c, e, k1, k2, k3, k4, k5⟩
            · rw [hb] at k1; cases k1
            · rw [hb] at k1
              cases k1
              have hps : ps.length = P.cellsOf t := by simp at q2; omega
              obtain ⟨w', c', r1, r2, r3, r4, r5⟩ := storeCells_run (P := P) (o := s + off) vy.cells.toList 0 w c k2 (hrow.leafy hleaf) (by simp; omega)
              have hT := r4.own (β := β1) hb
              obtain ⟨j1, j2⟩ := Inv.update (w' := w') (F' := F1) (o' := .row g2 sz (splice ys off ps)) (nb := β1 id) i1 ho1 hT (fun b2 s2 t2 e2 => ⟨.inr ⟨s2, t2, e2⟩, fun j => i1.own _ _ _ _ _ e2⟩)
                (by
                  obtain ⟨o', ho', k⟩ := e1.grow id _ ho
                  rw [ho1] at ho'
                  cases ho'
                  exact ⟨k.1.symm, Nat.le_refl _, fun _ => ⟨splice_length _ _ _, updB_same _ _ _⟩⟩) (fun _ _ h => h) (fun _ _ h => .inl h) (fz_later i1 hb r4) (fun hE => by
                  refine .inr ⟨b, s, t', c', e, by rw [updB_same, hb], r2, by rw [r3]; exact k3, by rw [splice_length]; exact k4, fun i hi => ?_⟩
                  rw [splice_length] at hi
                  have hg := splice_get ps ys off i (by omega)
                  rw [List.getElem?_eq_getElem (by rw [splice_length]; exact hi)] at hg
                  rw [r5 (s + i)]
                  by_cases hin : off ≤ i ∧ i < off + ps.length
                  · rw [if_pos hin] at hg
                    rw [if_pos (by simp only [Array.length_toList]; omega)]
                    have hk : i - off < ps.length := by omega
                    rw [List.getElem?_eq_getElem hk] at hg
                    simp only [Option.some.injEq] at hg
                    rw [hg]
                    have := (q3 _ hk).ext i1 hE
                    have e1 : s + i - (s + off + 0) = i - off := by omega
                    rw [e1]
                    exact this
                  · rw [if_neg hin] at hg
                    rw [if_neg (by simp only [Array.length_toList]; omega)]
                    rw [List.getElem?_eq_getElem hi] at hg
                    simp only [Option.some.injEq] at hg
                    rw [hg]
                    exact (k5 i hi).ext i1 hE)
              refine ⟨w', _, F1, ?_, j1, e1.trans j2⟩
              simp only [Instr.storeAt, Instr.sureAddr, storeVar, Sem.run_bind, Sem.run_pure, Result.andThen_ok, run_sizeOf hd, hsz, ne_eq, not_true_eq_false, if_false]
              exact r1
        · cases h
      · cases h
    · cases h
  · cases h

end
end Go.AM
