import Derived.Test.YtfdnamedmjhcfaaDoorAm9
/-! Rows laid at places kept. -/
set_option linter.unusedVariables false
set_option linter.unusedSectionVars false
set_option autoImplicit false
namespace Go.AM
open Go
section
variable [Know] {P : Program} {H H' : Heap} {β β' : Beta} {F F' : Frz} {w w' : World}

/-- Is the place as it was, or was it kept, and a row of a new block lies there now? -/
def Laid (H : Heap) (β : Beta) (w : World) (H' : Heap) (β' : Beta) (F' : Frz) (w' : World) (i : Nat) : Prop :=
  (H'[i]? = H[i]? ∧ β' i = β i) ∨
    (H[i]? = some .hole ∧ (∃ g sz xs, H'[i]? = some (.row g sz xs) ∧ ObjOk H' β' F' w' i (.row g sz xs)) ∧ ∀ b s t, β' i = some (b, s, t) → w.heap.size ≤ b ∧ ∀ j, ¬ F' b j)

theorem Inv.lay (hI : Inv H β F w) (hT : Touch w w' (fun _ => False)) (hl : H'.length = H.length) (hL : ∀ i, Laid H β w H' β' F' w' i)
    (hinj : ∀ i j b s t s' t', i ≠ j → β' i = some (b, s, t) → β' j = some (b, s', t') → w.heap.size ≤ b → False)
    (hF : ∀ b j, F b j → F' b j) (hF' : ∀ b j, F' b j → F b j ∨ w.heap.size ≤ b) (hfz : ∀ b j, F' b j → ∃ v, w'.cell? ⟨b, j, none⟩ = some v) :
    Inv H' β' F' w' ∧ Ext H β F w H' β' F' w' := by
  have hole : ∀ i, H[i]? = some .hole → β i = none := fun i e => hI.obj i _ e
  have hgrow : Grow H β H' β' := by
    intro i x hx
    rcases hL i with ⟨h1, h2⟩ | ⟨h1, ⟨g, sz, xs, h2, _⟩, _⟩
    · refine ⟨x, h1.trans hx, ?_⟩
      cases x with
      | box xs => exact fun _ => ⟨rfl, h2⟩
      | row g sz xs => exact ⟨rfl, Nat.le_refl _, fun _ => ⟨rfl, h2⟩⟩
      | map es c => exact h2
      | iter m since seen last => exact ⟨rfl, h2⟩
      | hole => exact trivial
    · rw [h1] at hx
      cases hx
      exact ⟨_, h2, trivial⟩
  have old : ∀ i b s t, β' i = some (b, s, t) → b < w.heap.size → β i = some (b, s, t) := by
    intro i b s t e hb
    rcases hL i with ⟨_, h2⟩ | ⟨_, _, h3⟩
    · rw [← h2]; exact e
    · have := (h3 b s t e).1; omega
  have hE : Ext H β F w H' β' F' w' :=
    { os := hT.os, tape := hT.tape, output := hT.output, size := hT.size, drawn := hT.drawn
      block := fun b hb _ => hT.block b hb fun e => e
      fz := hF
      fn := fun b j h => (hF' b j h).imp id .inl
      own := fun i b s t e => by
        by_cases hb : w.heap.size ≤ b
        · exact .inl hb
        · exact .inr ⟨i, s, t, old i b s t e (by omega)⟩
      grow := hgrow }
  refine ⟨⟨fun i x hx => ?_, fun i j b s t s' t' hij hi hj => ?_, fun i hi => ?_, hfz, fun i b s t j hi hj => ?_, fun b j v e => ⟨hF _ _ (hI.kn b j v e).1, (Ext.cell hI hE (hI.kn b j v e).1).trans (hI.kn b j v e).2⟩⟩, hE⟩
  · rcases hL i with ⟨h1, h2⟩ | ⟨h1, ⟨g, sz, xs, h2, h4⟩, _⟩
    · exact (hI.obj i x (h1 ▸ hx)).mono hI hE h2 fun b s t hb => hT.block b (hI.block_lt hb) fun e => e
    · rw [h2] at hx; cases hx; exact h4
  · by_cases hb : w.heap.size ≤ b
    · exact hinj i j b s t s' t' hij hi hj hb
    · exact hI.inj _ _ _ _ _ _ _ hij (old i _ _ _ hi (by omega)) (old j _ _ _ hj (by omega))
  · rcases hL i with ⟨_, h2⟩ | ⟨h1, _, _⟩
    · rw [h2]; exact hI.dom i (by omega)
    · have := getElem?_lt h1; omega
  · rcases hL i with ⟨_, h2⟩ | ⟨_, _, h3⟩
    · rw [h2] at hi
      rcases hF' b j hj with h | h
      · exact hI.own _ _ _ _ _ hi h
      · have := hI.block_lt hi; omega
    · exact (h3 b s t hi).2 j hj
/-! ### A callee's rows are taken over -/
/-- What was taken so far out of H1. -/
structure Took (H1 : Heap) (ids : List Nat) (S : Heap × List AObj) : Prop where
  len : ids.length = S.2.length
  nd : ids.Nodup
  at_ : ∀ (j i : Nat), ids[j]? = some i → ∃ g sz xs, S.2[j]? = some (AObj.row g sz xs) ∧ H1[i]? = some (AObj.row g sz xs)
  rest : ∀ (i : Nat), i ∉ ids → S.1[i]? = H1[i]?
  gone : ∀ (i : Nat), i ∈ ids → S.1[i]? = some .hole

/-- Where it lies then. -/
def Fin1 (p : Nat) (β1 : Beta) (ids : List Nat) (os : List AObj) (H' : Heap) (β' : Beta) : Prop :=
  ∀ (j i : Nat) (o : AObj), ids[j]? = some i → os[j]? = some o → H'[p + j]? = some o ∧ β' (p + j) = β1 i

omit [Know] in
theorem Fin1.less {p : Nat} {β1 : Beta} {ids ids2 : List Nat} {os os2 : List AObj} {H' : Heap} {β' : Beta} (h : Fin1 p β1 (ids ++ ids2) (os ++ os2) H' β') (hl : ids.length = os.length) : Fin1 p β1 ids os H' β' := by
  intro j i o hi ho
  exact h j i o (by rw [List.getElem?_append_left (getElem?_lt hi)]; exact hi) (by rw [List.getElem?_append_left (getElem?_lt ho)]; exact ho)

theorem thawLeaf_sound {H1 : Heap} {β1 : Beta} {p : Nat} {ids : List Nat} {S S' : Heap × List AObj} {x y : AV} {v : Value} (hS : Took H1 ids S) (h : thawLeaf p S x = some (y, S')) (hx : RA H1 β1 F w v x) :
    ∃ ids2 os2, Took H1 (ids ++ ids2) S' ∧ S'.2 = S.2 ++ os2 ∧ ∀ H' β', Fin1 p β1 (ids ++ ids2) S'.2 H' β' → RA H' β' F w v y := by
  unfold thawLeaf at h
  split at h
  · rename_i id g off n
    split at h
    · rename_i g' sz xs ho
      cases h
      have hn : id ∉ ids := fun hm => by rw [hS.gone id hm] at ho; cases ho
      have ho1 : H1[id]? = some (.row g' sz xs) := (hS.rest id hn).symm.trans ho
      refine ⟨[id], [.row g' sz xs], ⟨by simp [hS.len], ?_, ?_, ?_, ?_⟩, rfl, ?_⟩
      · rw [List.nodup_append]
        exact ⟨hS.nd, by simp, fun a ha b hb => by simp at hb; subst hb; exact fun e => hn (e ▸ ha)⟩
      · intro j i hj
        by_cases hlt : j < ids.length
        · rw [List.getElem?_append_left hlt] at hj
          obtain ⟨a, b, c, k1, k2⟩ := hS.at_ j i hj
          exact ⟨a, b, c, by rw [List.getElem?_append_left (getElem?_lt k1)]; exact k1, k2⟩
        · have := getElem?_lt hj
          have hj2 : j = ids.length := by simp at this; omega
          subst hj2
          simp at hj
          subst hj
          exact ⟨_, _, _, by rw [hS.len]; simp, ho1⟩
      · intro i hi
        simp at hi
        rw [List.getElem?_set_ne (fun e => hi.2 e.symm)]
        exact hS.rest i hi.1
      · intro i hi
        rcases List.mem_append.1 hi with hi | hi
        · have : id ≠ i := fun e => hn (e ▸ hi)
          rw [List.getElem?_set_ne this]
          exact hS.gone i hi
        · simp at hi
          subst hi
          exact List.getElem?_set_self (getElem?_lt ho)
      · intro H' β' hf
        obtain ⟨f1, f2⟩ := hf S.2.length id (.row g' sz xs) (by rw [← hS.len]; simp) (by simp)
        cases hx with
        | row hl ho' hg hr =>
          rw [ho1] at ho'
          cases ho'
          refine .row hl f1 hg fun e => ?_
          have := hr e
          unfold RowAt at this ⊢
          rw [f2]
          exact this
    · cases h
  · split at h
    · rename_i hp
      cases h
      exact ⟨[], [], by simpa using hS, by simp, fun H' β' _ => hx.pure (lt_sound 0 6 _ hp)⟩
    · cases h
theorem thawLeaves_sound {H1 : Heap} {β1 : Beta} {p : Nat} : ∀ (xs ys : List AV) (vs : List Value) (ids : List Nat) (S S' : Heap × List AObj), Took H1 ids S → thawLeaves p S xs = some (ys, S') → RAs H1 β1 F w vs xs →
    ∃ ids2 os2, Took H1 (ids ++ ids2) S' ∧ S'.2 = S.2 ++ os2 ∧ ∀ H' β', Fin1 p β1 (ids ++ ids2) S'.2 H' β' → RAs H' β' F w vs ys := by
  intro xs
  induction xs with
  | nil => intro ys vs ids S S' hS h hv; cases h; cases hv; exact ⟨[], [], by simpa using hS, by simp, fun _ _ _ => .nil⟩
  | cons x xs ih =>
    intro ys vs ids S S' hS h hv
    cases hv with
    | cons hx hv =>
      simp only [thawLeaves, Option.bind_eq_some_iff] at h
      obtain ⟨⟨y, S1⟩, h1, h⟩ := h
      rw [Option.map_eq_some_iff] at h
      obtain ⟨⟨zs, S2⟩, h2, h⟩ := h
      cases h
      obtain ⟨i1, o1, t1, e1, k1⟩ := thawLeaf_sound hS h1 hx
      obtain ⟨i2, o2, t2, e2, k2⟩ := ih _ _ _ _ _ t1 h2 hv
      refine ⟨i1 ++ i2, o1 ++ o2, by rw [← List.append_assoc]; exact t2, by rw [e2, e1, List.append_assoc], fun H' β' hf => ?_⟩
      rw [← List.append_assoc] at hf
      refine .cons (k1 H' β' ?_) (k2 H' β' hf)
      simp only [e2] at hf
      exact hf.less t1.len
theorem thawA_sound {H1 : Heap} {β1 : Beta} {p : Nat} {ids : List Nat} {S S' : Heap × List AObj} {x y : AV} {v : Value} (hS : Took H1 ids S) (h : thawA p S x = some (y, S')) (hx : RA H1 β1 F w v x) :
    ∃ ids2 os2, Took H1 (ids ++ ids2) S' ∧ S'.2 = S.2 ++ os2 ∧ ∀ H' β', Fin1 p β1 (ids ++ ids2) S'.2 H' β' → RA H' β' F w v y := by
  unfold thawA at h
  split at h
  · rw [Option.map_eq_some_iff] at h
    obtain ⟨⟨z, S1⟩, h1, h⟩ := h
    cases h
    cases hx with
    | @agg cs _ k1 k2 =>
      obtain ⟨i2, o2, t2, e2, k⟩ := thawLeaves_sound _ _ _ _ _ _ hS h1 (RowA.list ⟨k1, k2⟩)
      exact ⟨i2, o2, t2, e2, fun H' β' hf => (k H' β' hf).row.agg⟩
  · exact thawLeaf_sound hS h hx
theorem thawAll_sound {H1 : Heap} {β1 : Beta} {p : Nat} : ∀ (xs ys : List AV) (vs : List Value) (ids : List Nat) (S S' : Heap × List AObj), Took H1 ids S → thawAll p S xs = some (ys, S') → RAs H1 β1 F w vs xs →
    ∃ ids2 os2, Took H1 (ids ++ ids2) S' ∧ S'.2 = S.2 ++ os2 ∧ ∀ H' β', Fin1 p β1 (ids ++ ids2) S'.2 H' β' → RAs H' β' F w vs ys := by
  intro xs
  induction xs with
  | nil => intro ys vs ids S S' hS h hv; cases h; cases hv; exact ⟨[], [], by simpa using hS, by simp, fun _ _ _ => .nil⟩
  | cons x xs ih =>
    intro ys vs ids S S' hS h hv
    cases hv with
    | cons hx hv =>
      simp only [thawAll, Option.bind_eq_some_iff] at h
      obtain ⟨⟨y, S1⟩, h1, h⟩ := h
      rw [Option.map_eq_some_iff] at h
      obtain ⟨⟨zs, S2⟩, h2, h⟩ := h
      cases h
      obtain ⟨i1, o1, t1, e1, k1⟩ := thawA_sound hS h1 hx
      obtain ⟨i2, o2, t2, e2, k2⟩ := ih _ _ _ _ _ t1 h2 hv
      refine ⟨i1 ++ i2, o1 ++ o2, by rw [← List.append_assoc]; exact t2, by rw [e2, e1, List.append_assoc], fun H' β' hf => ?_⟩
      rw [← List.append_assoc] at hf
      refine .cons (k1 H' β' ?_) (k2 H' β' hf)
      simp only [e2] at hf
      exact hf.less t1.len

omit [Know] in
theorem layAll_spec : ∀ (os : List AObj) (p : Nat) (H H' : Heap), layAll p os H = some H' → H'.length = H.length ∧ (∀ (i : Nat), i < p ∨ p + os.length ≤ i → H'[i]? = H[i]?) ∧ ∀ (j : Nat), j < os.length → H[p + j]? = some .hole ∧ H'[p + j]? = os[j]? := by
  intro os
  induction os with
  | nil => intro p H H' h; cases h; exact ⟨rfl, fun _ _ => rfl, fun j hj => by simp at hj⟩
  | cons o os ih =>
    intro p H H' h
    simp only [layAll] at h
    split at h
    · rename_i ho
      obtain ⟨k1, k2, k3⟩ := ih _ _ _ h
      refine ⟨by rw [k1]; simp, fun i hi => ?_, fun j hj => ?_⟩
      · simp only [List.length_cons] at hi
        rw [k2 i (by omega), List.getElem?_set_ne (by omega)]
      · cases j with
        | zero =>
          refine ⟨ho, ?_⟩
          rw [k2 (p + 0) (by omega)]
          simp only [Nat.add_zero, List.getElem?_cons_zero]
          exact List.getElem?_set_self (getElem?_lt ho)
        | succ j =>
          simp only [List.length_cons] at hj
          obtain ⟨a, b⟩ := k3 j (by omega)
          rw [show p + (j + 1) = p + 1 + j by omega]
          refine ⟨?_, b⟩
          rw [List.getElem?_set_ne (by omega)] at a
          exact a
    · cases h

theorem layAll_low {lo : List Nat} : ∀ (os : List AObj) (p : Nat) (H H' : Heap), (∀ o ∈ os, ∃ g sz xs, o = AObj.row g sz xs) → LowAll lo H → layAll p os H = some H' → LowAll lo H' := by
  intro os
  induction os with
  | nil => intro p H H' _ h e; cases e; exact h
  | cons o os ih =>
    intro p H H' hr h e
    simp only [layAll] at e
    split at e
    · obtain ⟨g, sz, xs, rfl⟩ := hr o (by simp)
      exact ih _ _ _ (fun o ho => hr o (by simp [ho])) h.set_row e
    · cases e

/-- The rows alone. -/
def rowsIn (S : Heap × List AObj) : Prop := ∀ o ∈ S.2, ∃ g sz xs, o = AObj.row g sz xs
theorem thawLeaf_rows {p : Nat} {S S' : Heap × List AObj} {x y : AV} (hS : rowsIn S) (h : thawLeaf p S x = some (y, S')) : rowsIn S' := by
  unfold thawLeaf at h
  split at h
  · split at h
    · cases h
      intro o ho
      rcases List.mem_append.1 ho with ho | ho
      · exact hS o ho
      · simp at ho; subst ho; exact ⟨_, _, _, rfl⟩
    · cases h
  · split at h
    · cases h; exact hS
    · cases h
theorem thawLeaves_rows {p : Nat} : ∀ (xs ys : List AV) (S S' : Heap × List AObj), rowsIn S → thawLeaves p S xs = some (ys, S') → rowsIn S' := by
  intro xs
  induction xs with
  | nil => intro ys S S' hS h; cases h; exact hS
  | cons x xs ih =>
    intro ys S S' hS h
    simp only [thawLeaves, Option.bind_eq_some_iff] at h
    obtain ⟨⟨y, S1⟩, h1, h⟩ := h
    rw [Option.map_eq_some_iff] at h
    obtain ⟨⟨zs, S2⟩, h2, h⟩ := h
    cases h
    exact ih _ _ _ (thawLeaf_rows hS h1) h2
theorem thawA_rows {p : Nat} {S S' : Heap × List AObj} {x y : AV} (hS : rowsIn S) (h : thawA p S x = some (y, S')) : rowsIn S' := by
  unfold thawA at h
  split at h
  · rw [Option.map_eq_some_iff] at h
    obtain ⟨⟨z, S1⟩, h1, h⟩ := h
    cases h
    exact thawLeaves_rows _ _ _ _ hS h1
  · exact thawLeaf_rows hS h
theorem thawAll_rows {p : Nat} : ∀ (xs ys : List AV) (S S' : Heap × List AObj), rowsIn S → thawAll p S xs = some (ys, S') → rowsIn S' := by
  intro xs
  induction xs with
  | nil => intro ys S S' hS h; cases h; exact hS
  | cons x xs ih =>
    intro ys S S' hS h
    simp only [thawAll, Option.bind_eq_some_iff] at h
    obtain ⟨⟨y, S1⟩, h1, h⟩ := h
    rw [Option.map_eq_some_iff] at h
    obtain ⟨⟨zs, S2⟩, h2, h⟩ := h
    cases h
    exact ih _ _ _ (thawA_rows hS h1) h2
theorem fillC_low {O : Oracle} {lo : List Nat} {m r k : Nat} {g : FuncId} {args : List AV} {C : AV} (hl : LowAll lo H) (h : fillC O m r k g args H = some (C, H')) : LowAll lo H' := by
  unfold fillC at h
  split at h
  case isFalse => cases h
  rw [Option.bind_eq_some_iff] at h
  obtain ⟨⟨rs, H1⟩, h1, h⟩ := h
  rw [Option.bind_eq_some_iff] at h
  obtain ⟨⟨ys, S'⟩, h2, h⟩ := h
  simp only at h h2
  split at h
  case isFalse => cases h
  rw [Option.map_eq_some_iff] at h
  obtain ⟨H2, h3, h⟩ := h
  cases h
  exact layAll_low _ _ _ _ (thawAll_rows _ _ _ _ (fun o ho => by simp at ho) h2) hl h3

theorem fillC_sound {O : Oracle} (hO : EntOk P O) (hI : Inv H β F w) {m r k : Nat} {g : FuncId} {args : List AV} {C : AV} {vs : Array Value} (h : fillC O m r k g args H = some (C, H')) (hv : RAs H β F w vs.toList args) :
    CallOk P g vs w (fun v w' => ∃ β' F', RA H' β' F' w' v C ∧ Inv H' β' F' w' ∧ Ext H β F w H' β' F' w') := by
  unfold fillC at h
  split at h
  case isFalse => cases h
  rename_i hp
  rw [Bool.and_eq_true, Bool.and_eq_true] at hp
  obtain ⟨⟨hp, _⟩, _⟩ := hp
  rw [Option.bind_eq_some_iff] at h
  obtain ⟨⟨rs, H1⟩, h1, h⟩ := h
  rw [Option.bind_eq_some_iff] at h
  obtain ⟨⟨ys, S'⟩, h2, h⟩ := h
  simp only at h h2
  split at h
  case isFalse => cases h
  rw [Option.map_eq_some_iff] at h
  obtain ⟨H2, h3, h⟩ := h
  cases h
  generalize H.length - m + r = p at h2 h3
  obtain ⟨l1, l2, l3⟩ := layAll_spec _ _ _ _ h3
  have r0 : RAs [] noB F w vs.toList args := by
    clear h1
    generalize vs.toList = l at hv
    induction hv with
    | nil => exact .nil
    | cons h _ ih =>
      rw [List.all_cons, Bool.and_eq_true] at hp
      exact .cons (h.pure (lt_sound 0 6 _ hp.1)) (ih hp.2)
  have hI0 : Inv [] noB F w := ⟨fun id o ho => by simp at ho, fun _ _ _ _ _ _ _ _ e _ => (by cases e), fun _ _ => rfl, hI.fz, fun _ _ _ _ _ e => (by cases e), hI.kn⟩
  obtain ⟨k2, k3⟩ := hO _ _ _ _ _ _ h1 vs w noB F hI0 r0 (fun l hl => by simp at hl)
  refine k2.mono fun v w' hr => ?_
  obtain ⟨β1, F1, q1, i1, e1⟩ := hr
  have hz : ∃ ids, Took H1 ids S' ∧ ∀ H' β', Fin1 p β1 ids S'.2 H' β' → RA H' β' F1 w' v (ret ys) := by
    have t0 : Took H1 [] (H1, []) := ⟨rfl, .nil, fun j i e => by simp at e, fun _ _ => rfl, fun i hi => by simp at hi⟩
    rcases ret_cases rs with ⟨x, rfl, e⟩ | e
    · rw [e] at q1
      obtain ⟨ids, os, t, _, k⟩ := thawAll_sound _ _ _ _ _ _ t0 h2 (RAs.cons q1 .nil)
      refine ⟨ids, t, fun H' β' hf => ?_⟩
      have := k H' β' hf
      cases this with
      | cons a b => cases b; exact a
    · rw [e] at q1
      cases q1 with
      | @tup cs _ t1 t2 =>
        obtain ⟨ids, os, t, _, k⟩ := thawAll_sound _ _ _ _ _ _ t0 h2 (RowA.list ⟨t1, t2⟩)
        refine ⟨ids, t, fun H' β' hf => ?_⟩
        have r2 := k H' β' hf
        have hl : ys.length = rs.length := by
          have a1 := r2.pick.1
          have a2 := (RowA.list ⟨t1, t2⟩).pick.1
          omega
        have hy : ret ys = .tup ys := by
          rcases ret_cases ys with ⟨y, rfl, _⟩ | e'
          · exfalso
            match rs, hl, e with
            | [x], _, e => cases e
          · exact e'
        rw [hy]
        exact .tup r2.row.1 r2.row.2
  obtain ⟨ids, t, hz⟩ := hz
  have hn := t.len
  let β' : Beta := fun i => if p ≤ i ∧ i < p + S'.2.length then (match ids[i - p]? with | some id => β1 id | none => none) else β i
  have b1 : ∀ (j id : Nat), ids[j]? = some id → β' (p + j) = β1 id := fun j id e => by
    have := getElem?_lt e
    show (if _ then _ else _) = _
    rw [if_pos ⟨by omega, by omega⟩, Nat.add_sub_cancel_left, e]
  have b2 : ∀ i, ¬ (p ≤ i ∧ i < p + S'.2.length) → β' i = β i := fun i e => if_neg e
  have hf : Fin1 p β1 ids S'.2 H' β' := fun j i o e1 e2 => ⟨(l3 j (getElem?_lt e2)).2.trans e2, b1 j i e1⟩
  have fresh : ∀ id b s t, β1 id = some (b, s, t) → w.heap.size ≤ b := fun id b s t e => by
    rcases e1.own id b s t e with h | ⟨_, _, _, h⟩
    · exact h
    · cases h
  have hin : ∀ i b s t, β' i = some (b, s, t) → w.heap.size ≤ b → ∃ j id, i = p + j ∧ ids[j]? = some id ∧ β1 id = some (b, s, t) := fun i b s t e hb => by
    by_cases hi : p ≤ i ∧ i < p + S'.2.length
    · have hj : i - p < ids.length := by omega
      refine ⟨i - p, ids[i - p], by omega, List.getElem?_eq_getElem hj, ?_⟩
      have := b1 (i - p) _ (List.getElem?_eq_getElem hj)
      rw [show p + (i - p) = i by omega] at this
      rw [← this]; exact e
    · rw [b2 i hi] at e
      have := hI.block_lt e; omega
  have hT : Touch w w' (fun _ => False) := ⟨e1.os, e1.tape, e1.output, e1.size, e1.drawn, fun k hk _ => e1.block k hk fun _ _ _ e => by cases e⟩
  obtain ⟨j1, j2⟩ := hI.lay (H' := H') (β' := β') (F' := F1) hT l1 (fun i => by
      by_cases hi : p ≤ i ∧ i < p + S'.2.length
      · right
        have hj : i - p < ids.length := by omega
        have e0 := List.getElem?_eq_getElem hj
        generalize ids[i - p] = id at e0
        obtain ⟨g', sz, xs, k1, k2⟩ := t.at_ _ _ e0
        obtain ⟨a1, a2⟩ := l3 (i - p) (by omega)
        have eb := b1 _ _ e0
        rw [show p + (i - p) = i by omega] at a1 a2 eb
        refine ⟨a1, ⟨g', sz, xs, a2.trans k1, ?_⟩, fun b s t e => ?_⟩
        · have := i1.obj id _ k2
          simp only [ObjOk] at this ⊢
          rw [eb]
          exact this
        · rw [eb] at e
          exact ⟨fresh _ _ _ _ e, fun j => i1.own _ _ _ _ _ e⟩
      · exact .inl ⟨l2 i (by omega), b2 i hi⟩) (fun i j b s t' s' t'' hij hi hj hb => by
      obtain ⟨x, a, rfl, x1, x2⟩ := hin i b s t' hi hb
      obtain ⟨y, c, rfl, y1, y2⟩ := hin j b s' t'' hj hb
      by_cases hac : a = c
      · subst hac
        have hx := getElem?_lt x1
        have hy := getElem?_lt y1
        have := (List.getElem?_inj hx t.nd).1 (x1.trans y1.symm)
        omega
      · exact i1.inj _ _ _ _ _ _ _ hac x2 y2) e1.fz (fun b j hj => by
      rcases e1.fn b j hj with h | h | ⟨_, _, _, h⟩
      · exact .inl h
      · exact .inr h
      · cases h) i1.fz
  exact ⟨β', F1, hz H' β' hf, j1, j2⟩
end
end Go.AM
