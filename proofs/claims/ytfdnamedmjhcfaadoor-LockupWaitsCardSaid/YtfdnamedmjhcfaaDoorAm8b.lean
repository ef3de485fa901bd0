/-
Maps.
-/
import Derived.Test.YtfdnamedmjhcfaaDoorAm8
import Derived.MapKept
set_option linter.unusedVariables false
set_option linter.unusedSimpArgs false
set_option linter.unnecessarySimpa false
set_option linter.unusedSectionVars false
namespace Go.AM
variable [Know]
section
variable {P : Program} {H : Heap} {β : Beta} {F : Frz} {w : World}

theorem mapOf_inv {t kt et : TypeId} (h : mapOf P t = some (kt, et)) : P.underlying t = some (.map kt et) := by
  unfold mapOf at h
  split at h
  · cases h; assumption
  · cases h

theorem zeroOf_run {t : TypeId} {Z : AV} (h : zeroOf P t = some Z) : ∃ z, (zeroValue t).run P w = .ok z w ∧ ∀ (H : Heap) (β : Beta) (F : Frz) (w : World), RA H β F w z Z := by
  unfold zeroOf at h
  split at h
  · rename_i i hi
    rw [Option.map_eq_some_iff] at h
    obtain ⟨z, hz, rfl⟩ := h
    exact ⟨z, run_zeroValue hi hz, fun _ _ _ _ => ofValue_sound z⟩
  · cases h

theorem str_beq (x y : ByteArray) : (x == y) = (x.toList == y.toList) := by
  rw [ByteArray.toList_eq, ByteArray.toList_eq]
  apply Bool.eq_iff_iff.mpr
  rw [MapKept.bytes_beq, beq_iff_eq]
  refine ⟨fun e => by rw [e], fun e => ?_⟩
  cases x; cases y
  simp only at e
  rw [Array.toList_inj.mp e]

theorem getD_list (cs : Array Value) (i : Nat) : cs.toList.getD i undef = cs.getD i undef := by
  by_cases h : i < cs.size <;> simp [Array.getD, List.getD, h]

/-! ### Keys -/
theorem sameLeaf_sound {x y : AV} {v u : Value} (h : sameLeaf x y = true) (hx : RA H β F w v x) (hy : RA H β F w u y) : v = u ∧ ∀ n, Instr.sameBits n v u = true := by
  unfold sameLeaf at h
  split at h
  · cases hx.v_inv.1
    cases hy.v_inv.1
    simp only [Bool.and_eq_true, decide_eq_true_eq, beq_iff_eq] at h
    obtain ⟨rfl, rfl⟩ := h
    exact ⟨rfl, fun n => by cases n <;> simp [Instr.sameBits]⟩
  · cases hx.v_inv.1
    cases hy.v_inv.1
    rw [← str_beq, MapKept.bytes_beq] at h
    subst h
    exact ⟨rfl, fun n => by cases n <;> simp [Instr.sameBits, MapKept.bytes_beq]⟩
  · cases hx.v_inv.1
    cases hy.v_inv.1
    simp only [beq_iff_eq] at h
    subst h
    exact ⟨rfl, fun n => by cases n <;> simp [Instr.sameBits]⟩
  · cases h

theorem sameLeaves_sound : ∀ (xs ys : List AV) (vs us : List Value), sameLeaves xs ys = true → vs.length = xs.length → us.length = ys.length → (∀ i (h : i < xs.length), RA H β F w (vs.getD i undef) xs[i]) → (∀ i (h : i < ys.length), RA H β F w (us.getD i undef) ys[i]) →
    vs = us ∧ ∀ n, ((vs.zip us).all fun (x, y) => Instr.sameBits n x y) = true := by
  intro xs
  induction xs with
  | nil =>
    intro ys vs us h h1 h2 _ _
    cases ys with
    | nil =>
      have : vs = [] := List.length_eq_zero_iff.mp h1
      have : us = [] := List.length_eq_zero_iff.mp h2
      subst_vars
      exact ⟨rfl, fun n => rfl⟩
    | cons => cases h
  | cons x xs ih =>
    intro ys vs us h h1 h2 k1 k2
    cases ys with
    | nil => cases h
    | cons y ys =>
      cases vs with
      | nil => cases h1
      | cons v vs =>
        cases us with
        | nil => cases h2
        | cons u us =>
          simp only [sameLeaves, Bool.and_eq_true] at h
          obtain ⟨rfl, e1⟩ := sameLeaf_sound h.1 (k1 0 (by simp)) (k2 0 (by simp))
          obtain ⟨rfl, e2⟩ := ih ys vs us h.2 (by simpa using h1) (by simpa using h2) (fun i hi => by have := k1 (i + 1) (by simpa using hi); simpa using this) (fun i hi => by have := k2 (i + 1) (by simpa using hi); simpa using this)
          refine ⟨rfl, fun n => ?_⟩
          simp only [List.zip_cons_cons, List.all_cons, Bool.and_eq_true]
          exact ⟨e1 n, e2 n⟩

theorem sameKey_sound {x y : AV} {v u : Value} (h : sameKey x y = true) (hx : RA H β F w v x) (hy : RA H β F w u y) : v = u ∧ ∀ n, Instr.sameBits (n + 1) v u = true := by
  unfold sameKey at h
  split at h
  · cases hx with
    | agg a1 a2 =>
      cases hy with
      | agg b1 b2 =>
        rename_i cs ds
        obtain ⟨e, k⟩ := sameLeaves_sound _ _ cs.toList ds.toList h (by simpa using a1) (by simpa using b1) (fun i hi => by rw [getD_list]; exact a2 i hi) (fun i hi => by rw [getD_list]; exact b2 i hi)
        have : cs = ds := Array.toList_inj.mp e
        subst this
        refine ⟨rfl, fun n => ?_⟩
        simp only [Instr.sameBits, Bool.and_eq_true, beq_self_eq_true, true_and]
        exact k n
  · obtain ⟨e, k⟩ := sameLeaf_sound h hx hy
    exact ⟨e, fun n => k (n + 1)⟩

theorem stays_run {v u : Value} (h : ∀ n, Instr.sameBits (n + 1) v u = true) : (Instr.keyThatStays v u).run P w = .ok u w := by
  simp [Instr.keyThatStays, h 9999]

/-- An entry. -/
def ERel (H : Heap) (β : Beta) (F : Frz) (w : World) (e : MapEntry) (x : Ent) : Prop := RA H β F w e.key x.1 ∧ RA H β F w e.val x.2.1 ∧ e.born = x.2.2

def keyTy (P : Program) (kt : TypeId) : Prop :=
  P.underlying kt = some .bool ∨ (∃ k, P.underlying kt = some (.int k)) ∨ P.underlying kt = some .string ∨ ∃ fs n p, P.underlying kt = some (.struct fs) ∧ tyOf P kt = .agg n p

theorem keyOk_ty {kt : TypeId} {k : AV} (h : keyOk (tyOf P kt) k = true) : keyTy P kt := by
  have ht := tyOf_cases (P := P) kt
  unfold keyOk at h
  split at h <;> first | cases h | skip
  · rename_i hty; rw [hty] at ht; exact .inr (.inl ht)
  · rename_i hty; rw [hty] at ht; exact .inr (.inr (.inl ht))
  · rename_i hty; rw [hty] at ht; exact .inl ht
  · rename_i n p xs hty; rw [hty] at ht; obtain ⟨⟨fs, hfs⟩, _⟩ := ht; exact .inr (.inr (.inr ⟨fs, n, p, hfs, hty⟩))

theorem eql_bool {ty : Ty} {k x c : AV} {t : Bool} (h : bin .eql ty k x = some c) (ht : truth c = some t) : c = B t := truth_inv ht

/-- One key asked about. -/
theorem eq_scalar {kt : TypeId} {d : TypeDesc} {k x : AV} {t : Bool} {vk vx : Value} (hd : P.underlying kt = some d) (hs : ∀ n p, tyOf P kt ≠ .agg n p) (hok : keyOk (tyOf P kt) k = true) (h : bin .eql (tyOf P kt) k x = some (B t)) (hk : RA H β F w vk k) (hx : RA H β F w vx x) :
    Instr.sameNow d vk vx = some t := by
  have ht := tyOf_cases (P := P) kt
  unfold keyOk at hok
  split at hok <;> first | cases hok | skip
  · rename_i k1 a hty
    rw [hty] at h ht
    obtain ⟨q, hq⟩ := ht
    rw [hd] at hq
    cases hq
    simp only [bin] at h
    split at h
    · rename_i k' x' k'' y' e1
      cases e1
      split at h
      · rename_i hkk
        simp [isShift] at hkk
        subst hkk
        cases hk.v_inv.1
        cases hx.v_inv.1
        simp [intOp] at h
        simp [Instr.sameNow, h]
      · cases h
    · cases h
  · rename_i a hty
    rw [hty] at h ht
    rw [hd] at ht
    cases ht
    simp only [bin] at h
    split at h
    · rename_i x' y' e1
      cases e1
      cases hk.v_inv.1
      cases hx.v_inv.1
      simp [strOp] at h
      simp only [Instr.sameNow, str_beq]
      rw [← h]
    · cases h
  · rename_i a hty
    rw [hty] at h ht
    rw [hd] at ht
    cases ht
    simp only [bin] at h
    split at h
    · rename_i x' y' e1
      cases e1
      cases hk.v_inv.1
      cases hx.v_inv.1
      simp [eqRes] at h
      simp [Instr.sameNow, h]
    · cases h
  · rename_i n p xs hty
    exact (hs _ _ hty).elim

theorem eq_agg {kt : TypeId} {n : Nat} {p : List (Nat × Ty)} {k x : AV} {t : Bool} {vk vx : Value} (hty : tyOf P kt = .agg n p) (h : bin .eql (tyOf P kt) k x = some (B t)) (hk : RA H β F w vk k) (hx : RA H β F w vx x) :
    (Op.equal kt vk vx).run P w = .ok t w ∧ ∀ d, Instr.sameNow d vk vx = none := by
  have ht := tyOf_cases (P := P) kt
  rw [hty] at h ht
  obtain ⟨⟨fs, hfs⟩, hplan, hgd, rfl⟩ := ht
  simp only [bin] at h
  split at h
  · rename_i xs ys
    split at h
    · rename_i hn
      have hagg : isAggT P kt = true := isAggT_of hfs
      rw [Option.bind_eq_some_iff] at h
      obtain ⟨r, hr, h⟩ := h
      simp [eqRes] at h
      subst h
      cases hk with
      | agg ha1 ha2 =>
        cases hx with
        | agg hb1 hb2 =>
          rename_i cs ds
          have he := (eqPlan_sound (P := P) ⟨ha1, ha2⟩ ⟨hb1, hb2⟩ 20 kt 0 p hplan).2.2 (.agg cs) (.agg ds) r
            (.inl ⟨hagg, cs, rfl, by omega, fun j _ => by simp⟩) (.inl ⟨hagg, ds, rfl, by omega, fun j _ => by simp⟩) hr 9980
          exact ⟨he, fun d => by cases d <;> rfl⟩
    · cases h
  · cases h

/-- What is found. -/
def FRel (H : Heap) (β : Beta) (F : Frz) (w : World) (i : Nat) (es : List Ent) (r : Option (Nat × AV)) (q : Option (Nat × Value)) : Prop :=
  match r, q with
  | none, none => True
  | some r, some q => q.1 = r.1 ∧ RA H β F w q.2 r.2 ∧ i ≤ r.1 ∧ r.1 < i + es.length
  | _, _ => False

theorem findNow_sound {kt : TypeId} {d : TypeDesc} {k : AV} {vk : Value} (hd : P.underlying kt = some d) (hs : ∀ n p, tyOf P kt ≠ .agg n p) (hok : keyOk (tyOf P kt) k = true) (hk : RA H β F w vk k) :
    ∀ (es : List Ent) (en : List MapEntry) (i : Nat) r, findA (tyOf P kt) k es i = some r → en.length = es.length → (∀ j (h : j < es.length), ∃ e, en[j]? = some e ∧ ERel H β F w e es[j]) →
      ∃ q, Instr.findNow d vk en i = some q ∧ FRel H β F w i es r q := by
  intro es
  induction es with
  | nil =>
    intro en i r h hl _
    cases en with
    | nil => cases h; exact ⟨none, rfl, trivial⟩
    | cons => cases hl
  | cons x es ih =>
    intro en i r h hl hr
    cases en with
    | nil => cases hl
    | cons e en =>
      obtain ⟨e', he', h1, h2, h3⟩ := hr 0 (by simp)
      cases he'
      simp only [findA] at h
      rw [Option.bind_eq_some_iff] at h
      obtain ⟨c, hc, h⟩ := h
      rw [Option.bind_eq_some_iff] at h
      obtain ⟨t, ht, h⟩ := h
      rw [truth_inv ht] at hc
      have hn := eq_scalar hd hs hok hc hk h1
      simp only [Instr.findNow, hn]
      cases t with
      | true =>
        simp at h
        subst h
        exact ⟨_, rfl, rfl, h2, Nat.le_refl _, by simp⟩
      | false =>
        simp at h
        obtain ⟨q, hq, hF⟩ := ih en (i + 1) r h (by simpa using hl) (fun j hj => by have := hr (j + 1) (by simpa using hj); simpa using this)
        refine ⟨q, hq, ?_⟩
        cases r <;> cases q <;> first | exact hF | skip
        obtain ⟨f1, f2, f3, f4⟩ := hF
        exact ⟨f1, f2, by omega, by simp; omega⟩

theorem findAsking_sound {kt : TypeId} {n : Nat} {p : List (Nat × Ty)} {k : AV} {vk : Value} (hty : tyOf P kt = .agg n p) (hk : RA H β F w vk k) :
    ∀ (es : List Ent) (en : List MapEntry) (i : Nat) r, findA (tyOf P kt) k es i = some r → en.length = es.length → (∀ j (h : j < es.length), ∃ e, en[j]? = some e ∧ ERel H β F w e es[j]) →
      ∃ q, (Instr.findAsking kt vk en i).run P w = .ok q w ∧ FRel H β F w i es r q ∧ ∀ d, Instr.findNow d vk en i = if es = [] then some none else none := by
  intro es
  induction es with
  | nil =>
    intro en i r h hl _
    cases en with
    | nil => cases h; exact ⟨none, rfl, trivial, fun _ => rfl⟩
    | cons => cases hl
  | cons x es ih =>
    intro en i r h hl hr
    cases en with
    | nil => cases hl
    | cons e en =>
      obtain ⟨e', he', h1, h2, h3⟩ := hr 0 (by simp)
      cases he'
      simp only [findA] at h
      rw [Option.bind_eq_some_iff] at h
      obtain ⟨c, hc, h⟩ := h
      rw [Option.bind_eq_some_iff] at h
      obtain ⟨t, ht, h⟩ := h
      rw [truth_inv ht] at hc
      obtain ⟨hn, hs⟩ := eq_agg hty hc hk h1
      have hnow : ∀ d, Instr.findNow d vk (e :: en) i = if x :: es = [] then some none else none := fun d => by simp [Instr.findNow, hs d]
      cases t with
      | true =>
        simp at h
        subst h
        exact ⟨_, by simp only [Instr.findAsking, Sem.run_bind, hn, Result.andThen_ok]; rfl, (show FRel H β F w i (x :: es) (some (i, x.2.1)) (some (i, e.val)) from ⟨rfl, h2, Nat.le_refl _, by simp⟩), hnow⟩
      | false =>
        simp at h
        obtain ⟨q, hq, hF, _⟩ := ih en (i + 1) r h (by simpa using hl) (fun j hj => by have := hr (j + 1) (by simpa using hj); simpa using this)
        refine ⟨q, by simp only [Instr.findAsking, Sem.run_bind, hn, Result.andThen_ok]; exact hq, ?_, hnow⟩
        cases r <;> cases q <;> first | exact hF | skip
        obtain ⟨f1, f2, f3, f4⟩ := hF
        exact ⟨f1, f2, by omega, by simp; omega⟩

theorem find_sound {kt : TypeId} {k : AV} {vk : Value} (hok : keyOk (tyOf P kt) k = true) (hk : RA H β F w vk k) {es : List Ent} {en : List MapEntry} {r : Option (Nat × AV)} (h : findA (tyOf P kt) k es 0 = some r)
    (hl : en.length = es.length) (hr : ∀ j (h : j < es.length), ∃ e, en[j]? = some e ∧ ERel H β F w e es[j]) : ∃ q, (Instr.findKey kt vk en).run P w = .ok q w ∧ FRel H β F w 0 es r q := by
  by_cases hs : ∀ n p, tyOf P kt ≠ .agg n p
  · obtain ⟨d, hd⟩ : ∃ d, P.underlying kt = some d := by
      rcases keyOk_ty hok with h | ⟨k, h⟩ | h | ⟨fs, n, p, h, _⟩ <;> exact ⟨_, h⟩
    obtain ⟨q, h1, h2⟩ := findNow_sound hd hs hok hk es en 0 r h hl hr
    exact ⟨q, MapKept.run_findKey hd h1, h2⟩
  · have : ∃ n p, tyOf P kt = .agg n p := by
      false_or_by_contra
      rename_i hn
      exact hs fun n p e => hn ⟨n, p, e⟩
    obtain ⟨n, p, hty⟩ := this
    have ht := tyOf_cases (P := P) kt
    rw [hty] at ht
    obtain ⟨⟨fs, hfs⟩, _⟩ := ht
    obtain ⟨q, h1, h2, h3⟩ := findAsking_sound hty hk es en 0 r h hl hr
    refine ⟨q, ?_, h2⟩
    simp only [Instr.findKey, Sem.run_bind, run_underlying hfs, Result.andThen_ok, h3]
    by_cases he : es = []
    · subst he
      cases h
      cases en with
      | nil =>
        cases q with
        | none => rfl
        | some q => exact h2.elim
      | cons => cases hl
    · rw [if_neg he]
      exact h1

/-- A key may be one. -/
theorem checkFields {xs : List AV} {sz off : Nat} {em : Bool} {m : Nat} {cx cs : Array Value} {g : TypeId → Nat → Option (List (Nat × Ty))}
    (hg : ∀ t off plan, g t off = some plan → (∃ d, P.underlying t = some d) ∧ (isAggT P t = false → 0 < P.cellsOf t) ∧ ∀ x, Sub P t cs off x → (Instr.checkKey em m t x).run P w = .ok () w)
    (hx : ∀ j, j < cx.size → cx[j]? = cs[off + j]?) (hxs : cx.size = sz) :
    ∀ (fs : List Field) plan, eqPlanFs P g sz off fs = some plan →
      (forIn fs PUnit.unit fun f _ => (if f.name ≠ "_" then part f.type cx f.offset >>= fun x => Instr.checkKey em m f.type x >>= fun _ => pure (ForInStep.yield PUnit.unit) else pure (ForInStep.yield PUnit.unit) : Sem (ForInStep PUnit))).run P w = .ok PUnit.unit w := by
  intro fs
  induction fs with
  | nil => intro plan _; rfl
  | cons f fs ih =>
    intro plan hp
    simp only [eqPlanFs] at hp
    split at hp
    · cases hp
    · rename_i hn
      rw [Option.bind_eq_some_iff] at hp
      obtain ⟨p1, hp1, hp⟩ := hp
      rw [Option.bind_eq_some_iff] at hp
      obtain ⟨q1, hq1, hp⟩ := hp
      obtain ⟨⟨dd, hd⟩, hpos, hg'⟩ := hg _ _ _ hp1
      obtain ⟨x, rx, sx⟩ := run_part (w := w) hd hx (o := f.offset) (by omega) (fun e => by have := hpos e; omega)
      have h1 := hg' x sx
      have hnm : f.name ≠ "_" := fun e => hn (.inl e)
      rw [List.forIn_cons]
      simp only [if_pos hnm, Sem.run_bind, rx, h1, Result.andThen_ok, Sem.run_pure]
      exact ih q1 hq1

theorem checkPlan {cs : Array Value} {em : Bool} : ∀ (d : Nat) (t : TypeId) (off : Nat) plan, eqPlan P d t off = some plan →
    (∃ dd, P.underlying t = some dd) ∧ (isAggT P t = false → 0 < P.cellsOf t) ∧ ∀ x, Sub P t cs off x → ∀ m, (Instr.checkKey em (d + m) t x).run P w = .ok () w := by
  intro d
  induction d with
  | zero => intro t off plan h; simp [eqPlan] at h
  | succ d ih =>
    intro t off plan h
    simp only [eqPlan] at h
    split at h
    · rename_i hu
      split at h <;> simp at h
      refine ⟨⟨_, hu⟩, fun _ => by omega, fun x _ m => ?_⟩
      rw [show d + 1 + m = d + m + 1 by omega]
      simp [Instr.checkKey, run_underlying hu]
    · rename_i k hu
      split at h <;> simp at h
      refine ⟨⟨_, hu⟩, fun _ => by omega, fun x _ m => ?_⟩
      rw [show d + 1 + m = d + m + 1 by omega]
      simp [Instr.checkKey, run_underlying hu]
    · rename_i hu
      split at h <;> simp at h
      refine ⟨⟨_, hu⟩, fun _ => by omega, fun x _ m => ?_⟩
      rw [show d + 1 + m = d + m + 1 by omega]
      simp [Instr.checkKey, run_underlying hu]
    · rename_i fs hu
      split at h
      · cases h
      · have ha : isAggT P t = true := isAggT_of hu
        refine ⟨⟨_, hu⟩, fun e => by (rw [ha] at e; cases e), fun x hx m => ?_⟩
        rcases hx with ⟨_, cx, rfl, hxs, hx⟩ | ⟨e, _⟩
        · rw [show d + 1 + m = d + m + 1 by omega]
          have := checkFields (P := P) (w := w) (xs := []) (em := em) (m := d + m) (g := eqPlan P d) (fun t' off' plan' hp' => by
            obtain ⟨h1, h2, h3⟩ := ih t' off' plan' hp'
            exact ⟨h1, h2, fun x hx => h3 x hx m⟩) hx hxs fs.toList plan h
          simp only [Instr.checkKey, Sem.run_bind, run_underlying hu, Result.andThen_ok]
          rw [← Array.forIn_toList]
          simp only [this]
          rfl
        · rw [ha] at e; cases e
    · cases h

theorem checkKey_scalar {kt : TypeId} {v : Value} (em : Bool) (h : P.underlying kt = some .bool ∨ (∃ k, P.underlying kt = some (.int k)) ∨ P.underlying kt = some .string) (n : Nat) : (Instr.checkKey em (n + 1) kt v).run P w = .ok () w := by
  rcases h with h | ⟨k, h⟩ | h <;> simp [Instr.checkKey, run_underlying h]

theorem checkKey_sound {kt : TypeId} {k : AV} {vk : Value} (em : Bool) (hok : keyOk (tyOf P kt) k = true) (hk : RA H β F w vk k) : (Instr.checkKey em 10000 kt vk).run P w = .ok () w := by
  have ht := tyOf_cases (P := P) kt
  unfold keyOk at hok
  split at hok <;> first | cases hok | skip
  · rename_i hty; rw [hty] at ht
    exact checkKey_scalar em (.inr (.inl ht)) 9999
  · rename_i hty; rw [hty] at ht
    exact checkKey_scalar em (.inr (.inr ht)) 9999
  · rename_i hty; rw [hty] at ht
    exact checkKey_scalar em (.inl ht) 9999
  · rename_i n p xs hty
    rw [hty] at ht
    obtain ⟨⟨fs, hfs⟩, hplan, _, rfl⟩ := ht
    have hn := Nat.eq_of_beq_eq_true hok
    cases hk with
    | agg a1 a2 =>
      rename_i cs
      exact (checkPlan (P := P) (w := w) (cs := cs) (em := em) 20 kt 0 p hplan).2.2 (.agg cs) (.inl ⟨isAggT_of hfs, cs, rfl, by omega, fun j _ => by simp⟩) 9980

/-! ### The operations -/
theorem Inv.map (hI : Inv H β F w) {id c : Nat} {es : List Ent} (ho : H[id]? = some (.map es c)) : ∃ b en, β id = some (b, 0, 0) ∧ w.heap[b]? = some (.map en c) ∧ en.size = es.length ∧ ∀ i (h : i < es.length), ∃ e, en[i]? = some e ∧ ERel H β F w e es[i] := hI.obj _ _ ho

theorem mp_inv (hI : Inv H β F w) {id c : Nat} {es : List Ent} {v : Value} (ho : H[id]? = some (.map es c)) (h : RA H β F w v (.mp id)) :
    ∃ b en, v = .map (some b) ∧ β id = some (b, 0, 0) ∧ w.heap[b]? = some (.map en c) ∧ en.size = es.length ∧ ∀ i (h : i < es.length), ∃ e, en[i]? = some e ∧ ERel H β F w e es[i] := by
  obtain ⟨b, en, h1, h2, h3, h4⟩ := hI.map ho
  cases h with
  | mp ho' hb =>
    rw [h1] at hb
    cases hb
    exact ⟨b, en, rfl, h1, h2, h3, h4⟩

theorem look_sound (hI : Inv H β F w) {t kt et : TypeId} {Z M K C : AV} {ok2 : Bool} {vm vk : Value} (ht : mapOf P t = some (kt, et)) (hz : zeroOf P et = some Z) (h : lookA (tyOf P kt) Z ok2 M K H = some C) (hm : RA H β F w vm M) (hk : RA H β F w vk K) :
    ∃ r, (Instr.lookup t vm vk ok2).run P w = .ok r w ∧ RA H β F w r C := by
  have hu := mapOf_inv ht
  obtain ⟨z, hzr, hza⟩ := zeroOf_run (w := w) hz
  unfold lookA at h
  split at h
  · rename_i hok
    rw [Option.bind_eq_some_iff] at h
    obtain ⟨es, hes, h⟩ := h
    rw [Option.map_eq_some_iff] at h
    obtain ⟨r, hr, rfl⟩ := h
    have res : ∀ (q : Option (Nat × Value)), FRel H β F w 0 es r q →
        RA H β F w (match q with | some q => (if ok2 then .tuple #[q.2, .bool true] else q.2) | none => (if ok2 then .tuple #[z, .bool false] else z)) (lookRes ok2 Z r) := by
      have tup : ∀ {v : Value} {x : AV} (b : Bool), RA H β F w v x → RA H β F w (.tuple #[v, .bool b]) (.tup [x, B b]) := by
        intro v x b hv
        refine .tup rfl fun i hi => ?_
        match i, hi with
        | 0, _ => exact hv
        | 1, _ => exact .of_leafy rfl
      intro q hq
      cases r with
      | none =>
        cases q with
        | none =>
          cases ok2
          · exact hza _ _ _ _
          · exact tup false (hza _ _ _ _)
        | some q => exact hq.elim
      | some r =>
        cases q with
        | none => exact hq.elim
        | some q =>
          cases ok2
          · exact hq.2.1
          · exact tup true hq.2.1
    unfold entsA at hes
    split at hes
    · cases hes
      cases hm.v_inv.1
      obtain ⟨q, hq, hF⟩ := find_sound (P := P) (w := w) hok hk (en := []) hr rfl (fun j h => by simp at h)
      refine ⟨_, ?_, res q hF⟩
      cases q with
      | none => simp [Instr.lookup, Sem.run_bind, run_underlying hu, Result.andThen_ok, Sem.run_pure, checkKey_sound _ hok hk, hq, hzr]
      | some q => simp [Instr.lookup, Sem.run_bind, run_underlying hu, Result.andThen_ok, Sem.run_pure, checkKey_sound _ hok hk, hq]
    · rename_i id
      split at hes
      · rename_i es' c ho
        cases hes
        obtain ⟨b, en, rfl, h1, h2, h3, h4⟩ := mp_inv hI ho hm
        obtain ⟨q, hq, hF⟩ := find_sound (P := P) (w := w) hok hk (en := en.toList) hr (by simpa using h3) (fun j h => by simpa using h4 j h)
        refine ⟨_, ?_, res q hF⟩
        cases q with
        | none => simp [Instr.lookup, Sem.run_bind, run_underlying hu, Result.andThen_ok, Sem.run_pure, MapKept.run_getObj_map h2, checkKey_sound _ hok hk, hq, hzr]
        | some q => simp [Instr.lookup, Sem.run_bind, run_underlying hu, Result.andThen_ok, Sem.run_pure, MapKept.run_getObj_map h2, checkKey_sound _ hok hk, hq]
      · cases hes
    · cases hes
  · cases h

/-- A map is written. -/
theorem map_write (hI : Inv H β F w) {id c c' b : Nat} {es es' : List Ent} {en' : Array MapEntry} (ho : H[id]? = some (.map es c)) (hb : β id = some (b, 0, 0)) {o : Obj} (h2 : w.heap[b]? = some o) (h3 : en'.size = es'.length)
    (h4 : ∀ i (h : i < es'.length), ∃ e, en'[i]? = some e ∧ ERel H β F w e es'[i]) :
    Inv (H.set id (.map es' c')) β F { w with heap := w.heap.setIfInBounds b (.map en' c') } ∧ Ext H β F w (H.set id (.map es' c')) β F { w with heap := w.heap.setIfInBounds b (.map en' c') } := by
  have hs := MapKept.heap_set (w := w) (o' := .map en' c') h2
  have hT : Touch w { w with heap := w.heap.setIfInBounds b (.map en' c') } (fun k => k = b) := ⟨rfl, rfl, rfl, by simp, Nat.le_refl _, fun k _ hk => hs.2 k hk⟩
  have key := Inv.update (w' := { w with heap := w.heap.setIfInBounds b (.map en' c') }) (F' := F) (o' := .map es' c') (nb := β id) hI ho (hT.mono fun k hk => ⟨0, 0, by rw [hk]; exact hb⟩) (fun b2 s2 t2 e2 => ⟨.inr ⟨s2, t2, e2⟩, fun j => hI.own _ _ _ _ _ e2⟩)
    (by show updB β id (β id) id = β id; rw [updB_same]) (fun _ _ h => h) (fun _ _ h => .inl h) (fz_later hI hb hT) (fun hE => by
      refine ⟨b, en', by rw [updB_same, hb], hs.1, h3, fun i hi => ?_⟩
      obtain ⟨e, k1, k2, k3, k4⟩ := h4 i hi
      exact ⟨e, k1, k2.ext hI hE, k3.ext hI hE, k4⟩)
  rw [updB_id] at key
  exact key

theorem setVal_rel {es : List Ent} {en : Array MapEntry} {i : Nat} {v : AV} {vv : Value} (h3 : en.size = es.length) (h4 : ∀ j (h : j < es.length), ∃ e, en[j]? = some e ∧ ERel H β F w e es[j]) (hv : RA H β F w vv v)
    {f : MapEntry → MapEntry} (hf : ∀ e, en[i]? = some e → f e = { e with val := vv }) :
    (en.modify i f).size = (setVal es i v).length ∧ ∀ j (h : j < (setVal es i v).length), ∃ e, (en.modify i f)[j]? = some e ∧ ERel H β F w e (setVal es i v)[j] := by
  refine ⟨by simp [setVal, h3], fun j hj => ?_⟩
  have hj' : j < es.length := by simpa [setVal] using hj
  obtain ⟨e, k1, k2, k3, k4⟩ := h4 j hj'
  rw [Array.getElem?_modify]
  have hg : (setVal es i v)[j] = if i = j then (es[j].1, v, es[j].2.2) else es[j] := by
    simp only [setVal, List.getElem_modify]
  rw [hg]
  by_cases hij : i = j
  · subst hij
    rw [if_pos rfl, if_pos rfl, k1]
    exact ⟨_, rfl, by rw [hf e k1]; exact ⟨k2, hv, k4⟩⟩
  · rw [if_neg hij, if_neg hij]
    exact ⟨e, k1, k2, k3, k4⟩

theorem push_rel {es : List Ent} {en : Array MapEntry} {k v : AV} {vk vv : Value} {c : Nat} (h3 : en.size = es.length) (h4 : ∀ j (h : j < es.length), ∃ e, en[j]? = some e ∧ ERel H β F w e es[j]) (hk : RA H β F w vk k) (hv : RA H β F w vv v) :
    (en.push { key := vk, val := vv, born := c }).size = (es ++ [(k, v, c)]).length ∧ ∀ j (h : j < (es ++ [(k, v, c)]).length), ∃ e, (en.push { key := vk, val := vv, born := c })[j]? = some e ∧ ERel H β F w e (es ++ [(k, v, c)])[j] := by
  refine ⟨by simp [h3], fun j hj => ?_⟩
  rw [Array.getElem?_push]
  by_cases hjl : j = es.length
  · subst hjl
    rw [if_pos h3.symm]
    exact ⟨_, rfl, by rw [List.getElem_append_right (Nat.le_refl _)]; simpa using ⟨hk, hv, rfl⟩⟩
  · rw [if_neg (by omega)]
    have hj' : j < es.length := by simp at hj; omega
    rw [List.getElem_append_left hj']
    exact h4 j hj'

theorem mapUpd_sound (hI : Inv H β F w) {t kt et : TypeId} {M K V : AV} {lo : List Nat} {H' : Heap} {vm vk vv : Value} (ht : mapOf P t = some (kt, et)) (h : mapUpdA (tyOf P kt) M K V lo H = some H') (hm : RA H β F w vm M) (hk : RA H β F w vk K) (hv : RA H β F w vv V) :
    ∃ w' β' F', (Instr.mapUpdate t vm vk vv).run P w = .ok () w' ∧ Inv H' β' F' w' ∧ Ext H β F w H' β' F' w' := by
  have hu := mapOf_inv ht
  unfold mapUpdA at h
  split at h
  · rename_i id
    split at h
    · rename_i es c ho
      split at h
      · rename_i hc
        obtain ⟨hok, hlev⟩ := hc
        rw [Option.bind_eq_some_iff] at h
        obtain ⟨r, hr, h⟩ := h
        obtain ⟨b, en, rfl, h1, h2, h3, h4⟩ := mp_inv hI ho hm
        obtain ⟨q, hq, hF⟩ := find_sound (P := P) (w := w) hok hk (en := en.toList) hr (by simpa using h3) (fun j h => by simpa using h4 j h)
        cases r with
        | none =>
          cases q with
          | some q => exact hF.elim
          | none =>
            cases h
            obtain ⟨p3, p4⟩ := push_rel (c := c) h3 h4 hk hv
            obtain ⟨i1, i2⟩ := map_write (c' := c + 1) hI ho h1 h2 p3 p4
            refine ⟨_, _, _, ?_, i1, i2⟩
            simp only [Instr.mapUpdate, Sem.run_bind, run_underlying hu, Result.andThen_ok, MapKept.run_getObj_map h2, checkKey_sound _ hok hk, hq]
            exact MapKept.run_setObj_map _ h2
        | some r =>
          cases q with
          | none => exact hF.elim
          | some q =>
            obtain ⟨i0, x⟩ := r
            obtain ⟨i, x'⟩ := q
            obtain ⟨rfl, f2, _, f4⟩ := hF
            simp only at h
            split at h
            · rename_i e he
              split at h
              · rename_i hs
                cases h
                have hi : i < es.length := by simpa using f4
                obtain ⟨e', k1, k2, k3, k4⟩ := h4 i hi
                rw [List.getElem?_eq_getElem hi] at he
                cases he
                obtain ⟨rfl, hbits⟩ := sameKey_sound hs k2 hk
                obtain ⟨p3, p4⟩ := setVal_rel (i := i) (f := fun e => { e with key := e'.key, val := vv }) h3 h4 hv (fun e he => by rw [k1] at he; cases he; rfl)
                obtain ⟨i1, i2⟩ := map_write (c' := c) hI ho h1 h2 p3 p4
                refine ⟨_, _, _, ?_, i1, i2⟩
                simp only [Instr.mapUpdate, Sem.run_bind, run_underlying hu, Result.andThen_ok, MapKept.run_getObj_map h2, checkKey_sound _ hok hk, hq, k1, Option.map_some, Option.getD_some, stays_run hbits]
                exact MapKept.run_setObj_map _ h2
              · cases h
            · cases h
      · cases h
    · cases h
  · cases h

theorem heap_same {b : Nat} {o : Obj} (h : w.heap[b]? = some o) : ({ w with heap := w.heap.setIfInBounds b o } : World) = w := by
  have : w.heap.setIfInBounds b o = w.heap := by
    apply Array.ext (by simp)
    intro j hj hj'
    rw [Array.getElem_setIfInBounds hj']
    split
    · rename_i e; subst e
      rw [Array.getElem?_eq_getElem hj'] at h
      exact (Option.some.inj h).symm
    · rfl
  rw [this]

theorem mapEnt_sound (hI : Inv H β F w) {t kt et : TypeId} {Z M K C : AV} {lo : List Nat} {H' : Heap} {vm vk : Value} (ht : mapOf P t = some (kt, et)) (hz : zeroOf P et = some Z) (h : mapEntA (tyOf P kt) Z M K lo H = some (C, H')) (hm : RA H β F w vm M) (hk : RA H β F w vk K) :
    Runs P H β F w (Instr.mapEntry t vm vk) C H' := by
  have hu := mapOf_inv ht
  obtain ⟨z, hzr, hza⟩ := zeroOf_run (w := w) hz
  have tup : ∀ {H : Heap} {β : Beta} {F : Frz} {w : World} {v : Value} {x : AV} (n : Nat), RA H β F w v x → RA H β F w (.tuple #[v, goInt n]) (.tup [x, I n]) := by
    intro H β F w v x b hv
    refine .tup rfl fun i hi => ?_
    match i, hi with
    | 0, _ => exact hv
    | 1, _ => exact .of_leafy rfl
  unfold mapEntA at h
  split at h
  · rename_i id
    split at h
    · rename_i es c ho
      split at h
      · rename_i hc
        obtain ⟨hok, hlev⟩ := hc
        rw [Option.bind_eq_some_iff] at h
        obtain ⟨r, hr, h⟩ := h
        obtain ⟨b, en, rfl, h1, h2, h3, h4⟩ := mp_inv hI ho hm
        obtain ⟨q, hq, hF⟩ := find_sound (P := P) (w := w) hok hk (en := en.toList) hr (by simpa using h3) (fun j h => by simpa using h4 j h)
        cases r with
        | none =>
          cases q with
          | some q => exact hF.elim
          | none =>
            cases h
            obtain ⟨p3, p4⟩ := push_rel (c := c) h3 h4 hk (hza H β F w)
            obtain ⟨i1, i2⟩ := map_write (c' := c + 1) hI ho h1 h2 p3 p4
            refine ⟨.tuple #[z, goInt c], _, _, _, ?_, tup c (hza _ _ _ _), i1, i2⟩
            simp only [Instr.mapEntry, Sem.run_bind, run_underlying hu, Result.andThen_ok, MapKept.run_getObj_map h2, checkKey_sound _ hok hk, hq, hzr, MapKept.run_setObj_map _ h2]
            rfl
        | some r =>
          cases q with
          | none => exact hF.elim
          | some q =>
            obtain ⟨i0, x⟩ := r
            obtain ⟨i, x'⟩ := q
            obtain ⟨rfl, f2, _, f4⟩ := hF
            simp only at h
            split at h
            · rename_i e he
              split at h
              · rename_i hs
                cases h
                have hi : i < es.length := by simpa using f4
                obtain ⟨e', k1, k2, k3, k4⟩ := h4 i hi
                rw [List.getElem?_eq_getElem hi] at he
                cases he
                obtain ⟨rfl, hbits⟩ := sameKey_sound hs k2 hk
                have hw : ({ w with heap := w.heap.setIfInBounds b (.map (en.modify i fun e => { e with key := e'.key }) c) } : World) = w := by
                  have hen : (en.modify i fun e => { e with key := e'.key }) = en := by
                    apply Array.ext (by simp)
                    intro j hj hj'
                    rw [Array.getElem_modify]
                    split
                    · rename_i e; subst e
                      rw [Array.getElem?_eq_getElem hj'] at k1
                      cases k1
                      rfl
                    · rfl
                  rw [hen]
                  exact heap_same h2
                refine ⟨.tuple #[x', goInt e'.born], w, β, F, ?_, by rw [k4]; exact tup _ f2, hI, .refl _ _ _ _⟩
                simp only [Instr.mapEntry, Sem.run_bind, run_underlying hu, Result.andThen_ok, MapKept.run_getObj_map h2, checkKey_sound _ hok hk, hq, k1, Option.map_some, Option.getD_some, stays_run hbits, MapKept.run_setObj_map _ h2, hw]
                rfl
              · cases h
            · cases h
      · cases h
    · cases h
  · cases h

theorem findIdx_rel {n : Int} : ∀ (en : List MapEntry) (es : List Ent), en.length = es.length → (∀ j (h : j < es.length), ∃ e, en[j]? = some e ∧ e.born = es[j].2.2) → (en.findIdx? fun e => decide ((e.born : Int) = n)) = es.findIdx? fun e => decide ((e.2.2 : Int) = n) := by
  intro en
  induction en with
  | nil => intro es h _; cases es with | nil => rfl | cons => cases h
  | cons e en ih =>
    intro es h hr
    cases es with
    | nil => cases h
    | cons x es =>
      obtain ⟨e', h1, h2⟩ := hr 0 (by simp)
      cases h1
      have ih' := ih es (by simpa using h) (fun j hj => by have := hr (j + 1) (by simpa using hj); simpa using this)
      simp only [List.findIdx?_cons, ih']
      simp only [List.getElem_cons_zero] at h2
      rw [h2]

theorem entSt_sound (hI : Inv H β F w) {t : TypeId} {M S V : AV} {lo : List Nat} {H' : Heap} {vm vs vv : Value} (h : entStA M S V lo H = some H') (hm : RA H β F w vm M) (hs : RA H β F w vs S) (hv : RA H β F w vv V) :
    ∃ w' β' F', (Instr.entryStore t vm vs vv).run P w = .ok () w' ∧ Inv H' β' F' w' ∧ Ext H β F w H' β' F' w' := by
  unfold entStA at h
  split at h
  · rename_i id
    split at h
    · rename_i es c ho
      split at h
      · rename_i hlev
        rw [Option.bind_eq_some_iff] at h
        obtain ⟨n, hn, h⟩ := h
        rw [Option.map_eq_some_iff] at h
        obtain ⟨i, hi, rfl⟩ := h
        obtain ⟨k, rfl⟩ := asI_inv hn
        cases hs.v_inv.1
        obtain ⟨b, en, rfl, h1, h2, h3, h4⟩ := mp_inv hI ho hm
        have hidx : en.findIdx? (fun e => (e.born : Int) == n) = some i := by
          rw [← hi, ← findIdx_rel en.toList es (by simpa using h3) (fun j hj => by obtain ⟨e, k1, k2, k3, k4⟩ := h4 j hj; exact ⟨e, by simpa using k1, k4⟩)]
          obtain ⟨l⟩ := en
          rw [List.findIdx?_toArray]
          congr 1
        obtain ⟨p3, p4⟩ := setVal_rel (i := i) (f := fun e => { e with val := vv }) h3 h4 hv (fun e he => rfl)
        obtain ⟨i1, i2⟩ := map_write (c' := c) hI ho h1 h2 p3 p4
        refine ⟨_, _, _, ?_, i1, i2⟩
        simp only [Instr.entryStore, Sem.run_bind, Sem.run_pure, Result.andThen_ok, MapKept.run_getObj_map h2, asInt, asIntOf, hidx]
        exact MapKept.run_setObj_map _ h2
      · cases h
    · cases h
  · cases h

theorem erase_rel {es : List Ent} {en : Array MapEntry} {i : Nat} (h3 : en.size = es.length) (h4 : ∀ j (h : j < es.length), ∃ e, en[j]? = some e ∧ ERel H β F w e es[j]) (hi : i < es.length) :
    (en.eraseIdxIfInBounds i).size = (es.eraseIdx i).length ∧ ∀ j (h : j < (es.eraseIdx i).length), ∃ e, (en.eraseIdxIfInBounds i)[j]? = some e ∧ ERel H β F w e (es.eraseIdx i)[j] := by
  have hi' : i < en.size := by omega
  have e : en.eraseIdxIfInBounds i = en.eraseIdx i hi' := by simp [Array.eraseIdxIfInBounds, hi']
  rw [e]
  refine ⟨by rw [Array.size_eraseIdx, List.length_eraseIdx, if_pos hi, h3], fun j hj => ?_⟩
  rw [Array.getElem?_eraseIdx]
  have hj2 : j < es.length - 1 := by rw [List.length_eraseIdx, if_pos hi] at hj; exact hj
  rw [List.getElem_eraseIdx]
  by_cases hji : j < i
  · rw [if_pos hji, dif_pos hji]
    exact h4 j (by omega)
  · rw [if_neg hji, dif_neg hji]
    exact h4 (j + 1) (by omega)

theorem del_sound (hI : Inv H β F w) {kt et ty : TypeId} {ts : Array TypeId} {M K : AV} {H' : Heap} {vm vk : Value} (hts : (ts[0]?).bind (mapOf P) = some (kt, et)) (h : delA (tyOf P kt) M K H = some H') (hm : RA H β F w vm M) (hk : RA H β F w vk K) :
    Runs P H β F w (Builtin.delete_ ts ty #[vm, vk]) undefA H' := by
  rw [Option.bind_eq_some_iff] at hts
  obtain ⟨t, ht, hmo⟩ := hts
  have hu := mapOf_inv hmo
  have hun : ∀ (H : Heap) (β : Beta) (F : Frz) (w : World), RA H β F w (.tuple #[]) undefA := fun _ _ _ _ => .tup rfl fun i hi => by simp at hi
  unfold delA at h
  split at h
  · split at h
    · rename_i hok
      cases h
      cases hm.v_inv.1
      exact ⟨.tuple #[], w, β, F, by simp [Builtin.delete_, ht, run_underlying hu, checkKey_sound _ hok hk], hun _ _ _ _, hI, .refl _ _ _ _⟩
    · cases h
  · rename_i id
    split at h
    · rename_i es c ho
      split at h
      · rename_i hok
        rw [Option.map_eq_some_iff] at h
        obtain ⟨r, hr, h⟩ := h
        obtain ⟨b, en, rfl, h1, h2, h3, h4⟩ := mp_inv hI ho hm
        obtain ⟨q, hq, hF⟩ := find_sound (P := P) (w := w) hok hk (en := en.toList) hr (by simpa using h3) (fun j h => by simpa using h4 j h)
        cases r with
        | none =>
          cases q with
          | some q => exact hF.elim
          | none =>
            simp only at h
            subst h
            have hw : ({ w with heap := w.heap.setIfInBounds b (.map en c) } : World) = w := heap_same h2
            exact ⟨.tuple #[], w, β, F, by simp [Builtin.delete_, ht, run_underlying hu, checkKey_sound _ hok hk, MapKept.run_getObj_map h2, hq, MapKept.run_setObj_map _ h2, hw], hun _ _ _ _, hI, .refl _ _ _ _⟩
        | some r =>
          cases q with
          | none => exact hF.elim
          | some q =>
            obtain ⟨i0, x⟩ := r
            obtain ⟨i, x'⟩ := q
            obtain ⟨rfl, f2, _, f4⟩ := hF
            simp only at h
            subst h
            have hi : i < es.length := by simpa using f4
            obtain ⟨p3, p4⟩ := erase_rel h3 h4 hi
            obtain ⟨i1, i2⟩ := map_write (c' := c) hI ho h1 h2 p3 p4
            exact ⟨.tuple #[], _, _, _, by simp only [Builtin.delete_, ht, run_underlying hu, checkKey_sound _ hok hk, MapKept.run_getObj_map h2, hq, MapKept.run_setObj_map _ h2, Sem.run_bind, Sem.run_pure, Result.andThen_ok, List.getElem?_toArray, List.getElem?_cons_zero, List.getElem?_cons_succ], hun _ _ _ _, i1, i2⟩
      · cases h
    · cases h
  · cases h

theorem mkMap_sound (hI : Inv H β F w) {t kt et : TypeId} (hu : P.underlying t = some (.map kt et)) {r : Option Value} (hr : ∀ v, r = some v → ∃ k n, v = .int k n) : Runs P H β F w (Instr.makeMap t r) (mkMap H).1 (mkMap H).2 := by
  obtain ⟨i1, i2⟩ := Inv.push (o' := .map [] 0) (nb := some (w.heap.size, 0, 0)) hI (alloc_touch (w := w) (.map #[] 0) _) (fun b s t e => by cases e; exact Nat.le_refl _)
    (fun hE => ⟨w.heap.size, #[], updB_same _ _ _, heap_alloc_new' _, rfl, fun i hi => by simp at hi⟩)
  have hp : RA (H ++ [.map [] 0]) (updB β H.length (some (w.heap.size, 0, 0))) F (w.alloc (.map #[] 0)) (.map (some w.heap.size)) (.mp H.length) := RA.mp (push_get _ _) (updB_same _ _ _)
  refine ⟨_, _, _, _, ?_, hp, i1, i2⟩
  cases r with
  | none => simp [Instr.makeMap]
  | some v =>
    obtain ⟨k, n, rfl⟩ := hr v rfl
    simp [Instr.makeMap, run_underlying hu, asInt, asIntOf]

end
end Go.AM
