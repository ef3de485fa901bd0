/-
More of the abstract operations: values alone, reads, places.
-/
import Derived.Test.YtfdnamedmjhcfaaDoorAm3
import Derived.Laws.Slices
import Derived.Laws.BytesString
set_option linter.unusedVariables false
set_option linter.unusedSimpArgs false
set_option linter.unusedSectionVars false
namespace Go.AM
variable [Know]
section
variable {P : Program} {H : Heap} {β : Beta} {F : Frz} {w : World}

theorem un_sound {op : UnOp} {A C : AV} {va : Value} (h : un op A = some C) (ha : RA H β F w va A) : ∃ r, (Op.unary op va).run P w = .ok r w ∧ RA H β F w r C := by
  unfold un at h
  split at h
  · cases ha.v_inv.1
    cases h
    exact ⟨_, by simp [Op.unary, Op.intArith], .of_leafy rfl⟩
  · cases ha.v_inv.1
    rw [Option.map_eq_some_iff] at h
    obtain ⟨r, hr, rfl⟩ := h
    simp only [intOp, Option.some.injEq] at hr
    subst hr
    exact ⟨_, by simp [Op.unary, Op.intBits], .of_leafy rfl⟩
  · cases ha.v_inv.1
    cases h
    exact ⟨_, by simp [Op.unary], .of_leafy rfl⟩
  · cases h

theorem pick_sound {c A B' C : AV} {vc va vb : Value} (h : pickA c A B' = some C) (hc : RA H β F w vc c) (ha : RA H β F w va A) (hb : RA H β F w vb B') :
    ∃ r, (do pure (if ← asBool vc then va else vb) : Sem Value).run P w = .ok r w ∧ RA H β F w r C := by
  unfold pickA at h
  split at h
  · rename_i ht
    cases truth_inv ht
    cases hc.v_inv.1
    cases h
    exact ⟨_, by simp [asBool], ha⟩
  · rename_i ht
    cases truth_inv ht
    cases hc.v_inv.1
    cases h
    exact ⟨_, by simp [asBool], hb⟩
  · cases h

theorem extract_sound {A C : AV} {va : Value} {j : Nat} (h : extractA A j = some C) (ha : RA H β F w va A) : ∃ r, (Instr.extract va j).run P w = .ok r w ∧ RA H β F w r C := by
  unfold extractA at h
  split at h
  · cases ha with
    | tup h1 h2 =>
      obtain ⟨v, hv, rv⟩ := RowA.at_ ⟨h1, h2⟩ h
      exact ⟨v, by simp [Instr.extract, hv], rv⟩
  · cases h

theorem nilCheck_sound {A C : AV} {va : Value} (h : nilCheckA A = some C) (ha : RA H β F w va A) : C = A ∧ ((∃ a, va = .pointer (some a)) ∨ ∃ f x y, va = .func (.func f) x y) := by
  unfold nilCheckA at h
  split at h
  · cases h; cases ha; exact ⟨rfl, .inl ⟨_, rfl⟩⟩
  · cases h
    refine ⟨rfl, ?_⟩
    cases ha with
    | ptr hl => exact .inl hl
  · cases h
    refine ⟨rfl, ?_⟩
    cases ha with
    | rptr hl => exact .inl hl
  · cases h; cases ha; exact ⟨rfl, .inr ⟨_, _, _, rfl⟩⟩
  · cases h

/-! ### Cells of a value -/
theorem RA.cells {v : Value} {x : AV} (h : RA H β F w v x) (hx : x.cells.all AV.leaf = true) : RowA H β F w v.cells x.cells := by
  cases x with
  | agg xs =>
    cases h with
    | agg h1 h2 => exact ⟨h1, h2⟩
  | _ =>
    have hl : leafyV v = true := h.leafy (by simpa [AV.cells] using hx)
    rw [leafy_cells hl]
    refine ⟨by simp [AV.cells], fun i hi => ?_⟩
    have : i = 0 := by simp [AV.cells] at hi; omega
    subst this
    simpa [AV.cells] using h

theorem RowA.extract {cs : Array Value} {xs : List AV} (h : RowA H β F w cs xs) (off n : Nat) (hn : off + n ≤ xs.length) : RowA H β F w (cs.extract off (off + n)) ((xs.drop off).take n) := by
  have hs := h.1
  refine ⟨by simp; omega, fun i hi => ?_⟩
  have hi' : i < n := by simp at hi; omega
  have h2 := h.2 (off + i) (by omega)
  simp only [List.getElem_take, List.getElem_drop]
  rw [Array.getD_eq_getD_getElem?] at h2 ⊢
  rwa [Array.getElem?_extract, if_pos (by omega)]

theorem RowA.agg {cs : Array Value} {xs : List AV} (h : RowA H β F w cs xs) : RA H β F w (.agg cs) (.agg xs) := .agg h.1 h.2

theorem field_sound {t : TypeId} {fs : Array Field} {fd : Field} {j : Nat} {d : TypeDesc} {A C : AV} {va : Value} (ht : P.underlying t = some (.struct fs)) (hj : fs[j]? = some fd) (hd : P.underlying fd.type = some d)
    (h : fieldA (isAggT P fd.type) fd.offset (P.cellsOf fd.type) A = some C) (ha : RA H β F w va A) : ∃ r, (Instr.field t va j).run P w = .ok r w ∧ RA H β F w r C := by
  unfold fieldA at h
  split at h
  · rename_i xs
    cases ha with
    | @agg cs _ h1 h2 =>
      have hrow : RowA H β F w cs xs := ⟨h1, h2⟩
      simp only [Instr.field, Sem.run_bind, run_underlying ht, Result.andThen_ok, hj, asAgg, Sem.run_pure, part, run_isAgg hd]
      split at h
      · rename_i hagg
        split at h
        · rename_i hle
          cases h
          exact ⟨.agg (cs.extract fd.offset (fd.offset + P.cellsOf fd.type)), by simp [hagg, run_sizeOf hd], (hrow.extract _ _ hle).agg⟩
        · cases h
      · rename_i hagg
        obtain ⟨v, hv, rv⟩ := hrow.at_ h
        exact ⟨v, by simp [hagg, hv], rv⟩
  · cases h

/-! ### Places -/
theorem fieldPlace_run {fd : Field} {d : TypeDesc} (hd : P.underlying fd.type = some d) (hz : P.cellsOf fd.type ≠ 0) (a : Addr) : (fieldPlace a fd).run P w = .ok (a.add fd.offset) w := by
  simp [fieldPlace, run_sizeOf hd, hz]

theorem fld_sound {t : TypeId} {fs : Array Field} {fd : Field} {j : Nat} {d : TypeDesc} {A C : AV} {va : Value} (ht : P.underlying t = some (.struct fs)) (hj : fs[j]? = some fd) (hd : P.underlying fd.type = some d) (hz : P.cellsOf fd.type ≠ 0)
    (h : fldA fd.offset A = some C) (ha : RA H β F w va A) : ∃ r, (Instr.fieldAt t va j).run P w = .ok r w ∧ RA H β F w r C := by
  have key : ∀ a, (Instr.fieldAt t (.pointer (some a)) j).run P w = .ok (.pointer (some (a.add fd.offset))) w := by
    intro a
    simp [Instr.fieldAt, run_underlying ht, hj, Instr.sureAddr, fieldPlace_run hd hz]
  unfold fldA at h
  split at h
  · cases h
    cases ha with
    | fp c h4 h5 =>
      refine ⟨_, key _, ?_⟩
      rw [Addr.add_lit, Nat.add_assoc]
      exact .fp c h4 h5
  · cases h
    cases ha with
    | ptr hl ho h =>
      obtain ⟨a, rfl⟩ := hl
      refine ⟨_, key _, .ptr ⟨_, rfl⟩ ho fun e => ?_⟩
      obtain ⟨b, s, t, h1, h2⟩ := h e
      cases h2
      exact ⟨b, s, t, h1, by rw [Addr.add_lit, Nat.add_assoc]⟩
  · cases h
    cases ha with
    | rptr hl ho hg h =>
      obtain ⟨a, rfl⟩ := hl
      refine ⟨_, key _, .rptr ⟨_, rfl⟩ ho hg fun e => ?_⟩
      obtain ⟨b, s, t, h1, h2⟩ := h e
      cases h2
      exact ⟨b, s, t, h1, by rw [Addr.add_lit, Nat.add_assoc]⟩
  · cases h

theorem idx_sound {t e : TypeId} {d : TypeDesc} {A I' C : AV} {va vi : Value} (ht : P.underlying t = some (.slice e)) (hd : P.underlying e = some d) (h : idxA (P.cellsOf e) A I' = some C) (ha : RA H β F w va A) (hi : RA H β F w vi I') :
    ∃ r, (Instr.indexAt t va vi).run P w = .ok r w ∧ RA H β F w r C := by
  have key : ∀ a n c k (j : Int), 0 ≤ j → j < (n : Nat) → (Instr.indexAt t (.slice (some a) n c) (.int k j)).run P w = .ok (.pointer (some (a.add (j.toNat * P.cellsOf e)))) w := by
    intro a n c k j h0 h1
    simp [Instr.indexAt, asIntOf, run_underlying ht, h0, h1, run_sizeOf hd]
  unfold idxA at h
  split at h
  · rename_i nl tg n xs k j
    cases hi.v_inv.1
    split at h
    · rename_i hj
      cases h
      cases ha with
      | p ha =>
        cases ha with
        | nil => simp at hj; omega
        | emp => simp at hj; omega
        | sl c h1 h2 h3 h4 h5 =>
          refine ⟨_, key _ _ _ _ _ hj.1 hj.2, ?_⟩
          rw [Addr.add_lit]
          exact .fp c h4 h5
    · cases h
  · rename_i id g off n k j
    cases hi.v_inv.1
    split at h
    · rename_i hj
      cases h
      cases ha with
      | row hl ho hg hr =>
        obtain ⟨a, c, rfl, hc, hn⟩ := hl
        cases a with
        | none => have := hn rfl; omega
        | some a =>
          refine ⟨_, key _ _ _ _ _ hj.1 hj.2, .rptr ⟨_, rfl⟩ ho hg fun e => ?_⟩
          have hr' := hr e
          unfold RowAt at hr'
          split at hr'
          · omega
          · rename_i b s t hb
            obtain ⟨A, cap, hv, hA, _⟩ := hr'
            rcases hA with rfl | ⟨h0, _⟩
            case inr => omega
            cases hv
            exact ⟨b, s, t, hb, by rw [Addr.add_lit, Nat.add_assoc]⟩
    · cases h
  · rename_i id n k j
    cases hi.v_inv.1
    split at h
    · rename_i hj
      cases h
      cases ha with
      | bsl hl ho hr =>
        obtain ⟨a, c, rfl, hc⟩ := hl
        refine ⟨_, key _ _ _ _ _ hj.1 hj.2, .ptr ⟨_, rfl⟩ ho fun e => ?_⟩
        obtain ⟨b, s, t, c', hb, hv⟩ := hr e
        cases hv
        exact ⟨b, s, t, hb, by rw [Addr.add_lit, Nat.zero_add]⟩
    · cases h
  · cases h

theorem strAt_sound {t : TypeId} {A I' C : AV} {va vi : Value} (ht : P.underlying t = some .string) (h : strAt A I' = some C) (ha : RA H β F w va A) (hi : RA H β F w vi I') : ∃ r, (Instr.index t va vi).run P w = .ok r w ∧ RA H β F w r C := by
  unfold strAt at h
  split at h
  · rename_i s k j
    cases ha.v_inv.1
    cases hi.v_inv.1
    split at h
    · rename_i b hb
      cases h
      exact ⟨.int .u8 b.toNat, by simp only [Instr.index, asIntOf, Sem.run_bind, Sem.run_pure, Result.andThen_ok, run_underlying ht]; rw [hb]; rfl, .of_leafy rfl⟩
    · cases h
  · cases h

theorem arrAt_sound {t e : TypeId} {n : Nat} {d : TypeDesc} {A I' C : AV} {va vi : Value} (ht : P.underlying t = some (.array n e)) (hd : P.underlying e = some d) (h : arrAt (isAggT P e) (P.cellsOf e) n A I' = some C) (ha : RA H β F w va A) (hi : RA H β F w vi I') :
    ∃ r, (Instr.index t va vi).run P w = .ok r w ∧ RA H β F w r C := by
  unfold arrAt at h
  split at h
  · rename_i xs k j
    cases hi.v_inv.1
    split at h
    · rename_i hj
      cases ha with
      | @agg cs _ h1 h2 =>
        have hrow : RowA H β F w cs xs := ⟨h1, h2⟩
        unfold partA at h
        simp only [Instr.index, asIntOf, Sem.run_bind, Sem.run_pure, Result.andThen_ok, run_underlying ht, hj, and_self, if_true, run_sizeOf hd, part, run_isAgg hd]
        split at h
        · rename_i hagg
          split at h
          · rename_i hle
            cases h
            exact ⟨.agg (cs.extract (j.toNat * P.cellsOf e) (j.toNat * P.cellsOf e + P.cellsOf e)), by simp [hagg, run_sizeOf hd], (hrow.extract _ _ hle).agg⟩
          · cases h
        · rename_i hagg
          obtain ⟨v, hv, rv⟩ := hrow.at_ h
          exact ⟨v, by simp [hagg, hv], rv⟩
    · cases h
  · cases h

theorem idxArr_sound {t e : TypeId} {n : Nat} {d : TypeDesc} {A I' C : AV} {va vi : Value} (ht : P.underlying t = some (.array n e)) (hd : P.underlying e = some d) (h : idxArr (P.cellsOf e) n A I' = some C) (ha : RA H β F w va A) (hi : RA H β F w vi I') :
    ∃ r, (Instr.indexAt t va vi).run P w = .ok r w ∧ RA H β F w r C := by
  have key : ∀ a k (j : Int), 0 ≤ j → j < (n : Nat) → (Instr.indexAt t (.pointer (some a)) (.int k j)).run P w = .ok (.pointer (some (a.add (j.toNat * P.cellsOf e)))) w := by
    intro a k j h0 h1
    simp [Instr.indexAt, asIntOf, run_underlying ht, h0, h1, run_sizeOf hd, Instr.sureAddr]
  unfold idxArr at h
  split at h
  · rename_i xs off k j
    cases hi.v_inv.1
    split at h
    · rename_i hj
      cases h
      cases ha with
      | fp c h4 h5 =>
        refine ⟨_, key _ _ _ hj.1 hj.2, ?_⟩
        rw [Addr.add_lit, Nat.add_assoc]
        exact .fp c h4 h5
    · cases h
  · rename_i id off k j
    cases hi.v_inv.1
    split at h
    · rename_i hj
      cases h
      cases ha with
      | ptr hl ho h =>
        obtain ⟨a, rfl⟩ := hl
        refine ⟨_, key _ _ _ hj.1 hj.2, .ptr ⟨_, rfl⟩ ho fun e => ?_⟩
        obtain ⟨b, s, t, h1, h2⟩ := h e
        cases h2
        exact ⟨b, s, t, h1, by rw [Addr.add_lit, Nat.add_assoc]⟩
    · cases h
  · rename_i id g off k j
    cases hi.v_inv.1
    split at h
    · rename_i hj
      cases h
      cases ha with
      | rptr hl ho hg h =>
        obtain ⟨a, rfl⟩ := hl
        refine ⟨_, key _ _ _ hj.1 hj.2, .rptr ⟨_, rfl⟩ ho hg fun e => ?_⟩
        obtain ⟨b, s, t, h1, h2⟩ := h e
        cases h2
        exact ⟨b, s, t, h1, by rw [Addr.add_lit, Nat.add_assoc]⟩
    · cases h
  · cases h

theorem len_sound {t ty : TypeId} {A C : AV} {va : Value} (hI : Inv H β F w) (h : lenA (tyOf P t) A H = some C) (ha : RA H β F w va A) : ∃ r, (Builtin.len_ #[t] ty #[va]).run P w = .ok r w ∧ RA H β F w r C := by
  have ht := tyOf_cases (P := P) t
  unfold lenA at h
  split at h
  · rename_i nl tg n xs hty
    rw [hty] at ht
    obtain ⟨e, he⟩ := ht
    cases h
    cases ha with
    | p ha =>
      cases ha with
      | nil => exact ⟨goInt 0, by simp [Builtin.len_, run_underlying he], .of_leafy rfl⟩
      | emp => exact ⟨goInt 0, by simp [Builtin.len_, run_underlying he], .of_leafy rfl⟩
      | sl => exact ⟨goInt n, by simp [Builtin.len_, run_underlying he], .of_leafy rfl⟩
  · rename_i id g off n hty
    rw [hty] at ht
    obtain ⟨e, he⟩ := ht
    cases h
    cases ha with
    | row hl =>
      obtain ⟨a, c, rfl, _⟩ := hl
      exact ⟨goInt n, by simp [Builtin.len_, run_underlying he], .of_leafy rfl⟩
  · rename_i id n hty
    rw [hty] at ht
    obtain ⟨e, he⟩ := ht
    cases h
    cases ha with
    | bsl hl =>
      obtain ⟨a, c, rfl, _⟩ := hl
      exact ⟨goInt n, by simp [Builtin.len_, run_underlying he], .of_leafy rfl⟩
  · rename_i s hty
    rw [hty] at ht
    cases h
    cases ha.v_inv.1
    exact ⟨goInt s.size, by simp [Builtin.len_, run_underlying ht], .of_leafy rfl⟩
  · rename_i hty
    rw [hty] at ht
    obtain ⟨k, e, he⟩ := ht
    cases h
    cases ha.v_inv.1
    exact ⟨goInt 0, by simp [Builtin.len_, run_underlying he], .of_leafy rfl⟩
  · rename_i id hty
    rw [hty] at ht
    obtain ⟨k, e, he⟩ := ht
    split at h
    · rename_i es c ho
      cases h
      cases ha with
      | @mp _ b s t es' c' ho' hb =>
        obtain ⟨b', en, k1, k2, k3, _⟩ := hI.obj _ _ ho
        rw [hb] at k1
        cases k1
        refine ⟨goInt en.size, ?_, ?_⟩
        · simp only [Builtin.len_]
          have hg : (getObj b).run P w = .ok (.map en c) w := by simp [getObj, Sem.run, k2]
          simp [run_underlying he, hg]
        · rw [k3]; exact .of_leafy rfl
    · cases h
  · cases h

theorem cap_sound {t ty : TypeId} {A C : AV} {va : Value} (hty : tyOf P t = .slice) (h : capA A = some C) (ha : RA H β F w va A) : ∃ r, (Builtin.cap_ #[t] ty #[va]).run P w = .ok r w ∧ RA H β F w r C := by
  have ht := tyOf_cases (P := P) t
  rw [hty] at ht
  obtain ⟨e, he⟩ := ht
  unfold capA at h
  split at h
  · cases h
    cases ha with
    | p ha =>
      cases ha with
      | nil => exact ⟨goInt 0, by simp [Builtin.cap_, run_underlying he], .of_leafy rfl⟩
      | emp h1 => exact (h1 rfl).elim
      | sl c h1 => exact (h1 rfl).elim
  · rename_i n xs h0
    cases h
    cases ha with
    | p ha =>
      cases ha with
      | nil => exact ⟨goInt 0, by simp [Builtin.cap_, run_underlying he], .of_leafy rfl⟩
      | emp => exact ⟨goInt 0, by simp [Builtin.cap_, run_underlying he], .of_leafy rfl⟩
      | sl c h1 h2 h3 =>
        cases h3 rfl
        exact ⟨goInt n, by simp [Builtin.cap_, run_underlying he], .of_leafy rfl⟩
  · cases h

theorem best_sound {gt : Bool} {A B' C : AV} {va vb : Value} (h : best gt A B' = some C) (ha : RA H β F w va A) (hb : RA H β F w vb B') :
    ∃ r, (if gt then Builtin.max2 va vb else Builtin.min2 va vb).run P w = .ok r w ∧ RA H β F w r C := by
  unfold best at h
  split at h
  · cases ha.v_inv.1
    cases hb.v_inv.1
    split at h
    · rename_i hk
      subst hk
      cases h
      cases gt
      · exact ⟨_, by simp [Builtin.min2], .of_leafy rfl⟩
      · exact ⟨_, by simp [Builtin.max2], .of_leafy rfl⟩
    · cases h
  · cases h


/-- Values one by one. -/
inductive RAs (H : Heap) (β : Beta) (F : Frz) (w : World) : List Value → List AV → Prop
  | nil : RAs H β F w [] []
  | cons {v : Value} {x : AV} {vs : List Value} {xs : List AV} (h : RA H β F w v x) (h' : RAs H β F w vs xs) : RAs H β F w (v :: vs) (x :: xs)

theorem bests_sound {gt : Bool} : ∀ (ys : List AV) (vs : List Value) (A C : AV) (va : Value), bests gt A ys = some C → RA H β F w va A → RAs H β F w vs ys →
    ∃ r, (vs.foldlM (if gt then Builtin.max2 else Builtin.min2) va).run P w = .ok r w ∧ RA H β F w r C := by
  intro ys
  induction ys with
  | nil =>
    intro vs A C va h ha hv
    cases hv
    cases h
    exact ⟨va, by simp, ha⟩
  | cons y ys ih =>
    intro vs A C va h ha hv
    cases hv with
    | cons hy hv =>
      simp only [bests, Option.bind_eq_some_iff] at h
      obtain ⟨z, hz, h⟩ := h
      obtain ⟨r, hr, rr⟩ := best_sound (P := P) hz ha hy
      obtain ⟨q, hq, rq⟩ := ih _ _ _ _ h rr hv
      refine ⟨q, ?_, rq⟩
      simp only [List.foldlM_cons, Sem.run_bind]
      cases gt
      · simp only [Bool.false_eq_true, if_false] at hr hq ⊢
        rw [hr]
        exact hq
      · simp only [if_true] at hr hq ⊢
        rw [hr]
        exact hq

/-- What the bounds of a cut come to. -/
def OptRA (H : Heap) (β : Beta) (F : Frz) (w : World) (v : Option Value) (x : Option AV) : Prop :=
  match v, x with | none, none => True | some v, some y => RA H β F w v y | _, _ => False

theorem bnd_sound {d : Nat} {x : Option AV} {vx : Option Value} {n : Int} (h : bnd d x = some n) (hx : OptRA H β F w vx x) :
    (vx = none ∧ x = none ∧ n = d) ∨ ∃ k, vx = some (.int k n) ∧ x.isSome = true := by
  cases x with
  | none =>
    cases vx with
    | none => simp only [bnd, Option.some.injEq] at h; exact .inl ⟨rfl, rfl, h.symm⟩
    | some v => exact hx.elim
  | some y =>
    cases vx with
    | none => exact hx.elim
    | some v =>
      obtain ⟨k, rfl⟩ := asI_inv h
      cases hx.v_inv.1
      exact .inr ⟨k, rfl, rfl⟩

/-- The bounds of a cut, as the program reckons them. -/
theorem bounds_run {sl : Bool} {len cap : Nat} {vl vh vm : Option Value} {l h m : Int} (hc : len ≤ cap)
    (hl : (vl = none ∧ l = 0) ∨ ∃ k, vl = some (.int k l)) (hh : (vh = none ∧ h = len) ∨ ∃ k, vh = some (.int k h)) (hm : (vm = none ∧ m = cap) ∨ ((∃ k, vm = some (.int k m)) ∧ vh.isSome = true))
    (h0 : 0 ≤ l) (h1 : l ≤ h) (h2 : h ≤ len) (h3 : h ≤ m) (h4 : m ≤ cap) : (Instr.sliceBounds sl len cap vl vh vm).run P w = .ok (l.toNat, h.toNat, m.toNat) w := by
  have eh : (h.toNat : Int) = h := Int.toNat_of_nonneg (by omega)
  have em : (m.toNat : Int) = m := Int.toNat_of_nonneg (by omega)
  rcases hm with ⟨rfl, rfl⟩ | ⟨⟨km, rfl⟩, hs⟩
  · rcases hh with ⟨rfl, rfl⟩ | ⟨kh, rfl⟩ <;> rcases hl with ⟨rfl, rfl⟩ | ⟨kl, rfl⟩
    · simp [Instr.sliceBounds]
    · simp [Instr.sliceBounds, run_sliceBound w kl l len .sliceB h0 (by omega)]
    · simp [Instr.sliceBounds, run_sliceBound w kh h cap _ (by omega) (by omega)]
    · simp [Instr.sliceBounds, run_sliceBound w kh h cap _ (by omega : 0 ≤ h) (by omega), run_sliceBound w kl l h.toNat .sliceB h0 (by omega)]
  · rcases hh with ⟨rfl, _⟩ | ⟨kh, rfl⟩
    · cases hs
    · rcases hl with ⟨rfl, rfl⟩ | ⟨kl, rfl⟩
      · simp [Instr.sliceBounds, run_sliceBound w km m cap _ (by omega : 0 ≤ m) h4, run_sliceBound w kh h m.toNat .slice3B (by omega : 0 ≤ h) (by omega)]
      · simp [Instr.sliceBounds, run_sliceBound w km m cap _ (by omega : 0 ≤ m) h4, run_sliceBound w kh h m.toNat .slice3B (by omega : 0 ≤ h) (by omega), run_sliceBound w kl l h.toNat .slice3C h0 (by omega)]


theorem cutStr_sound {t : TypeId} {A C : AV} {va : Value} {lo hi : Option AV} {vl vh : Option Value} (ht : P.underlying t = some .string) (h : cutStr A lo hi = some C) (ha : RA H β F w va A)
    (hl : OptRA H β F w vl lo) (hh : OptRA H β F w vh hi) : ∃ r, (Instr.sliceAt t va vl vh none).run P w = .ok r w ∧ RA H β F w r C := by
  unfold cutStr at h
  split at h
  · rename_i s
    cases ha.v_inv.1
    rw [Option.bind_eq_some_iff] at h
    obtain ⟨l, h1, h⟩ := h
    rw [Option.bind_eq_some_iff] at h
    obtain ⟨k, h2, h⟩ := h
    split at h
    · rename_i hb
      cases h
      have e1 := bnd_sound h1 hl
      have e2 := bnd_sound h2 hh
      have hr := bounds_run (P := P) (w := w) (sl := false) (len := s.size) (cap := s.size) (vl := vl) (vh := vh) (vm := none) (l := l) (h := k) (m := s.size) (Nat.le_refl _)
        (e1.imp (fun e => ⟨e.1, e.2.2⟩) (fun ⟨q, e, _⟩ => ⟨q, e⟩)) (e2.imp (fun e => ⟨e.1, e.2.2⟩) (fun ⟨q, e, _⟩ => ⟨q, e⟩)) (.inl ⟨rfl, rfl⟩) hb.1 hb.2.1 hb.2.2 hb.2.2 (by omega)
      refine ⟨.string (s.extract l.toNat k.toNat), ?_, .of_leafy rfl⟩
      rw [run_sliceAt_string w t _ _ _ _ ht]
      simp only [Instr.slice, Sem.run_bind, run_underlying ht, Result.andThen_ok, Option.isSome_none, Bool.false_eq_true, if_false, hr, Sem.run_pure]
    · cases h
  · cases h

theorem slice_run {t e : TypeId} {d : TypeDesc} {a : Option Addr} {len cap : Nat} {vl vh vm : Option Value} {l h m : Nat} (ht : P.underlying t = some (.slice e)) (hd : P.underlying e = some d)
    (hr : (Instr.sliceBounds true len cap vl vh vm).run P w = .ok (l, h, m) w) :
    (Instr.sliceAt t (.slice a len cap) vl vh vm).run P w = .ok (.slice (if m = l then a else a.map (·.add (l * P.cellsOf e))) (h - l) (m - l)) w := by
  simp only [Instr.sliceAt, Sem.run_bind, run_underlying ht, Result.andThen_ok, Instr.slice, hr, run_sizeOf hd, Sem.run_pure]

theorem RP.cut {b s n cap : Nat} {nl : Option Bool} {tg : Bool} {xs : List PV} (c : Nat → Value) (h1 : nl ≠ some true)
    (h4 : ∀ i, i < xs.length → F b (s + i) ∧ w.cell? ⟨b, s + i, none⟩ = some (c i)) (h5 : ∀ i (h : i < xs.length), RP F w (c i) xs[i]) (o k : Nat) (hn : n ≤ cap) (ht : tg = true → cap = n) :
    RP F w (.slice (some ⟨b, s + o, none⟩) n cap) (.sl nl tg n ((xs.drop o).take k)) := by
  refine .sl (fun i => c (o + i)) h1 hn ht (fun i hi => ?_) (fun i hi => ?_)
  · have hi' : i < k ∧ i < xs.length - o := by simpa [Nat.lt_min] using hi
    have := h4 (o + i) (by omega)
    rwa [show s + o + i = s + (o + i) by omega]
  · have hi' : i < k ∧ i < xs.length - o := by simpa [Nat.lt_min] using hi
    simp only [List.getElem_take, List.getElem_drop]
    exact h5 (o + i) (by omega)

theorem cutA_sound {t e : TypeId} {d : TypeDesc} {A C : AV} {va : Value} {lo hi mx : Option AV} {vl vh vm : Option Value} (ht : P.underlying t = some (.slice e)) (hd : P.underlying e = some d) (h : cutA (P.cellsOf e) A lo hi mx H = some C) (ha : RA H β F w va A)
    (hl : OptRA H β F w vl lo) (hh : OptRA H β F w vh hi) (hm : OptRA H β F w vm mx) : ∃ r, (Instr.sliceAt t va vl vh vm).run P w = .ok r w ∧ RA H β F w r C := by
  unfold cutA at h
  split at h
  · rename_i nl tg n xs
    rw [Option.bind_eq_some_iff] at h
    obtain ⟨l, h1, h⟩ := h
    rw [Option.bind_eq_some_iff] at h
    obtain ⟨k, h2, h⟩ := h
    have e1 := bnd_sound h1 hl
    have e2 := bnd_sound h2 hh
    have e1' := e1.imp (fun e => (⟨e.1, e.2.2⟩ : vl = none ∧ l = 0)) (fun ⟨q, e, _⟩ => (⟨q, e⟩ : ∃ k, vl = some (Value.int k l)))
    have e2' := e2.imp (fun e => (⟨e.1, e.2.2⟩ : vh = none ∧ k = n)) (fun ⟨q, e, _⟩ => (⟨q, e⟩ : ∃ q, vh = some (Value.int q k)))
    cases ha with
    | p ha =>
      cases mx with
      | none =>
        cases vm with
        | some v => exact hm.elim
        | none =>
          simp only at h
          split at h
          · rename_i hb
            cases h
            cases ha with
            | nil hnl =>
              have hr := bounds_run (P := P) (w := w) (sl := true) (len := 0) (cap := 0) (vm := none) (m := 0) (Nat.le_refl _) e1' (by simpa using e2') (.inl ⟨rfl, rfl⟩) hb.1 hb.2.1 (by omega) (by omega) (by omega)
              refine ⟨_, slice_run ht hd hr, ?_⟩
              have hl0 : l = 0 := by omega
              have hk0 : k = 0 := by omega
              subst hl0 hk0
              simpa using RA.p (.nil hnl)
            | emp hnl =>
              have hr := bounds_run (P := P) (w := w) (sl := true) (len := 0) (cap := 0) (vm := none) (m := 0) (Nat.le_refl _) e1' (by simpa using e2') (.inl ⟨rfl, rfl⟩) hb.1 hb.2.1 (by omega) (by omega) (by omega)
              refine ⟨_, slice_run ht hd hr, ?_⟩
              have hl0 : l = 0 := by omega
              have hk0 : k = 0 := by omega
              subst hl0 hk0
              simpa using RA.p (.emp hnl)
            | @sl b s _ cap _ _ _ c n1 n2 n3 n4 n5 =>
              have hr := bounds_run (P := P) (w := w) (sl := true) (len := n) (cap := cap) (vm := none) (m := cap) n2 e1' e2' (.inl ⟨rfl, rfl⟩) hb.1 hb.2.1 hb.2.2 (by omega) (by omega)
              refine ⟨_, slice_run ht hd hr, .p ?_⟩
              have ht' : (tg && decide (k = n)) = true → cap - l.toNat = k.toNat - l.toNat := by
                intro e
                simp only [Bool.and_eq_true, decide_eq_true_eq] at e
                have := n3 e.1
                have := e.2
                omega
              split
              · rename_i ec
                have : k.toNat - l.toNat = 0 := by simp at ec; omega
                rw [this]
                refine .sl (fun _ => undef) n1 (by omega) (fun e => ?_) (fun i hi => by simp at hi) (fun i hi => by simp at hi)
                have := ht' e
                simp at ec this ⊢
                omega
              · simp only [Option.map_some, Addr.add_lit, Int.toNat_natCast]
                exact RP.cut c n1 n4 n5 _ _ (by omega) (by simpa using ht')
          · cases h
      | some m =>
        cases vm with
        | none => exact hm.elim
        | some v =>
          simp only at h
          rw [Option.bind_eq_some_iff] at h
          obtain ⟨m', h3, h⟩ := h
          obtain ⟨km, rfl⟩ := asI_inv h3
          have hv : v = .int km m' := (RA.v_inv hm).1
          subst hv
          split at h
          · rename_i hb
            obtain ⟨b1, b2, b3, rfl, hs⟩ := hb
            cases h
            have hvs : vh.isSome = true := by
              rcases e2 with ⟨_, e, _⟩ | ⟨q, rfl, _⟩
              · rw [e] at hs; cases hs
              · rfl
            cases ha with
            | nil hnl =>
              have hl0 : l = 0 := by omega
              have hk0 : m' = 0 := by omega
              subst hl0 hk0
              have hr := bounds_run (P := P) (w := w) (sl := true) (len := 0) (cap := 0) (vm := some (.int km 0)) (l := 0) (h := 0) (m := 0) (Nat.le_refl _) e1' e2' (.inr ⟨⟨km, rfl⟩, hvs⟩) (by omega) (by omega) (by omega) (by omega) (by omega)
              refine ⟨_, slice_run ht hd hr, ?_⟩
              simpa using RA.p (.nil hnl)
            | emp hnl =>
              have hl0 : l = 0 := by omega
              have hk0 : m' = 0 := by omega
              subst hl0 hk0
              have hr := bounds_run (P := P) (w := w) (sl := true) (len := 0) (cap := 0) (vm := some (.int km 0)) (l := 0) (h := 0) (m := 0) (Nat.le_refl _) e1' e2' (.inr ⟨⟨km, rfl⟩, hvs⟩) (by omega) (by omega) (by omega) (by omega) (by omega)
              refine ⟨_, slice_run ht hd hr, ?_⟩
              simpa using RA.p (.emp hnl)
            | @sl b s _ cap _ _ _ c n1 n2 n3 n4 n5 =>
              have hr := bounds_run (P := P) (w := w) (sl := true) (len := n) (cap := cap) (vm := some (.int km m')) (m := m') n2 e1' e2' (.inr ⟨⟨km, rfl⟩, hvs⟩) b1 b2 b3 (by omega) (by omega)
              refine ⟨_, slice_run ht hd hr, .p ?_⟩
              split
              · rename_i ec
                have : m'.toNat - l.toNat = 0 := by omega
                rw [this]
                exact .sl (fun _ => undef) n1 (by omega) (fun e => rfl) (fun i hi => by simp at hi) (fun i hi => by simp at hi)
              · simp only [Option.map_some, Addr.add_lit]
                exact RP.cut c n1 n4 n5 _ _ (by omega) (fun _ => rfl)
          · cases h
  · rename_i id g off n
    rw [Option.bind_eq_some_iff] at h
    obtain ⟨l, h1, h⟩ := h
    rw [Option.bind_eq_some_iff] at h
    obtain ⟨k, h2, h⟩ := h
    have e1 := bnd_sound h1 hl
    have e2 := bnd_sound h2 hh
    have e1' := e1.imp (fun e => (⟨e.1, e.2.2⟩ : vl = none ∧ l = 0)) (fun ⟨q, e, _⟩ => (⟨q, e⟩ : ∃ k, vl = some (Value.int k l)))
    have e2' := e2.imp (fun e => (⟨e.1, e.2.2⟩ : vh = none ∧ k = n)) (fun ⟨q, e, _⟩ => (⟨q, e⟩ : ∃ q, vh = some (Value.int q k)))
    cases mx with
    | some m => cases h
    | none =>
      cases vm with
      | some v => exact hm.elim
      | none =>
        simp only at h
        split at h
        · rename_i g1 sz1 xs1 ho1
          split at h
          · rename_i hb
            obtain ⟨rfl, hb⟩ := hb
            cases h
            cases ha with
            | @row _ _ _ _ _ g' sz xs hv ho hg hr0 =>
              rw [ho] at ho1
              cases ho1
              obtain ⟨a, cap, rfl, hc, hn⟩ := hv
              have hr := bounds_run (P := P) (w := w) (sl := true) (len := n) (cap := cap) (vm := none) (m := cap) hc e1' e2' (.inl ⟨rfl, rfl⟩) hb.1 hb.2.1 hb.2.2 (by omega) (by omega)
              refine ⟨_, slice_run ht hd hr, .row ⟨_, _, rfl, by omega, fun e => ?_⟩ ho hg fun eg => ?_⟩
              · have : a = none := by
                  split at e
                  · exact e
                  · simpa using e
                have := hn this
                omega
              · have hr' := hr0 eg
                unfold RowAt at hr' ⊢
                split at hr'
                · obtain ⟨rfl, rfl, h3, a', hv', hsp⟩ := hr'
                  cases hv'
                  have hl0 : l = 0 := by omega
                  have hk0 : k = 0 := by omega
                  subst hl0 hk0
                  refine ⟨by simp, by simp, h3, _, rfl, trivial⟩
                · rename_i b s t hb'
                  obtain ⟨A, cap', hv', hA, h5, h6, h7⟩ := hr'
                  cases hv'
                  have q1 : l.toNat * P.cellsOf e + (cap - l.toNat) * P.cellsOf e = cap * P.cellsOf e := by rw [← Nat.add_mul]; congr 1; omega
                  have q2 : l.toNat * P.cellsOf e + (k.toNat - l.toNat) * P.cellsOf e ≤ n * P.cellsOf e := by rw [← Nat.add_mul]; exact Nat.mul_le_mul_right _ (by omega)
                  by_cases ec : ((cap : Nat) : Int).toNat = l.toNat
                  · rw [if_pos ec]
                    simp only [Int.toNat_natCast] at ec ⊢
                    refine ⟨A, cap - l.toNat, rfl, .inr ⟨by omega, by omega, trivial⟩, by omega, by omega, by omega⟩
                  · rw [if_neg ec]
                    simp only [Int.toNat_natCast, Option.map_some] at ec ⊢
                    refine ⟨_, cap - l.toNat, rfl, ?_, by omega, by omega, by omega⟩
                    rcases hA with rfl | ⟨h8, h9, h10⟩
                    · left; rw [Addr.add_lit, Nat.add_assoc]
                    · omega
          · cases h
        · cases h
  · cases h

theorem bytesOf_sound : ∀ (xs : List PV) (l : List UInt8), bytesOf xs = some l → ∀ (c : Nat → Value), (∀ i (h : i < xs.length), RP F w (c i) xs[i]) → ∃ ns : List Int, ns.length = xs.length ∧ (∀ i, i < xs.length → c i = .int .u8 (ns.getD i 0)) ∧ l = ns.map fun n => UInt8.ofNat n.toNat := by
  intro xs
  induction xs with
  | nil => intro l h c hc; cases h; exact ⟨[], rfl, fun i hi => by simp at hi, rfl⟩
  | cons x xs ih =>
    intro l h c hc
    unfold bytesOf at h
    split at h
    · rename_i e; cases e
    · rename_i n ys e
      cases e
      rw [Option.map_eq_some_iff] at h
      obtain ⟨r, hr, rfl⟩ := h
      obtain ⟨ns, h1, h2, rfl⟩ := ih r hr (fun i => c (i + 1)) (fun i hi => hc (i + 1) (by simpa using hi))
      refine ⟨n :: ns, by simp [h1], fun i hi => ?_, rfl⟩
      cases i with
      | zero =>
        have := hc 0 (by simp)
        simp only [List.getElem_cons_zero] at this
        generalize c 0 = c0 at this ⊢
        cases this with
        | v => simp
      | succ i => simpa using h2 i (by simpa using hi)
    · cases h

end
end Go.AM
