/-
One operation; calls.
-/
import Derived.Test.YtfdnamedmjhcfaaDoorAm8c
set_option linter.unusedVariables false
set_option linter.unusedSimpArgs false
set_option linter.unnecessarySimpa false
set_option linter.unusedSectionVars false
namespace Go.AM
variable [Know]

/-! ### Levels -/
def ObjLt (l : Nat) : AObj → Prop
  | .box xs => ∀ x ∈ xs, Lt l x
  | .row _ _ _ => True
  | .map es _ => ∀ e ∈ es, Lt l e.1 ∧ Lt l e.2.1
  | .iter _ _ _ _ => True
  | .hole => True
def Low (l : Nat) (H : Heap) : Prop := ∀ (id : Nat) o, id < l → H[id]? = some o → ObjLt l o
def LowAll (lo : List Nat) (H : Heap) : Prop := ∀ l ∈ lo, l ≤ H.length ∧ Low l H

theorem LowAll.push {lo : List Nat} {H : Heap} (h : LowAll lo H) (o : AObj) : LowAll lo (H ++ [o]) := by
  intro l hl
  obtain ⟨h1, h2⟩ := h l hl
  refine ⟨by simp; omega, fun id xs hid ho => h2 id xs hid ?_⟩
  rwa [List.getElem?_append_left (by omega)] at ho

theorem LowAll.set_row {lo : List Nat} {H : Heap} (h : LowAll lo H) {id g' sz' : Nat} {xs' : List PV} : LowAll lo (H.set id (.row g' sz' xs')) := by
  intro l hl
  obtain ⟨h1, h2⟩ := h l hl
  refine ⟨by simpa using h1, fun i ys hi ho => ?_⟩
  by_cases e : i = id
  · subst e
    rcases Nat.lt_or_ge i H.length with hlt | hge
    · rw [List.getElem?_set_self hlt] at ho
      cases ho
      exact True.intro
    · rw [List.getElem?_eq_none (by simpa using hge)] at ho
      cases ho
  · rw [List.getElem?_set_ne (Ne.symm e)] at ho
    exact h2 i ys hi ho

theorem LowAll.set_box {lo : List Nat} {H : Heap} (h : LowAll lo H) {id : Nat} {xs ys : List AV} {off : Nat} (ho : H[id]? = some (.box xs)) (hc : okLevels lo id ys = true) : LowAll lo (H.set id (.box (splice xs off ys))) := by
  intro l hl
  obtain ⟨h1, h2⟩ := h l hl
  refine ⟨by simpa using h1, fun i zs hi hz => ?_⟩
  by_cases e : i = id
  · subst e
    rw [List.getElem?_set_self (getElem?_lt ho)] at hz
    simp only [Option.some.injEq] at hz
    subst hz
    have hy := List.all_eq_true.mp hc l hl
    rw [Bool.or_eq_true] at hy
    have hys : ∀ y ∈ ys, Lt l y := by
      rcases hy with hy | hy
      · have : l ≤ i := by simpa using hy
        omega
      · exact fun y hmem => lt_sound l 6 y (List.all_eq_true.mp hy y hmem)
    have hxs : ∀ x ∈ xs, Lt l x := h2 i _ hi ho
    show ∀ x ∈ splice xs off ys, Lt l x
    clear hc hy ho
    induction ys generalizing xs off with
    | nil => exact hxs
    | cons y ys ih =>
      refine ih (fun z hz => hys z (by simp [hz])) fun x hx => ?_
      rcases List.mem_or_eq_of_mem_set hx with h' | h'
      · exact hxs x h'
      · rw [h']; exact hys y (by simp)
  · rw [List.getElem?_set_ne (Ne.symm e)] at hz
    exact h2 i zs hi hz

theorem fillA_low {lo : List Nat} {H H' : Heap} {m r : Nat} {xs : List AV} {C : AV} (h : LowAll lo H) (e : fillA m r xs H = some (C, H')) : LowAll lo H' := by
  unfold fillA at e
  split at e
  · rename_i cs hc ho
    split at e
    · cases e
      generalize holeAt m r H = id at *
      intro l hl
      obtain ⟨h1, h2⟩ := h l hl
      refine ⟨by simpa using h1, fun i o hi ho' => ?_⟩
      by_cases e : id = i
      · subst e
        rw [List.getElem?_set_self (getElem?_lt ho)] at ho'
        cases ho'
        intro x hx
        obtain ⟨y, _, rfl⟩ := List.mem_map.mp hx
        exact .p _
      · rw [List.getElem?_set_ne e] at ho'
        exact h2 i o hi ho'
    · cases e
  · cases e

theorem okLevels_lt {lo : List Nat} {id l : Nat} {ys : List AV} (hc : okLevels lo id ys = true) (hl : l ∈ lo) (hi : id < l) : ∀ y ∈ ys, Lt l y := by
  have hy := List.all_eq_true.mp hc l hl
  rw [Bool.or_eq_true] at hy
  rcases hy with hy | hy
  · have : l ≤ id := by simpa using hy
    omega
  · exact fun y hmem => lt_sound l 6 y (List.all_eq_true.mp hy y hmem)

theorem LowAll.set_map {lo : List Nat} {H : Heap} (h : LowAll lo H) {id c c' : Nat} {es es' : List Ent} (ho : H[id]? = some (.map es c)) (hc : ∀ l ∈ lo, id < l → ∀ e ∈ es', e ∈ es ∨ (Lt l e.1 ∧ Lt l e.2.1)) : LowAll lo (H.set id (.map es' c')) := by
  intro l hl
  obtain ⟨h1, h2⟩ := h l hl
  refine ⟨by simpa using h1, fun i z hi hz => ?_⟩
  by_cases e : i = id
  · subst e
    rw [List.getElem?_set_self (getElem?_lt ho)] at hz
    cases hz
    intro e he
    rcases hc l hl hi e he with h | h
    · exact h2 i _ hi ho e h
    · exact h
  · rw [List.getElem?_set_ne (Ne.symm e)] at hz
    exact h2 i z hi hz

theorem LowAll.at_map {lo : List Nat} {H : Heap} (h : LowAll lo H) {id c : Nat} {es : List Ent} (ho : H[id]? = some (.map es c)) {l : Nat} (hl : l ∈ lo) (hi : id < l) : ∀ e ∈ es, Lt l e.1 ∧ Lt l e.2.1 := (h l hl).2 id _ hi ho

theorem setVal_mem {es : List Ent} {i : Nat} {v : AV} {e : Ent} (h : e ∈ setVal es i v) : e ∈ es ∨ ∃ e' ∈ es, e = (e'.1, v, e'.2.2) := by
  obtain ⟨j, hj, rfl⟩ := List.getElem_of_mem h
  have hj' : j < es.length := by simpa [setVal] using hj
  simp only [setVal, List.getElem_modify]
  by_cases hij : i = j
  · subst hij
    rw [if_pos rfl]
    exact .inr ⟨es[i], List.getElem_mem hj', rfl⟩
  · rw [if_neg hij]
    exact .inl (List.getElem_mem hj')

theorem mapUpdA_low {ty : Ty} {M K V : AV} {lo : List Nat} {H H' : Heap} (h : LowAll lo H) (e : mapUpdA ty M K V lo H = some H') : LowAll lo H' := by
  unfold mapUpdA at e
  split at e
  · rename_i id
    split at e
    · rename_i es c ho
      split at e
      · rename_i hc
        rw [Option.bind_eq_some_iff] at e
        obtain ⟨r, hr, e⟩ := e
        cases r with
        | none =>
          cases e
          refine h.set_map ho fun l hl hi x hx => ?_
          rcases List.mem_append.mp hx with hx | hx
          · exact .inl hx
          · have := okLevels_lt hc.2 hl hi
            rw [List.mem_singleton.mp hx]
            exact .inr ⟨this K (by simp), this V (by simp)⟩
        | some r =>
          simp only at e
          split at e
          · split at e
            · cases e
              refine h.set_map ho fun l hl hi x hx => ?_
              rcases setVal_mem hx with hx | ⟨x', hx', rfl⟩
              · exact .inl hx
              · exact .inr ⟨(h.at_map ho hl hi x' hx').1, okLevels_lt hc.2 hl hi V (by simp)⟩
            · cases e
          · cases e
      · cases e
    · cases e
  · cases e

theorem mapEntA_low {ty : Ty} {Z M K C : AV} {lo : List Nat} {H H' : Heap} (h : LowAll lo H) (e : mapEntA ty Z M K lo H = some (C, H')) : LowAll lo H' := by
  unfold mapEntA at e
  split at e
  · rename_i id
    split at e
    · rename_i es c ho
      split at e
      · rename_i hc
        rw [Option.bind_eq_some_iff] at e
        obtain ⟨r, hr, e⟩ := e
        cases r with
        | none =>
          cases e
          refine h.set_map ho fun l hl hi x hx => ?_
          rcases List.mem_append.mp hx with hx | hx
          · exact .inl hx
          · have := okLevels_lt hc.2 hl hi
            rw [List.mem_singleton.mp hx]
            exact .inr ⟨this K (by simp), this Z (by simp)⟩
        | some r =>
          simp only at e
          split at e
          · split at e
            · cases e; exact h
            · cases e
          · cases e
      · cases e
    · cases e
  · cases e

theorem entStA_low {M S V : AV} {lo : List Nat} {H H' : Heap} (h : LowAll lo H) (e : entStA M S V lo H = some H') : LowAll lo H' := by
  unfold entStA at e
  split at e
  · rename_i id
    split at e
    · rename_i es c ho
      split at e
      · rename_i hc
        rw [Option.bind_eq_some_iff] at e
        obtain ⟨n, hn, e⟩ := e
        rw [Option.map_eq_some_iff] at e
        obtain ⟨i, hi, rfl⟩ := e
        refine h.set_map ho fun l hl hi x hx => ?_
        rcases setVal_mem hx with hx | ⟨x', hx', rfl⟩
        · exact .inl hx
        · exact .inr ⟨(h.at_map ho hl hi x' hx').1, okLevels_lt hc hl hi V (by simp)⟩
      · cases e
    · cases e
  · cases e

theorem delA_low {ty : Ty} {M K : AV} {lo : List Nat} {H H' : Heap} (h : LowAll lo H) (e : delA ty M K H = some H') : LowAll lo H' := by
  unfold delA at e
  split at e
  · split at e
    · cases e; exact h
    · cases e
  · rename_i id
    split at e
    · rename_i es c ho
      split at e
      · rw [Option.map_eq_some_iff] at e
        obtain ⟨r, hr, e⟩ := e
        cases r with
        | none => simp only at e; subst e; exact h
        | some r =>
          simp only at e
          subst e
          exact h.set_map ho fun l hl hi x hx => .inl (List.mem_of_mem_eraseIdx hx)
      · cases e
    · cases e
  · cases e

theorem rangeA_low {lo : List Nat} {H H' : Heap} {x C : AV} (h : LowAll lo H) (e : rangeA x H = some (C, H')) : LowAll lo H' := by
  unfold rangeA at e
  split at e
  · split at e
    · cases e; exact h.push _
    · cases e
  · cases e

theorem clearA_low {lo : List Nat} {H H' : Heap} {sz : Nat} {z : List PV} {x : AV} (h : LowAll lo H) (e : clearA sz z x H = some H') : LowAll lo H' := by
  unfold clearA at e
  split at e
  · cases e; exact h
  · split at e
    · split at e
      · cases e; exact h.set_row
      · cases e
    · cases e
  · cases e

theorem LowAll.set_iter {lo : List Nat} {H : Heap} (h : LowAll lo H) {id m since last : Nat} {seen : List Nat} : LowAll lo (H.set id (.iter m since seen last)) := by
  intro l hl
  obtain ⟨h1, h2⟩ := h l hl
  refine ⟨by simpa using h1, fun i ys hi ho => ?_⟩
  by_cases e : i = id
  · subst e
    rcases Nat.lt_or_ge i H.length with hlt | hge
    · rw [List.getElem?_set_self hlt] at ho
      cases ho
      exact True.intro
    · rw [List.getElem?_eq_none (by simpa using hge)] at ho
      cases ho
  · rw [List.getElem?_set_ne (Ne.symm e)] at ho
    exact h2 i ys hi ho

theorem nextA_low {lo : List Nat} {H : Heap} {x : AV} {l : List (AV × Heap)} (h : LowAll lo H) (e : nextA x H = some l) : ∀ y ∈ l, LowAll lo y.2 := by
  unfold nextA at e
  split at e
  · split at e
    · split at e
      · split at e
        · simp only [Option.some.injEq] at e
          intro y hy
          split at e
          · subst e
            rw [List.mem_singleton.mp hy]
            exact h
          · subst e
            obtain ⟨z, _, rfl⟩ := List.mem_map.mp hy
            exact h.set_iter
        · cases e
      · cases e
    · cases e
  · cases e

theorem toPV_low {lo : List Nat} {H H' : Heap} {y : AV} {x : PV} (h : LowAll lo H) (e : toPV H y = some (x, H')) : LowAll lo H' := by
  unfold toPV at e
  split at e
  · cases e; exact h
  · split at e
    · split at e
      · cases e; exact h.set_row
      · cases e
    · cases e
  · cases e

theorem toPVs_low {lo : List Nat} : ∀ (ys : List AV) (H H' : Heap) (xs : List PV), LowAll lo H → toPVs H ys = some (xs, H') → LowAll lo H' := by
  intro ys
  induction ys with
  | nil => intro H H' xs h e; cases e; exact h
  | cons y ys ih =>
    intro H H' xs h e
    simp only [toPVs, Option.bind_eq_some_iff] at e
    obtain ⟨⟨x, H1⟩, e1, e⟩ := e
    rw [Option.map_eq_some_iff] at e
    obtain ⟨⟨zs, H2⟩, e2, e⟩ := e
    cases e
    exact ih H1 H2 _ (toPV_low h e1) e2

theorem LowAll.set_nil {lo : List Nat} {H : Heap} (h : LowAll lo H) {id : Nat} : LowAll lo (H.set id (.box [])) := by
  intro l hl
  obtain ⟨h1, h2⟩ := h l hl
  refine ⟨by simpa using h1, fun i zs hi hz => ?_⟩
  by_cases e : i = id
  · subst e
    rcases Nat.lt_or_ge i H.length with hlt | hge
    · rw [List.getElem?_set_self hlt] at hz
      cases hz
      intro x hx
      cases hx
    · rw [List.getElem?_eq_none (by simpa using hge)] at hz
      cases hz
  · rw [List.getElem?_set_ne (Ne.symm e)] at hz
    exact h2 i zs hi hz

theorem frzBox_low {lo : List Nat} {H H' : Heap} {id n : Nat} {x : PV} (h : LowAll lo H) (e : frzBox id n H = some (x, H')) : LowAll lo H' := by
  unfold frzBox at e
  split at e
  · rw [Option.bind_eq_some_iff] at e
    obtain ⟨⟨zs, H1⟩, h1, e⟩ := e
    simp only at e
    split at e
    · split at e
      · cases e
        exact (toPVs_low _ _ _ _ h h1).set_nil
      · cases e
    · cases e
  · cases e

theorem stA_low {lo : List Nat} {H H' : Heap} {n : Nat} {p y : AV} (h : LowAll lo H) (e : stA n p y lo H = some H') : LowAll lo H' := by
  unfold stA at e
  split at e
  · split at e
    · rename_i ho
      split at e
      · rename_i hc
        cases e
        exact h.set_box ho hc.2.2.2.2
      · cases e
    · cases e
  · split at e
    · split at e
      · rw [Option.bind_eq_some_iff] at e
        obtain ⟨⟨ps, H1⟩, e1, e⟩ := e
        simp only at e
        split at e
        · split at e
          · cases e
            exact (toPVs_low _ _ _ _ h e1).set_row
          · cases e
        · cases e
      · cases e
    · cases e
  · cases e

theorem appA_low {lo : List Nat} {H H' : Heap} {sz b : Nat} {x y C : AV} (h : LowAll lo H) (e : appA sz b x y H = some (C, H')) : LowAll lo H' := by
  unfold appA at e
  rw [Option.bind_eq_some_iff] at e
  obtain ⟨⟨k, new⟩, _, e⟩ := e
  unfold appTo at e
  split at e
  · split at e
    · cases e; exact h
    · split at e
      · cases e; exact h.push _
      · cases e
  · split at e
    · cases e; exact h
    · split at e
      · cases e; exact h.push _
      · cases e
  · split at e
    · split at e
      · cases e; exact h.set_row
      · cases e
    · cases e
  · cases e

theorem appZ_low {lo : List Nat} {H H' : Heap} {sz b : Nat} {q : List PV} {x y C : AV} (h : LowAll lo H) (e : appZ sz b q x y H = some (C, H')) : LowAll lo H' := by
  unfold appZ at e
  rw [Option.bind_eq_some_iff] at e
  obtain ⟨k, _, e⟩ := e
  split at e
  · unfold appTo at e
    split at e
    · split at e
      · cases e; exact h
      · split at e
        · cases e; exact h.push _
        · cases e
    · split at e
      · cases e; exact h
      · split at e
        · cases e; exact h.push _
        · cases e
    · split at e
      · split at e
        · cases e; exact h.set_row
        · cases e
      · cases e
    · cases e
  · cases e

theorem copyA_low {lo : List Nat} {H H' : Heap} {sz : Nat} {x y C : AV} (h : LowAll lo H) (e : copyA sz x y H = some (C, H')) : LowAll lo H' := by
  unfold copyA at e
  split at e
  · split at e
    · split at e
      · rw [Option.bind_eq_some_iff] at e
        obtain ⟨⟨k, new⟩, _, e⟩ := e
        cases e
        exact h.set_row
      · cases e
    · cases e
  · cases e

theorem mkRow_low {lo : List Nat} {H H' : Heap} {sz b : Nat} {q : List PV} {x y C : AV} (h : LowAll lo H) (e : mkRow sz b q x y H = some (C, H')) : LowAll lo H' := by
  unfold mkRow at e
  rw [Option.bind_eq_some_iff] at e
  obtain ⟨l, _, e⟩ := e
  rw [Option.bind_eq_some_iff] at e
  obtain ⟨k, _, e⟩ := e
  split at e
  · cases e; exact h.push _
  · cases e

theorem mkBsl_low {lo : List Nat} {H H' : Heap} {sz b : Nat} {q : List PV} {x y C : AV} (h : LowAll lo H) (e : mkBsl sz b q x y H = some (C, H')) : LowAll lo H' := by
  unfold mkBsl at e
  rw [Option.bind_eq_some_iff] at e
  obtain ⟨_, _, e⟩ := e
  split at e
  · exact mkRow_low h e
  rw [Option.bind_eq_some_iff] at e
  obtain ⟨_, _, e⟩ := e
  split at e
  · cases e; exact h.push _
  · cases e

theorem fillRow_low {lo : List Nat} {H H' : Heap} {m r sz b : Nat} {q : List PV} {x y C : AV} (h : LowAll lo H) (e : fillRow m r sz b q x y H = some (C, H')) : LowAll lo H' := by
  unfold fillRow at e
  rw [Option.bind_eq_some_iff] at e
  obtain ⟨l, h1, e⟩ := e
  rw [Option.bind_eq_some_iff] at e
  obtain ⟨c, h2, e⟩ := e
  split at e
  · rename_i ho
    split at e
    · cases e
      generalize H.length - m + r = id at *
      intro l hl
      obtain ⟨h1, h2⟩ := h l hl
      refine ⟨by simpa using h1, fun i o hi ho' => ?_⟩
      by_cases e : id = i
      · subst e
        rw [List.getElem?_set_self (getElem?_lt ho)] at ho'
        cases ho'
        exact trivial
      · rw [List.getElem?_set_ne e] at ho'
        exact h2 i o hi ho'
    · cases e
  · cases e

theorem stX_low {lo : List Nat} {H H' : Heap} {n : Nat} {p y : AV} (h : LowAll lo H) (e : stX n p y lo H = some H') : LowAll lo H' := by
  unfold stX at e
  split at e
  · split at e
    · exact stA_low h e
    · cases e
  · cases e

theorem stZ_low {lo : List Nat} {H H' : Heap} {n : Nat} {p y : AV} (h : LowAll lo H) (e : stZ n p y lo H = some H') : LowAll lo H' := by
  unfold stZ at e
  split at e
  · exact stA_low h e
  · cases e

theorem litA_low {lo : List Nat} {H H' : Heap} {own : Bool} {sz : Nat} {ps : List AV} {C : AV} (h : LowAll lo H) (e : litA own sz ps H = some (C, H')) : LowAll lo H' := by
  unfold litA at e
  split at e
  · rw [Option.bind_eq_some_iff] at e
    obtain ⟨⟨q, H1⟩, e1, e⟩ := e
    have h1 := toPVs_low _ _ _ _ h e1
    split at e
    · cases e; exact h1.push _
    · cases e; exact h1
  · cases e

theorem litB_low {lo : List Nat} {H H' : Heap} {sz : Nat} {ps : List AV} {C : AV} (h : LowAll lo H) (e : litB sz ps H = some (C, H')) : LowAll lo H' := by
  unfold litB at e
  split at e
  · cases e; exact h.push _
  · cases e

theorem ownCells_low {lo : List Nat} : ∀ (own : List (Nat × Nat)) (xs xs' : List AV) (H H' : Heap), LowAll lo H → ownCells own xs H = some (xs', H') → LowAll lo H' := by
  intro own
  induction own with
  | nil => intro xs xs' H H' h e; cases e; exact h
  | cons p own ih =>
    intro xs xs' H H' h e
    simp only [ownCells] at e
    split at e
    · exact ih _ _ _ _ (h.push _) e
    · cases e

theorem boxO_low {lo : List Nat} {H H' : Heap} {own : List (Nat × Nat)} {xs : List AV} {C : AV} (h : LowAll lo H) (e : boxO own xs H = some (C, H')) : LowAll lo H' := by
  unfold boxO at e
  split at e
  · split at e
    · cases e; exact h.push _
    · rw [Option.map_eq_some_iff] at e
      obtain ⟨⟨ys, H1⟩, e1, e⟩ := e
      cases e
      exact (ownCells_low _ _ _ _ _ h e1).push _
  · cases e

/-! ### Calls -/
/-- A call comes to a value: by its code, or by the model itself. -/
def CallOk (P : Program) (g : FuncId) (vs : Array Value) (w : World) (R : Value → World → Prop) : Prop :=
  ((∃ fn, P.funcs[g]? = some fn ∧ fn.body.isSome = true ∧ (fn.name == "runtime.NumGoroutine") = false) ∧ Calls P g vs w (fun e w' => ∃ v, e = .returned v ∧ R v w')) ∨
  (∃ v, (callFunc g vs).run P w = .ok (.value v) w ∧ R v w ∧ ((∃ b, v = .float .f64 b) ∨ ∃ n, v = .int .u64 n))

theorem CallOk.mono {P : Program} {g : FuncId} {vs : Array Value} {w : World} {R R' : Value → World → Prop} (h : CallOk P g vs w R) (hr : ∀ v w', R v w' → R' v w') : CallOk P g vs w R' := by
  rcases h with ⟨h1, h2⟩ | ⟨v, h1, h2, h3⟩
  · exact .inl ⟨h1, h2.mono fun e w' ⟨v, e1, e2⟩ => ⟨v, e1, hr v w' e2⟩⟩
  · exact .inr ⟨v, h1, hr _ _ h2, h3⟩

/-- What is told is no float and no unsigned number: then it is code. -/
theorem CallOk.code {P : Program} {g : FuncId} {vs : Array Value} {w : World} {R : Value → World → Prop} (h : CallOk P g vs w R) (hn : ∀ v w', R v w' → (∀ b, v ≠ .float .f64 b) ∧ ∀ n, v ≠ .int .u64 n) :
    (∃ fn, P.funcs[g]? = some fn ∧ fn.body.isSome = true ∧ (fn.name == "runtime.NumGoroutine") = false) ∧ Calls P g vs w (fun e w' => ∃ v, e = .returned v ∧ R v w') := by
  rcases h with h | ⟨v, h1, h2, ⟨b, h3⟩ | ⟨n, h3⟩⟩
  · exact h
  · exact ((hn v w h2).1 b h3).elim
  · exact ((hn v w h2).2 n h3).elim

/-- What an oracle's answer to a call promises. -/
def EntOk (P : Program) (O : Oracle) : Prop :=
  ∀ f args lo H rs H', O.ent f args lo H = some (rs, H') → ∀ (vs : Array Value) w β F, Inv H β F w → RAs H β F w vs.toList args → LowAll lo H →
    CallOk P f vs w (fun v w' => ∃ β' F', RA H' β' F' w' v (ret rs) ∧ Inv H' β' F' w' ∧ Ext H β F w H' β' F' w') ∧ LowAll lo H'

section
variable {P : Program} {H : Heap} {β : Beta} {F : Frz} {w : World}

/-- A call's arguments, seen as pure. -/
def PureAs (H : Heap) (β : Beta) (F : Frz) (w : World) (F1 : Frz) (br : Bool) : Prop :=
  (∀ b j, F b j → F1 b j) ∧ (∀ b j, F1 b j → F b j ∨ ∃ id s t, β id = some (b, s, t)) ∧ (∀ b j, F1 b j → ∃ v, w.cell? ⟨b, j, none⟩ = some v) ∧ (br = false → F1 = F)

theorem PureAs.refl (hI : Inv H β F w) : PureAs H β F w F false := ⟨fun _ _ h => h, fun _ _ h => .inl h, hI.fz, fun _ => rfl⟩

def orF (F G : Frz) : Frz := fun b j => F b j ∨ G b j

theorem RA.moreF {F' : Frz} {v : Value} {x : AV} (hF : ∀ b j, F b j → F' b j) (h : RA H β F w v x) : RA H β F' w v x := h.mono (Grow.refl _ _) hF fun _ _ _ => rfl

abbrev noB : Beta := fun _ => none

theorem pureLeaf_sound (hI : Inv H β F w) {x y : AV} {br : Bool} {v : Value} (h : pureLeaf H x = some (y, br)) (hx : RA H β F w v x) : ∃ F1, PureAs H β F w F1 br ∧ RA [] noB F1 w v y := by
  unfold pureLeaf at h
  split at h
  · cases h; exact ⟨F, .refl hI, hx.pure (.p _)⟩
  · cases h; exact ⟨F, .refl hI, hx.pure (.fp _ _)⟩
  · rename_i id g off n
    split at h
    · rename_i g' sz xs ho
      split at h
      · rename_i hc
        obtain ⟨rfl, hle⟩ := hc
        cases h
        cases hx with
        | row hl ho' hg hr =>
          rw [ho] at ho'
          cases ho'
          have hr' := hr rfl
          unfold RowAt at hr'
          split at hr'
          · rename_i hb
            obtain ⟨rfl, rfl, h3, a, rfl, hsp⟩ := hr'
            refine ⟨F, ⟨fun _ _ h => h, fun _ _ h => .inl h, hI.fz, fun e => by cases e⟩, .p ?_⟩
            simp only [Nat.zero_mul, List.take_zero]
            cases a with
            | none => exact .nil (by simp)
            | some A =>
              exact .emp (by simp)
          · rename_i b s t hb
            obtain ⟨A, cap, rfl, hA, h5, h6, h7⟩ := hr'
            rcases hI.obj id _ ho with ⟨_, k1⟩ | ⟨b', s', t'', c, e, k1, k2, k3, k4, k5⟩
            · rw [hb] at k1; cases k1
            · rw [hb] at k1
              cases k1
              refine ⟨fun b' j => F b' j ∨ (b' = b ∧ s ≤ j ∧ j < s + xs.length), ⟨fun _ _ h => .inl h, fun b' j h => h.imp (fun x => x) fun ⟨e, _⟩ => ⟨id, s, t, by rw [e]; exact hb⟩, fun b' j hj => ?_, fun e => by cases e⟩, .p ?_⟩
              · rcases hj with hj | ⟨rfl, h8, h9⟩
                · exact hI.fz _ _ hj
                · exact ⟨_, cell_in k2 (by omega)⟩
              · rcases hA with rfl | ⟨rfl, rfl, hsp⟩
                · refine .sl (fun i => c.getD (s + off + i) undef) (by simp) h5 (by simp) (fun i hi => ?_) (fun i hi => ?_)
                  · have hi' : i < n * sz := by simp at hi; omega
                    exact ⟨.inr ⟨rfl, by omega, by omega⟩, cell_in k2 (by omega)⟩
                  · have hi' : i < n * sz := by simp at hi; omega
                    simp only [List.getElem_take, List.getElem_drop]
                    have := (k5 (off + i) (by omega)).mono (F' := fun b' j => F b' j ∨ (b' = b ∧ s ≤ j ∧ j < s + xs.length)) (w' := w) (fun _ _ h => .inl h) (fun _ _ _ => rfl)
                    rwa [← Nat.add_assoc] at this
                · simp only [Nat.zero_mul, List.take_zero]
                  exact .emp (by simp)
      · cases h
    · cases h
  · split at h
    · rename_i f a c hc
      cases h
      rw [Bool.and_eq_true] at hc
      exact ⟨F, .refl hI, hx.pure (.fn (fun x hx => lt_sound 0 6 x (List.all_eq_true.mp hc.1 x hx)) (fun x hx => lt_sound 0 6 x (List.all_eq_true.mp hc.2 x hx)))⟩
    · cases h
  · cases h

theorem PureAs.or {F1 F2 : Frz} {b1 b2 : Bool} (h1 : PureAs H β F w F1 b1) (h2 : PureAs H β F w F2 b2) : PureAs H β F w (orF F1 F2) (b1 || b2) := by
  refine ⟨fun b j h => .inl (h1.1 b j h), fun b j h => h.elim (h1.2.1 b j) (h2.2.1 b j), fun b j h => h.elim (h1.2.2.1 b j) (h2.2.2.1 b j), fun e => ?_⟩
  rw [Bool.or_eq_false_iff] at e
  rw [h1.2.2.2 e.1, h2.2.2.2 e.2]
  funext b j
  exact propext ⟨fun h => h.elim (fun x => x) (fun x => x), .inl⟩

theorem pureLeaves_sound (hI : Inv H β F w) : ∀ (xs ys : List AV) (br : Bool) (vs : List Value), pureLeaves H xs = some (ys, br) → RAs H β F w vs xs → ∃ F1, PureAs H β F w F1 br ∧ RAs [] noB F1 w vs ys := by
  intro xs
  induction xs with
  | nil => intro ys br vs h hv; cases h; cases hv; exact ⟨F, .refl hI, .nil⟩
  | cons x xs ih =>
    intro ys br vs h hv
    cases hv with
    | cons hx hv =>
      simp only [pureLeaves, Option.bind_eq_some_iff] at h
      obtain ⟨⟨y, b1⟩, h1, h⟩ := h
      rw [Option.map_eq_some_iff] at h
      obtain ⟨⟨zs, b2⟩, h2, h⟩ := h
      cases h
      obtain ⟨F1, p1, r1⟩ := pureLeaf_sound hI h1 hx
      obtain ⟨F2, p2, r2⟩ := ih _ _ _ h2 hv
      exact ⟨orF F1 F2, p1.or p2, .cons (r1.moreF fun _ _ h => .inl h) (r2.mono fun _ _ h => h.moreF fun _ _ h => .inr h)⟩

theorem RAs.row {cs : Array Value} {xs : List AV} (h : RAs H β F w cs.toList xs) : RowA H β F w cs xs := by
  obtain ⟨l⟩ := cs
  simp only at h
  induction h with
  | nil => exact ⟨rfl, fun i hi => by simp at hi⟩
  | @cons v x vs xs h _ ih =>
    refine ⟨by have := ih.1; simp at this ⊢; exact this, fun i hi => ?_⟩
    cases i with
    | zero => simpa [Array.getD] using h
    | succ i =>
      have := ih.2 i (by simpa using hi)
      simpa [Array.getD] using this

theorem pureArg_sound (hI : Inv H β F w) {x y : AV} {br : Bool} {v : Value} (h : pureArg H x = some (y, br)) (hx : RA H β F w v x) : ∃ F1, PureAs H β F w F1 br ∧ RA [] noB F1 w v y := by
  unfold pureArg at h
  split at h
  · rename_i xs
    rw [Option.map_eq_some_iff] at h
    obtain ⟨⟨ys, b⟩, h1, h⟩ := h
    cases h
    cases hx with
    | @agg cs _ k1 k2 =>
      obtain ⟨F1, p1, r1⟩ := pureLeaves_sound hI _ _ _ _ h1 (RowA.list ⟨k1, k2⟩)
      exact ⟨F1, p1, r1.row.agg⟩
  · exact pureLeaf_sound hI h hx

theorem pureArgs_sound (hI : Inv H β F w) : ∀ (xs ys : List AV) (br : Bool) (vs : List Value), pureArgs H xs = some (ys, br) → RAs H β F w vs xs → ∃ F1, PureAs H β F w F1 br ∧ RAs [] noB F1 w vs ys := by
  intro xs
  induction xs with
  | nil => intro ys br vs h hv; cases h; cases hv; exact ⟨F, .refl hI, .nil⟩
  | cons x xs ih =>
    intro ys br vs h hv
    cases hv with
    | cons hx hv =>
      simp only [pureArgs, Option.bind_eq_some_iff] at h
      obtain ⟨⟨y, b1⟩, h1, h⟩ := h
      rw [Option.map_eq_some_iff] at h
      obtain ⟨⟨zs, b2⟩, h2, h⟩ := h
      cases h
      obtain ⟨F1, p1, r1⟩ := pureArg_sound hI h1 hx
      obtain ⟨F2, p2, r2⟩ := ih _ _ _ h2 hv
      exact ⟨orF F1 F2, p1.or p2, .cons (r1.moreF fun _ _ h => .inl h) (r2.mono fun _ _ h => h.moreF fun _ _ h => .inr h)⟩

theorem scalarLeaf_any {F' : Frz} {w' : World} {v : Value} {x : AV} (hx : scalarLeaf x = true) (h : RA H β F w v x) : RA H β F' w' v x := by
  unfold scalarLeaf at hx
  split at hx
  · obtain ⟨rfl, hl⟩ := h.v_inv
    exact .of_leafy hl
  · cases hx

theorem scalar_any {F' : Frz} {w' : World} {v : Value} {x : AV} (hx : scalarA x = true) (h : RA H β F w v x) : RA H β F' w' v x := by
  unfold scalarA at hx
  split at hx
  · rename_i xs
    cases h with
    | agg h1 h2 => exact .agg h1 fun i hi => scalarLeaf_any (List.all_eq_true.mp hx _ (List.getElem_mem hi)) (h2 i hi)
  · exact scalarLeaf_any hx h

theorem ret_cases (rs : List AV) : (∃ x, rs = [x] ∧ ret rs = x) ∨ ret rs = .tup rs := by
  match rs with
  | [] => exact .inr rfl
  | [x] => exact .inl ⟨x, rfl, rfl⟩
  | x :: y :: r => exact .inr rfl

theorem ret_lt {b : Nat} {rs : List AV} (h : rs.all (AV.ltd b) = true) : Lt b (ret rs) := by
  rw [List.all_eq_true] at h
  rcases ret_cases rs with ⟨x, rfl, e⟩ | e
  · rw [e]; exact lt_sound b 6 x (h x (by simp))
  · rw [e]; exact .tup fun x hx => lt_sound b 6 x (h x hx)

theorem ret_scalar {F' : Frz} {w' : World} {v : Value} {rs : List AV} (h : rs.all scalarA = true) (hv : RA H β F w v (ret rs)) : RA H β F' w' v (ret rs) := by
  rw [List.all_eq_true] at h
  rcases ret_cases rs with ⟨x, rfl, e⟩ | e
  · rw [e] at hv ⊢; exact scalar_any (h x (by simp)) hv
  · rw [e] at hv ⊢
    cases hv with
    | tup h1 h2 => exact .tup h1 fun i hi => scalar_any (h _ (List.getElem_mem hi)) (h2 i hi)

/-- A call that the abstract machine makes. -/
theorem frzLeaf_sound {H : Heap} {β : Beta} {F : Frz} {w : World} {lo : List Nat} (hI : Inv H β F w) (hl : LowAll lo H) {x y : AV} {v : Value} {H' : Heap} (h : frzLeaf H x = some (y, H')) (hx : RA H β F w v x) :
    ∃ β' F', RA H' β' F' w v y ∧ Inv H' β' F' w ∧ Ext H β F w H' β' F' w ∧ LowAll lo H' := by
  unfold frzLeaf at h
  split at h
  · rw [Option.map_eq_some_iff] at h
    obtain ⟨⟨z, H1⟩, h1, h⟩ := h
    cases h
    obtain ⟨β', F', r1, r2, r3⟩ := toPV_sound hI h1 hx
    exact ⟨β', F', .p r1, r2, r3, toPV_low hl h1⟩
  · rw [Option.map_eq_some_iff] at h
    obtain ⟨⟨z, H1⟩, h1, h⟩ := h
    cases h
    obtain ⟨β', F', r1, r2, r3⟩ := frzBox_sound hI h1 hx
    exact ⟨β', F', .p r1, r2, r3, frzBox_low hl h1⟩
  · cases h
    exact ⟨β, F, hx, hI, Ext.refl _ _ _ _, hl⟩

theorem frzLeaves_sound {w : World} {lo : List Nat} : ∀ (xs ys : List AV) (vs : List Value) (H : Heap) (β : Beta) (F : Frz) (H' : Heap), Inv H β F w → LowAll lo H → frzLeaves H xs = some (ys, H') → RAs H β F w vs xs →
    ∃ β' F', RAs H' β' F' w vs ys ∧ Inv H' β' F' w ∧ Ext H β F w H' β' F' w ∧ LowAll lo H' := by
  intro xs
  induction xs with
  | nil => intro ys vs H β F H' hI hl h hv; cases h; exact ⟨β, F, hv, hI, Ext.refl _ _ _ _, hl⟩
  | cons x xs ih =>
    intro ys vs H β F H' hI hl h hv
    cases hv with
    | cons hx hv =>
      simp only [frzLeaves, Option.bind_eq_some_iff] at h
      obtain ⟨⟨y, H1⟩, h1, h⟩ := h
      rw [Option.map_eq_some_iff] at h
      obtain ⟨⟨zs, H2⟩, h2, h⟩ := h
      cases h
      obtain ⟨β1, F1, r1, i1, e1, l1⟩ := frzLeaf_sound hI hl h1 hx
      obtain ⟨β2, F2, r2, i2, e2, l2⟩ := ih _ _ _ _ _ _ i1 l1 h2 (hv.mono fun _ _ h => h.ext hI e1)
      exact ⟨β2, F2, .cons (r1.ext i1 e2) r2, i2, e1.trans e2, l2⟩

theorem frzA_sound {H : Heap} {β : Beta} {F : Frz} {w : World} {lo : List Nat} (hI : Inv H β F w) (hl : LowAll lo H) {x y : AV} {v : Value} {H' : Heap} (h : frzA H x = some (y, H')) (hx : RA H β F w v x) :
    ∃ β' F', RA H' β' F' w v y ∧ Inv H' β' F' w ∧ Ext H β F w H' β' F' w ∧ LowAll lo H' := by
  unfold frzA at h
  split at h
  · rw [Option.map_eq_some_iff] at h
    obtain ⟨⟨z, H1⟩, h1, h⟩ := h
    cases h
    cases hx with
    | @agg cs _ k1 k2 =>
      obtain ⟨β', F', r1, r2, r3, r4⟩ := frzLeaves_sound _ _ _ _ _ _ _ hI hl h1 (RowA.list ⟨k1, k2⟩)
      exact ⟨β', F', r1.row.agg, r2, r3, r4⟩
  · exact frzLeaf_sound hI hl h hx

theorem frzAll_sound {w : World} {lo : List Nat} : ∀ (xs ys : List AV) (vs : List Value) (H : Heap) (β : Beta) (F : Frz) (H' : Heap), Inv H β F w → LowAll lo H → frzAll H xs = some (ys, H') → RAs H β F w vs xs →
    ∃ β' F', RAs H' β' F' w vs ys ∧ Inv H' β' F' w ∧ Ext H β F w H' β' F' w ∧ LowAll lo H' := by
  intro xs
  induction xs with
  | nil => intro ys vs H β F H' hI hl h hv; cases h; exact ⟨β, F, hv, hI, Ext.refl _ _ _ _, hl⟩
  | cons x xs ih =>
    intro ys vs H β F H' hI hl h hv
    cases hv with
    | cons hx hv =>
      simp only [frzAll, Option.bind_eq_some_iff] at h
      obtain ⟨⟨y, H1⟩, h1, h⟩ := h
      rw [Option.map_eq_some_iff] at h
      obtain ⟨⟨zs, H2⟩, h2, h⟩ := h
      cases h
      obtain ⟨β1, F1, r1, i1, e1, l1⟩ := frzA_sound hI hl h1 hx
      obtain ⟨β2, F2, r2, i2, e2, l2⟩ := ih _ _ _ _ _ _ i1 l1 h2 (hv.mono fun _ _ h => h.ext hI e1)
      exact ⟨β2, F2, .cons (r1.ext i1 e2) r2, i2, e1.trans e2, l2⟩

theorem lastH_out {O : Oracle} {g : FuncId} {args : List AV} {lo : List Nat} {H : Heap} {zs : List PV} {rs : List AV} {H' H2 : Heap} {v : AV} (h : lastH O g args lo H zs rs H' = some (v, H2)) : v = ret rs ∧ H2 = H' := by
  unfold lastH at h
  split at h
  · split at h
    · rw [Option.bind_eq_some_iff] at h
      obtain ⟨r, _, h⟩ := h
      split at h
      · cases h; exact ⟨rfl, rfl⟩
      · cases h
    · split at h
      · cases h
      · cases h; exact ⟨rfl, rfl⟩
  · cases h
theorem holeH_out {O : Oracle} {g : FuncId} {args : List AV} {lo : List Nat} {H : Heap} {zs : List PV} {rs : List AV} {H' H2 : Heap} {v : AV} (h : holeH O g args lo H zs rs H' = some (v, H2)) : v = ret rs ∧ H2 = H' := by
  unfold holeH at h
  split at h
  · rw [Option.bind_eq_some_iff] at h
    obtain ⟨r, _, h⟩ := h
    split at h
    · cases h; exact ⟨rfl, rfl⟩
    · cases h
  · split at h
    · cases h; exact ⟨rfl, rfl⟩
    · cases h

theorem callA_sound {cfg : Cfg} {O : Oracle} (hO : EntOk P O) (hI : Inv H β F w) {g : FuncId} {args : List AV} {lo : List Nat} {C : AV} {H' : Heap} {vs : Array Value} (h : callA cfg O g args lo H = some (C, H')) (hv : RAs H β F w vs.toList args) (hlo : LowAll lo H) :
    CallOk P g vs w (fun v w' => ∃ β' F', RA H' β' F' w' v C ∧ Inv H' β' F' w' ∧ Ext H β F w H' β' F' w') ∧ LowAll lo H' := by
  unfold callA at h
  split at h
  · rw [Option.bind_eq_some_iff] at h
    obtain ⟨⟨args', br⟩, h1, h⟩ := h
    rw [Option.bind_eq_some_iff] at h
    obtain ⟨⟨rs, H1⟩, h2, h⟩ := h
    simp only at h h2
    split at h
    · rename_i hc
      cases h
      obtain ⟨F1, ⟨p1, p2, p3, p4⟩, r1⟩ := pureArgs_sound hI _ _ _ _ h1 hv
      have hI0 : Inv [] noB F1 w := ⟨fun id o ho => by simp at ho, fun _ _ _ _ _ _ _ _ e _ => (by cases e), fun _ _ => rfl, p3, fun _ _ _ _ _ e => (by cases e), fun b j v e => ⟨p1 _ _ (hI.kn b j v e).1, (hI.kn b j v e).2⟩⟩
      obtain ⟨k2, k3⟩ := hO _ _ _ _ _ _ h2 vs w noB F1 hI0 r1 (fun l hl => by simp at hl)
      rw [Bool.and_eq_true] at hc
      refine ⟨k2.mono fun v w' hr => ?_, hlo⟩
      obtain ⟨β', F', q1, q2, q3⟩ := hr
      have hT : Touch w w' (fun _ => False) := ⟨q3.os, q3.tape, q3.output, q3.size, q3.drawn, fun k hk _ => q3.block k hk fun _ _ _ e => by cases e⟩
      have q4 := q1.pure (H' := H) (β' := β) (ret_lt hc.1)
      cases br with
      | false =>
        have e1 := p4 rfl
        subst e1
        obtain ⟨i1, i2⟩ := hI.frozen (F' := F') hT q3.fz (fun b j hj => by
          rcases q3.fn b j hj with h | h | ⟨_, _, _, h⟩
          · exact .inl h
          · exact .inr h
          · cases h) q2.fz
        exact ⟨β, F', q4, i1, i2⟩
      | true =>
        obtain ⟨i1, i2⟩ := hI.same hT
        exact ⟨β, F, ret_scalar (by simpa using hc.2) q4, i1, i2⟩
    · cases h
  · rw [Option.bind_eq_some_iff] at h
    obtain ⟨⟨rs, H1⟩, h1, h⟩ := h
    unfold sameH at h
    split at h
    · rename_i hs
      cases h
      simp only at hs
      subst hs
      exact hO _ _ _ _ _ _ h1 vs w β F hI hv hlo
    · cases h
  · rw [Option.bind_eq_some_iff] at h
    obtain ⟨⟨rs, H1⟩, h1, h⟩ := h
    unfold oneH at h
    split at h
    · cases h
      exact hO _ _ _ _ _ _ h1 vs w β F hI hv hlo
    · cases h
  · rw [Option.bind_eq_some_iff] at h
    obtain ⟨⟨rs, H1⟩, h1, h⟩ := h
    unfold rowsH at h
    split at h
    · cases h
      exact hO _ _ _ _ _ _ h1 vs w β F hI hv hlo
    · cases h
  · rw [Option.bind_eq_some_iff] at h
    obtain ⟨⟨rs, H1⟩, h1, h⟩ := h
    rw [Option.bind_eq_some_iff] at h
    obtain ⟨_, _, h⟩ := h
    obtain ⟨rfl, rfl⟩ := holeH_out h
    exact hO _ _ _ _ _ _ h1 vs w β F hI hv hlo
  · rw [Option.bind_eq_some_iff] at h
    obtain ⟨⟨rs, H1⟩, h1, h⟩ := h
    unfold boolsH at h
    split at h
    · cases h
      exact hO _ _ _ _ _ _ h1 vs w β F hI hv hlo
    · cases h
  · rw [Option.bind_eq_some_iff] at h
    obtain ⟨⟨rs, H1⟩, h1, h⟩ := h
    rw [Option.bind_eq_some_iff] at h
    obtain ⟨_, _, h⟩ := h
    obtain ⟨rfl, rfl⟩ := lastH_out h
    exact hO _ _ _ _ _ _ h1 vs w β F hI hv hlo
  · rw [Option.bind_eq_some_iff] at h
    obtain ⟨⟨ys, H1⟩, h1, h⟩ := h
    simp only at h
    split at h
    · rename_i hp
      rw [Option.bind_eq_some_iff] at h
      obtain ⟨⟨rs, H2⟩, h2, h⟩ := h
      simp only at h
      split at h
      · rename_i hc
        cases h
        obtain ⟨β1, F1, r1, i1, e1, l1⟩ := frzAll_sound _ _ _ _ _ _ _ hI hlo h1 hv
        have r0 : RAs [] noB F1 w vs.toList ys := by
          clear h1 h2 hv
          generalize vs.toList = l at r1
          induction r1 with
          | nil => exact .nil
          | cons h _ ih =>
            rw [List.all_cons, Bool.and_eq_true] at hp
            exact .cons (h.pure (lt_sound 0 6 _ hp.1)) (ih hp.2)
        have hI0 : Inv [] noB F1 w := ⟨fun id o ho => by simp at ho, fun _ _ _ _ _ _ _ _ e _ => (by cases e), fun _ _ => rfl, i1.fz, fun _ _ _ _ _ e => (by cases e), i1.kn⟩
        obtain ⟨k2, k3⟩ := hO _ _ _ _ _ _ h2 vs w noB F1 hI0 r0 (fun l hl => by simp at hl)
        refine ⟨k2.mono fun v w' hr => ?_, l1⟩
        obtain ⟨β', F', q1, q2, q3⟩ := hr
        have hT : Touch w w' (fun _ => False) := ⟨q3.os, q3.tape, q3.output, q3.size, q3.drawn, fun k hk _ => q3.block k hk fun _ _ _ e => by cases e⟩
        obtain ⟨j1, j2⟩ := i1.frozen (F' := F') hT q3.fz (fun b j hj => by
          rcases q3.fn b j hj with h | h | ⟨_, _, _, h⟩
          · exact .inl h
          · exact .inr h
          · cases h) q2.fz
        exact ⟨β1, F', q1.pure (ret_lt hc), j1, e1.trans j2⟩
      · cases h
    · cases h
  · rw [Option.map_eq_some_iff] at h
    obtain ⟨⟨rs, H1⟩, h1, h⟩ := h
    cases h
    exact hO _ _ _ _ _ _ h1 vs w β F hI hv hlo

theorem callP_sound {O : Oracle} (hO : EntOk P O) (hI : Inv H β F w) {g : FuncId} {args : List AV} {C : AV} {vs : Array Value} (h : callP O g args = some C) (hv : RAs H β F w vs.toList args) :
    CallOk P g vs w (fun v w' => ∃ β' F', RA H β' F' w' v C ∧ Inv H β' F' w' ∧ Ext H β F w H β' F' w') := by
  unfold callP at h
  split at h
  · rename_i hp
    rw [Option.bind_eq_some_iff] at h
    obtain ⟨⟨rs, H1⟩, h1, h⟩ := h
    rw [Option.bind_eq_some_iff] at h
    obtain ⟨⟨ys, H2⟩, h2, h⟩ := h
    simp only at h h2
    split at h
    · rename_i hc
      cases h
      have r0 : RAs [] noB F w vs.toList args := by
        clear h1
        generalize vs.toList = l at hv
        induction hv with
        | nil => exact .nil
        | cons h _ ih =>
          rw [List.all_cons, Bool.and_eq_true] at hp
          exact .cons (h.pure (lt_sound 0 6 _ hp.1)) (ih hp.2)
      have hI0 : Inv [] noB F w := ⟨fun id o ho => by simp at ho, fun _ _ _ _ _ _ _ _ e _ => (by cases e), fun _ _ => rfl, hI.fz, fun _ _ _ _ _ e => (by cases e), hI.kn⟩
      obtain ⟨k2, k3⟩ := hO _ _ _ _ _ _ h1 vs w noB F hI0 r0 (fun l hl => by simp at hl)
      refine k2.mono fun v w' hr => ?_
      obtain ⟨β1, F1, q1, i1, e1⟩ := hr
      have hz : ∃ β2 F2, RA H2 β2 F2 w' v (ret ys) ∧ Inv H2 β2 F2 w' ∧ Ext H1 β1 F1 w' H2 β2 F2 w' := by
        rcases ret_cases rs with ⟨x, rfl, e⟩ | e
        · rw [e] at q1
          obtain ⟨β2, F2, r2, i2, e2, _⟩ := frzAll_sound _ _ _ _ _ _ _ i1 k3 h2 (RAs.cons q1 .nil)
          cases r2 with
          | cons r2 r3 => cases r3; exact ⟨β2, F2, r2, i2, e2⟩
        · rw [e] at q1
          cases q1 with
          | @tup cs _ t1 t2 =>
            obtain ⟨β2, F2, r2, i2, e2, _⟩ := frzAll_sound _ _ _ _ _ _ _ i1 k3 h2 (RowA.list ⟨t1, t2⟩)
            have hl : ys.length = rs.length := by
              have a1 := r2.pick.1
              have a2 := (RowA.list ⟨t1, t2⟩).pick.1
              omega
            have hy : ret ys = .tup ys := by
              rcases ret_cases ys with ⟨y, rfl, _⟩ | e'
              · exfalso
                match rs, hl, e with
                | [x], _, e => cases e
              · exact e'
            rw [hy]
            exact ⟨β2, F2, .tup r2.row.1 r2.row.2, i2, e2⟩
      obtain ⟨β2, F2, r2, i2, e2⟩ := hz
      have q3 := e1.trans e2
      have hT : Touch w w' (fun _ => False) := ⟨q3.os, q3.tape, q3.output, q3.size, q3.drawn, fun k hk _ => q3.block k hk fun _ _ _ e => by cases e⟩
      obtain ⟨j1, j2⟩ := hI.frozen (F' := F2) hT q3.fz (fun b j hj => by
        rcases q3.fn b j hj with h | h | ⟨_, _, _, h⟩
        · exact .inl h
        · exact .inr h
        · cases h) i2.fz
      exact ⟨β, F2, r2.pure (H' := H) (β' := β) (ret_lt hc), j1, j2⟩
    · cases h
  · cases h

end
end Go.AM
