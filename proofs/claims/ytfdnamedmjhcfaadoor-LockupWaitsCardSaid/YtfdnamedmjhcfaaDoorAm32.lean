/-
Maps whose values are lists under way: looked up, appended to, struck.
-/
import Derived.Test.YtfdnamedmjhcfaaDoorAm30
set_option linter.unusedVariables false
set_option linter.unusedSimpArgs false
set_option linter.unusedSectionVars false
namespace Go.AM

section
variable {κ : Type} [DecidableEq κ] {ty : Ty} {enc : κ → AV}

/-- An entry: its key, its list, its stamp, what the list holds. -/
abbrev En (κ : Type) := κ × AV × Nat × List Int
def kvE (es : List (En κ)) : List (Kv κ) := es.map fun e => (e.1, e.2.1, e.2.2.1)
def enL (e : En κ) : Ll := (e.2.1, 1, e.2.2.2.length, e.2.2.2.map Ia)
def llE (es : List (En κ)) : List Ll := es.map enL
def findE (es : List (En κ)) (k : κ) : Option (En κ) := es.find? fun e => decide (e.1 = k)
def cont (es : List (En κ)) (k : κ) : List Int := ((findE es k).map fun e => e.2.2.2).getD []

theorem get_kvE (es : List (En κ)) (k : κ) : aget (kvE es) k = (findE es k).map fun e => e.2.1 := by
  induction es with
  | nil => rfl
  | cons e es ih =>
    show aget ((e.1, e.2.1, e.2.2.1) :: kvE es) k = _
    rw [aget_cons, ih]
    unfold findE
    rw [List.find?_cons]
    by_cases h : e.1 = k <;> simp [h]

theorem findE_some {es : List (En κ)} {k : κ} {e : En κ} (h : findE es k = some e) : e.1 = k ∧ ∃ a b, es = a ++ e :: b ∧ ∀ x ∈ a, x.1 ≠ k := by
  obtain ⟨h1, a, b, h2, h3⟩ := List.find?_eq_some_iff_append.mp h
  refine ⟨by simpa using h1, a, b, h2, fun x hx => by simpa using h3 x hx⟩

theorem cont_none {es : List (En κ)} {k : κ} (h : findE es k = none) : cont es k = [] := by unfold cont; rw [h]; rfl
theorem cont_some {es : List (En κ)} {k : κ} {e : En κ} (h : findE es k = some e) : cont es k = e.2.2.2 := by unfold cont; rw [h]; rfl

theorem cont_cons (e : En κ) (es : List (En κ)) (k : κ) : cont (e :: es) k = if e.1 = k then e.2.2.2 else cont es k := by
  unfold cont findE
  rw [List.find?_cons]
  by_cases h : e.1 = k <;> simp [h]
theorem cont_nil (k : κ) : cont ([] : List (En κ)) k = [] := rfl
theorem cont_app (a b : List (En κ)) (k : κ) : cont (a ++ b) k = if k ∈ a.map (fun e => e.1) then cont a k else cont b k := by
  induction a with
  | nil => simp
  | cons e a ih =>
    rw [List.cons_append, cont_cons, cont_cons, ih, List.map_cons]
    by_cases h : e.1 = k
    · simp [h]
    · have h' : ¬ k = e.1 := fun q => h q.symm
      by_cases h2 : k ∈ a.map (fun e => e.1)
      · rw [if_neg h, if_pos h2, if_pos (List.mem_cons_of_mem _ h2), if_neg h]
      · rw [if_neg h, if_neg h2, if_neg (by simp only [List.mem_cons, not_or]; exact ⟨h', h2⟩)]

variable {H : Heap} {fx : List (Nat × AObj)} {l1 l2 : List Ll} {es : List (En κ)} {c id : Nat}

/-- What a key leads to. -/
theorem mlLook (K : KeyEnc ty enc) (h : H[id]? = some (mapObj enc (kvE es) c)) (k : κ) : ∃ o, lookA ty (.p nilS) false (.mp id) (enc k) H = some o ∧ ((o, 1, (cont es k).length, (cont es k).map Ia) ∈ llE es ∨ (o = .p nilS ∧ cont es k = [])) := by
  rw [map_look K h, get_kvE]
  cases hf : findE es k with
  | none => exact ⟨_, rfl, .inr ⟨rfl, cont_none hf⟩⟩
  | some e =>
    refine ⟨_, rfl, .inl ?_⟩
    rw [cont_some hf]
    obtain ⟨_, a, b, h2, _⟩ := findE_some hf
    exact List.mem_map.mpr ⟨e, by rw [h2]; simp, rfl⟩

theorem keys_kvE (es : List (En κ)) : (kvE es).map (fun p => p.1) = es.map fun e => e.1 := by
  unfold kvE; rw [List.map_map]; rfl

theorem put_mid {a b : List (En κ)} {e : En κ} {v : AV} {z : List Int} {c : Nat} (hw : ((kvE (a ++ e :: b)).map fun p => p.1).Nodup) : aput (kvE (a ++ e :: b)) e.1 v c = kvE (a ++ (e.1, v, e.2.2.1, z) :: b) := by
  have hs : (aget (kvE (a ++ e :: b)) e.1).isSome = true := by rw [aget_isSome, keys_kvE]; simp
  unfold aput
  rw [if_pos hs]
  rw [keys_kvE, List.map_append, List.map_cons, List.nodup_append, List.nodup_cons] at hw
  unfold kvE
  rw [List.map_map, List.map_append, List.map_append, List.map_cons, List.map_cons]
  congr 1
  · refine List.map_congr_left fun x hx => ?_
    have : x.1 ≠ e.1 := fun q => hw.2.2 x.1 (List.mem_map.mpr ⟨x, hx, rfl⟩) e.1 (by simp) q
    simp [this]
  · congr 1
    · simp
    · refine List.map_congr_left fun x hx => ?_
      have : x.1 ≠ e.1 := fun q => hw.2.1.1 (List.mem_map.mpr ⟨x, hx, q⟩)
      simp [this]

/-- 'm[k] = append(m[k], x)'. -/
theorem mlApp (K : KeyEnc ty enc) (h : Cx H ((id, mapObj enc (kvE es) c) :: fx) (l1 ++ llE es ++ l2)) (hd : ∀ q ∈ fx, q.1 ≠ id) (hw : WfM (kvE es) c) (k : κ) (x : Int) (hn : (cont es k).length < 2 ^ 40) :
    ∃ o o' H1 H2 es' c', lookA ty (.p nilS) false (.mp id) (enc k) H = some o ∧ appA 1 8 o (.p (.sl (some false) true 1 [Ia x])) H = some (o', H1) ∧ mapUpdA ty (.mp id) (enc k) o' [] H1 = some H2 ∧
      Cx H2 ((id, mapObj enc (kvE es') c') :: fx) (l1 ++ llE es' ++ l2) ∧ WfM (kvE es') c' ∧ ∀ t, cont es' t = if t = k then cont es k ++ [x] else cont es t := by
  have hM := h.at (id := id) (o := mapObj enc (kvE es) c) (by simp)
  have hl := map_look (z := .p nilS) K hM k
  rw [get_kvE] at hl
  have ok : ∀ y, okLevels [] id [enc k, y] = true := fun _ => rfl
  cases hf : findE es k with
  | none =>
    rw [hf] at hl
    have hc := cont_none hf
    have hs : aget (kvE es) k = none := by rw [get_kvE, hf]; rfl
    have h1 := (h.newNil 1)
    obtain ⟨o', H1, ea, h2, id', g', eo⟩ := Cx.app (bytes := 8) (y := .p (.sl (some false) true 1 [Ia x])) [] h1 (cells1 _ _) rfl (by omega) (by simp only [room]; omega)
    obtain ⟨c', H2, eu, h3, h4⟩ := Cx.mapPut K h2 hd hw k (ok o')
    have hput : aput (kvE es) k o' c = kvE (es ++ [(k, o', c, [x])]) := by
      unfold aput
      rw [if_neg (by rw [hs]; simp)]
      simp [kvE]
    rw [hput] at h3 h4
    refine ⟨_, o', H1, H2, es ++ [(k, o', c, [x])], c', hl, ea, eu, ?_, h4, fun t => ?_⟩
    · refine h3.perm ?_
      have e : llE (es ++ [(k, o', c, [x])]) = llE es ++ [(o', 1, 0 + 1, [] ++ [Ia x])] := by simp [llE, enL]
      rw [e]
      simp only [List.append_assoc, List.nil_append, List.singleton_append]
      rw [← List.append_assoc, ← List.append_assoc]
      exact (List.perm_middle (a := (o', 1, 0 + 1, [Ia x])) (l₁ := l1 ++ llE es) (l₂ := l2)).symm
    · rw [cont_app, cont_cons, cont_nil]
      have hk : k ∉ es.map (fun e => e.1) := by
        intro hm
        obtain ⟨e, he, q⟩ := List.mem_map.mp hm
        have := List.find?_eq_none.mp hf e he
        simp [q] at this
      by_cases ht : t = k
      · subst ht
        rw [if_neg hk, if_pos rfl, if_pos rfl, hc]
        rfl
      · have ht' : ¬ k = t := fun q => ht q.symm
        rw [if_neg ht, if_neg ht']
        split
        · rfl
        · rename_i hm
          have : findE es t = none := by
            unfold findE
            rw [List.find?_eq_none]
            intro e he
            have : e.1 ≠ t := fun q => hm (List.mem_map.mpr ⟨e, he, q⟩)
            simpa using this
          rw [cont_none this]
  | some e =>
    rw [hf] at hl
    obtain ⟨hk, a, b, he, hne⟩ := findE_some hf
    have hc := cont_some hf
    rw [hc] at hn
    have hsp : l1 ++ llE es ++ l2 = (l1 ++ llE a) ++ (e.2.1, 1, e.2.2.2.length, e.2.2.2.map Ia) :: (llE b ++ l2) := by
      rw [he]; simp [llE, enL]
    rw [hsp] at h
    obtain ⟨o', H1, ea, h2, id', g', eo⟩ := Cx.app (bytes := 8) (y := .p (.sl (some false) true 1 [Ia x])) (l1 ++ llE a) h (cells1 _ _) rfl (by omega) (by simp only [room]; omega)
    obtain ⟨c', H2, eu, h3, h4⟩ := Cx.mapPut K h2 hd hw k (ok o')
    have hput : aput (kvE es) k o' c = kvE (a ++ (e.1, o', e.2.2.1, e.2.2.2 ++ [x]) :: b) := by
      rw [he, ← hk]
      exact put_mid (by rw [← he]; exact hw.keys)
    rw [hput] at h3 h4
    refine ⟨_, o', H1, H2, a ++ (e.1, o', e.2.2.1, e.2.2.2 ++ [x]) :: b, c', hl, ea, eu, ?_, h4, fun t => ?_⟩
    · have e1 : l1 ++ llE (a ++ (e.1, o', e.2.2.1, e.2.2.2 ++ [x]) :: b) ++ l2 = (l1 ++ llE a) ++ (o', 1, e.2.2.2.length + 1, e.2.2.2.map Ia ++ [Ia x]) :: (llE b ++ l2) := by simp [llE, enL]
      rw [e1]; exact h3
    · rw [hc, he, cont_app, cont_app, cont_cons, cont_cons]
      have hka : k ∉ a.map (fun e => e.1) := by
        intro hm
        obtain ⟨x, hx, q⟩ := List.mem_map.mp hm
        exact hne x hx q
      by_cases ht : t = k
      · subst ht
        rw [if_neg hka, if_pos hk, if_pos rfl]
      · have ht' : ¬ e.1 = t := fun q => ht (by rw [← q, hk])
        rw [if_neg ht, if_neg ht', if_neg ht']

/-- 'delete(m, k)'. -/
theorem mlDel (K : KeyEnc ty enc) (h : Cx H ((id, mapObj enc (kvE es) c) :: fx) (l1 ++ llE es ++ l2)) (hd : ∀ q ∈ fx, q.1 ≠ id) (hw : WfM (kvE es) c) (k : κ) :
    ∃ H2 es', delA ty (.mp id) (enc k) H = some H2 ∧ Cx H2 ((id, mapObj enc (kvE es') c) :: fx) (l1 ++ llE es' ++ l2) ∧ WfM (kvE es') c ∧ ∀ t, cont es' t = if t = k then [] else cont es t := by
  have hM := h.at (id := id) (o := mapObj enc (kvE es) c) (by simp)
  have e1 : adel (kvE es) k = kvE (es.filter fun e => !decide (e.1 = k)) := by
    unfold adel kvE
    rw [List.filter_map]
    rfl
  refine ⟨_, es.filter fun e => !decide (e.1 = k), map_del K hM hw k, ?_, by rw [← e1]; exact hw.del k, fun t => ?_⟩
  · have h1 := h.setObj (o' := mapObj enc (adel (kvE es) k) c) hd rfl
    rw [e1] at h1 ⊢
    refine h1.mono (fun _ h => h) ?_
    exact ((List.Sublist.refl l1).append ((List.filter_sublist).map _)).append (List.Sublist.refl l2)
  · induction es with
    | nil => simp [cont_nil]
    | cons e es ih =>
      clear h hw hM e1
      rw [List.filter_cons]
      have ih' : cont (es.filter fun e => !decide (e.1 = k)) t = if t = k then [] else cont es t := by
        clear ih
        induction es with
        | nil => simp [cont_nil]
        | cons q es ih =>
          rw [List.filter_cons]
          by_cases hq : q.1 = k
          · simp only [hq, decide_true, Bool.not_true, Bool.false_eq_true, if_false, ih, cont_cons]
            by_cases ht : t = k
            · simp [ht]
            · have : ¬ k = t := fun e => ht e.symm
              simp [ht, this]
          · simp only [hq, decide_false, Bool.not_false, if_true, cont_cons, ih]
            by_cases ht : t = k
            · subst ht; simp [hq]
            · simp [ht]
      by_cases hq : e.1 = k
      · simp only [hq, decide_true, Bool.not_true, Bool.false_eq_true, if_false, ih', cont_cons]
        by_cases ht : t = k
        · simp [ht]
        · have : ¬ k = t := fun e => ht e.symm
          simp [ht, this]
      · simp only [hq, decide_false, Bool.not_false, if_true, cont_cons, ih']
        by_cases ht : t = k
        · subst ht; simp [hq]
        · simp [ht]
end
end Go.AM
