/-
Maps whose values are rows: appended to, and one element taken out.
-/
import Derived.Test.YtkhbbjfdbbnojaaAm32
import Derived.Test.YtkhbbjfdbbnojaaAm34
set_option linter.unusedVariables false
set_option linter.unusedSimpArgs false
set_option linter.unusedSectionVars false
namespace Go.AM

/-- A row becomes another one, of another length perhaps. -/
theorem Cx.newGen {sz m m' id g : Nat} {cs cs' : List PV} {H : Heap} {fx : List (Nat × AObj)} {l2 : List Ll} (l1 : List Ll) (h : Cx H fx (l1 ++ (.row id g 0 m, sz, m, cs) :: l2)) (hl' : cs'.length = m' * sz) :
    H[id]? = some (.row g sz cs) ∧ Cx (H.set id (.row (g + 1) sz cs')) fx (l1 ++ (.row id (g + 1) 0 m', sz, m', cs') :: l2) := by
  have hL : Lst sz (.row id g 0 m) H m cs := h.lst (.row id g 0 m, sz, m, cs) (by simp)
  have ho := hL.at
  have hlt := getElem?_lt ho
  have hs := sepAt h.sep
  refine ⟨ho, ⟨fun q hq => obj_keep hL Keeps.setRow (h.obj q hq), fun q hq => ?_, sepPut h.sep fun b hb => ?_⟩⟩
  · rcases mem_mid hq with e | e
    · subst e; exact Lst.row hl' (by rw [List.getElem?_set_self hlt])
    · exact (h.lst q (mem_of_mid e)).keep Keeps.setRow (hs q e)
  · intro j g' n g'' n'' e e'
    cases e
    exact hs b hb id g m g'' n'' rfl e'

section
variable {κ : Type} [DecidableEq κ] {ty : Ty} {enc : κ → AV} {H : Heap} {fx : List (Nat × AObj)} {l1 l2 : List Ll} {es : List (En κ)} {c id : Nat}

def RowsE (es : List (En κ)) : Prop := ∀ e ∈ es, ∃ i g, e.2.1 = .row i g 0 e.2.2.2.length

/-- 'm[k] = append(m[k], x)'. -/
theorem mlApp2 (K : KeyEnc ty enc) (h : Cx H ((id, mapObj enc (kvE es) c) :: fx) (l1 ++ llE es ++ l2)) (hd : ∀ q ∈ fx, q.1 ≠ id) (hw : WfM (kvE es) c) (k : κ) (x : Int) (hn : (cont es k).length < 2 ^ 40) (hr : RowsE es) :
    ∃ o o' H1 H2 es' c', lookA ty (.p nilS) false (.mp id) (enc k) H = some o ∧ appA 1 8 o (.p (.sl (some false) true 1 [Ia x])) H = some (o', H1) ∧ mapUpdA ty (.mp id) (enc k) o' [] H1 = some H2 ∧
      Cx H2 ((id, mapObj enc (kvE es') c') :: fx) (l1 ++ llE es' ++ l2) ∧ WfM (kvE es') c' ∧ RowsE es' ∧ ∀ t, cont es' t = if t = k then cont es k ++ [x] else cont es t := by
  have hM := h.at (id := id) (o := mapObj enc (kvE es) c) (by simp)
  have hl := map_look (z := .p nilS) K hM k
  rw [get_kvE] at hl
  have ok : ∀ y, okLevels [] id [enc k, y] = true := fun _ => rfl
  cases hf : findE es k with
  | none =>
    rw [hf] at hl
    have hc := cont_none hf
    have hs : aget (kvE es) k = none := by rw [get_kvE, hf]; rfl
    have h1 := (h.newNil 1)
    obtain ⟨o', H1, ea, h2, id', g', eo⟩ := Cx.app (bytes := 8) (y := .p (.sl (some false) true 1 [Ia x])) [] h1 (cells1 _ _) rfl (by omega) (by simp only [room]; omega)
    obtain ⟨c', H2, eu, h3, h4⟩ := Cx.mapPut K h2 hd hw k (ok o')
    have hput : aput (kvE es) k o' c = kvE (es ++ [(k, o', c, [x])]) := by
      unfold aput
      rw [if_neg (by rw [hs]; simp)]
      simp [kvE]
    rw [hput] at h3 h4
    refine ⟨_, o', H1, H2, es ++ [(k, o', c, [x])], c', hl, ea, eu, ?_, h4, fun q hq => ?_, fun t => ?_⟩
    · refine h3.perm ?_
      have e : llE (es ++ [(k, o', c, [x])]) = llE es ++ [(o', 1, 0 + 1, [] ++ [Ia x])] := by simp [llE, enL]
      rw [e]
      simp only [List.append_assoc, List.nil_append, List.singleton_append]
      rw [← List.append_assoc, ← List.append_assoc]
      exact (List.perm_middle (a := (o', 1, 0 + 1, [Ia x])) (l₁ := l1 ++ llE es) (l₂ := l2)).symm
    · rcases List.mem_append.mp hq with e | e
      · exact hr q e
      · simp only [List.mem_singleton] at e
        subst e
        exact ⟨_, _, eo⟩
    · rw [cont_app, cont_cons, cont_nil]
      have hk : k ∉ es.map (fun e => e.1) := by
        intro hm
        obtain ⟨e, he, q⟩ := List.mem_map.mp hm
        have := List.find?_eq_none.mp hf e he
        simp [q] at this
      by_cases ht : t = k
      · subst ht
        rw [if_neg hk, if_pos rfl, if_pos rfl, hc]
        rfl
      · have ht' : ¬ k = t := fun q => ht q.symm
        rw [if_neg ht, if_neg ht']
        split
        · rfl
        · rename_i hm
          have : findE es t = none := by
            unfold findE
            rw [List.find?_eq_none]
            intro e he
            have : e.1 ≠ t := fun q => hm (List.mem_map.mpr ⟨e, he, q⟩)
            simpa using this
          rw [cont_none this]
  | some e =>
    rw [hf] at hl
    obtain ⟨hk, a, b, he, hne⟩ := findE_some hf
    have hc := cont_some hf
    rw [hc] at hn
    have hsp : l1 ++ llE es ++ l2 = (l1 ++ llE a) ++ (e.2.1, 1, e.2.2.2.length, e.2.2.2.map Ia) :: (llE b ++ l2) := by
      rw [he]; simp [llE, enL]
    rw [hsp] at h
    obtain ⟨o', H1, ea, h2, id', g', eo⟩ := Cx.app (bytes := 8) (y := .p (.sl (some false) true 1 [Ia x])) (l1 ++ llE a) h (cells1 _ _) rfl (by omega) (by simp only [room]; omega)
    obtain ⟨c', H2, eu, h3, h4⟩ := Cx.mapPut K h2 hd hw k (ok o')
    have hput : aput (kvE es) k o' c = kvE (a ++ (e.1, o', e.2.2.1, e.2.2.2 ++ [x]) :: b) := by
      rw [he, ← hk]
      exact put_mid (by rw [← he]; exact hw.keys)
    rw [hput] at h3 h4
    refine ⟨_, o', H1, H2, a ++ (e.1, o', e.2.2.1, e.2.2.2 ++ [x]) :: b, c', hl, ea, eu, ?_, h4, fun q hq => ?_, fun t => ?_⟩
    · have e1 : l1 ++ llE (a ++ (e.1, o', e.2.2.1, e.2.2.2 ++ [x]) :: b) ++ l2 = (l1 ++ llE a) ++ (o', 1, e.2.2.2.length + 1, e.2.2.2.map Ia ++ [Ia x]) :: (llE b ++ l2) := by simp [llE, enL]
      rw [e1]; exact h3
    · rcases mem_mid hq with e1 | e1
      · subst e1
        exact ⟨id', g', by rw [eo]; simp⟩
      · exact hr q (by rw [he]; exact mem_of_mid e1)
    · rw [hc, he, cont_app, cont_app, cont_cons, cont_cons]
      have hka : k ∉ a.map (fun e => e.1) := by
        intro hm
        obtain ⟨x, hx, q⟩ := List.mem_map.mp hm
        exact hne x hx q
      by_cases ht : t = k
      · subst ht
        rw [if_neg hka, if_pos hk, if_pos rfl]
      · have ht' : ¬ e.1 = t := fun q => ht (by rw [← q, hk])
        rw [if_neg ht, if_neg ht', if_neg ht']


/-- 'm[k] = slices.Delete(m[k], i, i+1)'. -/
theorem mlCut (K : KeyEnc ty enc) (h : Cx H ((id, mapObj enc (kvE es) c) :: fx) (l1 ++ llE es ++ l2)) (hd : ∀ q ∈ fx, q.1 ≠ id) (hw : WfM (kvE es) c) (k : κ) {i : Nat} (hi : i < (cont es k).length) (hr : RowsE es) :
    ∃ j g H2 es' c', lookA ty (.p nilS) false (.mp id) (enc k) H = some (.row j g 0 (cont es k).length) ∧ H[j]? = some (.row g 1 ((cont es k).map Ia)) ∧
      mapUpdA ty (.mp id) (enc k) (.row j (g + 1) 0 ((cont es k).length - 1)) [] (H.set j (.row (g + 1) 1 (((cont es k).take i ++ (cont es k).drop (i + 1)).map Ia))) = some H2 ∧
      Cx H2 ((id, mapObj enc (kvE es') c') :: fx) (l1 ++ llE es' ++ l2) ∧ WfM (kvE es') c' ∧ RowsE es' ∧ ∀ t, cont es' t = if t = k then (cont es k).take i ++ (cont es k).drop (i + 1) else cont es t := by
  have hM := h.at (id := id) (o := mapObj enc (kvE es) c) (by simp)
  have hl := map_look (z := .p nilS) K hM k
  rw [get_kvE] at hl
  have ok : ∀ y, okLevels [] id [enc k, y] = true := fun _ => rfl
  cases hf : findE es k with
  | none =>
    rw [cont_none hf] at hi
    simp at hi
  | some e =>
    rw [hf] at hl
    obtain ⟨hk, a, b, he, hne⟩ := findE_some hf
    have hc := cont_some hf
    rw [hc] at hi
    obtain ⟨j, g, hrow⟩ := hr e (by rw [he]; simp)
    have hsp : l1 ++ llE es ++ l2 = (l1 ++ llE a) ++ (.row j g 0 e.2.2.2.length, 1, e.2.2.2.length, e.2.2.2.map Ia) :: (llE b ++ l2) := by
      rw [he, ← hrow]; simp [llE, enL]
    rw [hsp] at h
    obtain ⟨ho, h2⟩ := Cx.newGen (m' := e.2.2.2.length - 1) (cs' := (e.2.2.2.take i ++ e.2.2.2.drop (i + 1)).map Ia) (l1 ++ llE a) h (by simp; omega)
    obtain ⟨c', H2, eu, h3, h4⟩ := Cx.mapPut K h2 hd hw k (ok (.row j (g + 1) 0 (e.2.2.2.length - 1)))
    have hput : aput (kvE es) k (.row j (g + 1) 0 (e.2.2.2.length - 1)) c = kvE (a ++ (e.1, .row j (g + 1) 0 (e.2.2.2.length - 1), e.2.2.1, e.2.2.2.take i ++ e.2.2.2.drop (i + 1)) :: b) := by
      rw [he, ← hk]
      exact put_mid (by rw [← he]; exact hw.keys)
    rw [hput] at h3 h4
    have hzl : (e.2.2.2.take i ++ e.2.2.2.drop (i + 1)).length = e.2.2.2.length - 1 := by simp; omega
    rw [hc]
    refine ⟨j, g, H2, a ++ (e.1, .row j (g + 1) 0 (e.2.2.2.length - 1), e.2.2.1, e.2.2.2.take i ++ e.2.2.2.drop (i + 1)) :: b, c', ?_, ho, eu, ?_, h4, fun q hq => ?_, fun t => ?_⟩
    · rw [hl]; simp [hrow]
    · have e1 : l1 ++ llE (a ++ (e.1, .row j (g + 1) 0 (e.2.2.2.length - 1), e.2.2.1, e.2.2.2.take i ++ e.2.2.2.drop (i + 1)) :: b) ++ l2 = (l1 ++ llE a) ++ (.row j (g + 1) 0 (e.2.2.2.length - 1), 1, e.2.2.2.length - 1, (e.2.2.2.take i ++ e.2.2.2.drop (i + 1)).map Ia) :: (llE b ++ l2) := by
        simp only [llE, enL, List.map_append, List.map_cons, hzl, List.append_assoc, List.cons_append]
      rw [e1]; exact h3
    · rcases mem_mid hq with e1 | e1
      · subst e1
        exact ⟨j, g + 1, by rw [hzl]⟩
      · exact hr q (by rw [he]; exact mem_of_mid e1)
    · rw [he, cont_app, cont_app, cont_cons, cont_cons]
      have hka : k ∉ a.map (fun e => e.1) := by
        intro hm
        obtain ⟨x, hx, q⟩ := List.mem_map.mp hm
        exact hne x hx q
      by_cases ht : t = k
      · subst ht
        rw [if_neg hka, if_pos hk, if_pos rfl]
      · have ht' : ¬ e.1 = t := fun q => ht (by rw [← q, hk])
        rw [if_neg ht, if_neg ht', if_neg ht']
end
end Go.AM
