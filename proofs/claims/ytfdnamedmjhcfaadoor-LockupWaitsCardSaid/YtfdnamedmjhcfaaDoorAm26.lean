/-
Maps: what lies in one, by key.
-/
import Derived.Test.YtfdnamedmjhcfaaDoorAm25
set_option linter.unusedVariables false
set_option linter.unusedSimpArgs false
set_option linter.unusedSectionVars false
namespace Go.AM

/-- Keys of a kind. -/
structure KeyEnc {κ : Type} [DecidableEq κ] (ty : Ty) (enc : κ → AV) : Prop where
  ok : ∀ a, keyOk ty (enc a) = true
  eq : ∀ a b, bin .eql ty (enc a) (enc b) = some (B (decide (a = b)))
  same : ∀ a, sameKey (enc a) (enc a) = true

theorem key_int : KeyEnc .int (fun n : Int => I n) where
  ok _ := rfl
  eq a b := bin_eql a b
  same a := by show (decide (IntKind.i64 = IntKind.i64) && (a == a)) = true; simp

section
variable {κ : Type} [DecidableEq κ] {ty : Ty} {enc : κ → AV} (K : KeyEnc ty enc)

abbrev Kv (κ : Type) := κ × AV × Nat

def aget (kvs : List (Kv κ)) (k : κ) : Option AV := (kvs.find? fun p => decide (p.1 = k)).map fun p => p.2.1
def aput (kvs : List (Kv κ)) (k : κ) (v : AV) (c : Nat) : List (Kv κ) :=
  if (aget kvs k).isSome then kvs.map fun p => if p.1 = k then (p.1, v, p.2.2) else p else kvs ++ [(k, v, c)]
def adel (kvs : List (Kv κ)) (k : κ) : List (Kv κ) := kvs.filter fun p => !decide (p.1 = k)

def mapObj (enc : κ → AV) (kvs : List (Kv κ)) (c : Nat) : AObj := .map (kvs.map fun p => (enc p.1, p.2.1, p.2.2)) c

structure WfM (kvs : List (Kv κ)) (c : Nat) : Prop where
  keys : (kvs.map fun p => p.1).Nodup
  stamps : (kvs.map fun p => p.2.2).Nodup
  lt : ∀ p ∈ kvs, p.2.2 < c

theorem WfM.nil : WfM ([] : List (Kv κ)) 0 := ⟨.nil, .nil, fun _ h => by cases h⟩

theorem aget_none {kvs : List (Kv κ)} {k : κ} : aget kvs k = none ↔ ∀ p ∈ kvs, p.1 ≠ k := by
  unfold aget
  simp [List.find?_eq_none]

theorem aget_nil (k : κ) : aget ([] : List (Kv κ)) k = none := rfl

theorem aget_cons (p : Kv κ) (kvs : List (Kv κ)) (k : κ) : aget (p :: kvs) k = if p.1 = k then some p.2.1 else aget kvs k := by
  unfold aget
  by_cases h : p.1 = k <;> simp [h]

theorem aget_append (l m : List (Kv κ)) (k : κ) : aget (l ++ m) k = ((aget l k).or (aget m k)) := by
  induction l with
  | nil => simp [aget_nil]
  | cons p l ih => rw [List.cons_append, aget_cons, aget_cons, ih]; split <;> simp

theorem aget_put (kvs : List (Kv κ)) (k : κ) (v : AV) (c : Nat) (j : κ) : aget (aput kvs k v c) j = if j = k then some v else aget kvs j := by
  unfold aput
  by_cases h : (aget kvs k).isSome = true
  · rw [if_pos h]
    induction kvs with
    | nil => simp [aget_nil] at h
    | cons p kvs ih =>
      rw [List.map_cons, aget_cons, aget_cons]
      rw [aget_cons] at h
      by_cases hp : p.1 = k
      · rw [if_pos hp]
        by_cases hj : j = k
        · rw [if_pos hj, if_pos (by simp [hp, hj])]
        · rw [if_neg hj]
          have h1 : ¬ p.1 = j := fun e => hj (by rw [← e, hp])
          rw [if_neg h1, if_neg h1]
          clear ih h
          induction kvs with
          | nil => rfl
          | cons q kvs ih2 =>
            rw [List.map_cons, aget_cons, aget_cons, ih2]
            by_cases hq : q.1 = k
            · have h2 : ¬ q.1 = j := fun e => hj (by rw [← e, hq])
              rw [if_pos hq, if_neg h2, if_neg h2]
            · rw [if_neg hq]
      · rw [if_neg hp] at h
        rw [if_neg hp, ih h]
        by_cases hj : j = k
        · subst hj; simp [hp]
        · simp [hj]
  · rw [if_neg h, aget_append, aget_cons, aget_nil]
    by_cases hj : j = k
    · subst hj
      have : aget kvs j = none := by simpa using h
      simp [this]
    · have : ¬ k = j := fun e => hj e.symm
      simp [hj, this]

theorem WfM.put {kvs : List (Kv κ)} {c : Nat} (h : WfM kvs c) (k : κ) (v : AV) : WfM (aput kvs k v c) (if (aget kvs k).isSome then c else c + 1) := by
  unfold aput
  by_cases hk : (aget kvs k).isSome = true
  · rw [if_pos hk, if_pos hk]
    have e1 : ∀ p : Kv κ, (if p.1 = k then (p.1, v, p.2.2) else p).1 = p.1 := by intro p; split <;> rfl
    have e2 : ∀ p : Kv κ, (if p.1 = k then (p.1, v, p.2.2) else p).2.2 = p.2.2 := by intro p; split <;> rfl
    refine ⟨?_, ?_, fun p hp => ?_⟩
    · rw [List.map_map]
      have : ((fun p : Kv κ => p.1) ∘ fun p : Kv κ => if p.1 = k then (p.1, v, p.2.2) else p) = fun p => p.1 := funext e1
      rw [this]; exact h.keys
    · rw [List.map_map]
      have : ((fun p : Kv κ => p.2.2) ∘ fun p : Kv κ => if p.1 = k then (p.1, v, p.2.2) else p) = fun p => p.2.2 := funext e2
      rw [this]; exact h.stamps
    · obtain ⟨q, hq, rfl⟩ := List.mem_map.mp hp
      rw [e2]; exact h.lt q hq
  · rw [if_neg hk, if_neg hk]
    have hn : ∀ p ∈ kvs, p.1 ≠ k := aget_none.mp (by simpa using hk)
    refine ⟨?_, ?_, fun p hp => ?_⟩
    · rw [List.map_append, List.nodup_append]
      refine ⟨h.keys, by simp, fun a ha b hb => ?_⟩
      obtain ⟨p, hp, rfl⟩ := List.mem_map.mp ha
      simp at hb
      rw [hb]; exact hn p hp
    · rw [List.map_append, List.nodup_append]
      refine ⟨h.stamps, by simp, fun a ha b hb => ?_⟩
      obtain ⟨p, hp, rfl⟩ := List.mem_map.mp ha
      simp at hb
      have := h.lt p hp
      omega
    · rcases List.mem_append.mp hp with e | e
      · have := h.lt p e; omega
      · simp at e; rw [e]; exact Nat.lt_succ_self c

theorem aget_del {kvs : List (Kv κ)} (k j : κ) : aget (adel kvs k) j = if j = k then none else aget kvs j := by
  unfold adel
  induction kvs with
  | nil => simp [aget_nil]
  | cons p kvs ih =>
    rw [List.filter_cons]
    by_cases hp : p.1 = k
    · simp only [hp, decide_true, Bool.not_true, Bool.false_eq_true, if_false, ih, aget_cons]
      by_cases hj : j = k
      · simp [hj]
      · have : ¬ k = j := fun e => hj e.symm
        simp [hj, this]
    · simp only [hp, decide_false, Bool.not_false, if_true, aget_cons, ih]
      by_cases hj : j = k
      · subst hj; simp [hp]
      · simp [hj]

theorem WfM.del {kvs : List (Kv κ)} {c : Nat} (h : WfM kvs c) (k : κ) : WfM (adel kvs k) c := by
  refine ⟨h.keys.sublist ((List.filter_sublist).map _), h.stamps.sublist ((List.filter_sublist).map _), fun p hp => h.lt p (List.mem_filter.mp hp).1⟩

theorem nodup_len_le {α : Type} [DecidableEq α] : ∀ (a b : List α), a.Nodup → (∀ x ∈ a, x ∈ b) → a.length ≤ b.length := by
  intro a
  induction a with
  | nil => intro b _ _; simp
  | cons x a ih =>
    intro b hn hs
    rw [List.nodup_cons] at hn
    have := ih (b.erase x) hn.2 fun y hy => by
      have : y ≠ x := fun e => hn.1 (e ▸ hy)
      exact (List.mem_erase_of_ne this).mpr (hs y (by simp [hy]))
    rw [List.length_erase_of_mem (hs x (by simp))] at this
    have h0 : 0 < b.length := List.length_pos_of_mem (hs x (by simp))
    simp
    omega

theorem aget_isSome {kvs : List (Kv κ)} {k : κ} : (aget kvs k).isSome = true ↔ k ∈ kvs.map fun p => p.1 := by
  induction kvs with
  | nil => simp [aget_nil]
  | cons p kvs ih =>
    rw [aget_cons, List.map_cons, List.mem_cons]
    by_cases h : p.1 = k
    · simp [h]
    · rw [if_neg h, ih]
      have : ¬ k = p.1 := fun e => h e.symm
      simp [this]

/-- How many entries a map has, by its keys. -/
theorem keys_len {kvs : List (Kv κ)} {c : Nat} (h : WfM kvs c) {ks : List κ} (hn : ks.Nodup) (hk : ∀ k, (aget kvs k).isSome = true ↔ k ∈ ks) : kvs.length = ks.length := by
  have e : kvs.length = (kvs.map fun p => p.1).length := by simp
  rw [e]
  exact Nat.le_antisymm (nodup_len_le _ _ h.keys fun x hx => (hk x).mp (aget_isSome.mpr hx)) (nodup_len_le _ _ hn fun x hx => aget_isSome.mp ((hk x).mpr hx))

theorem aget_of_mem {kvs : List (Kv κ)} {c : Nat} (h : WfM kvs c) {q : Kv κ} (hq : q ∈ kvs) : aget kvs q.1 = some q.2.1 := by
  have hn := h.keys
  clear h
  induction kvs with
  | nil => cases hq
  | cons p kvs ih =>
    rw [List.map_cons, List.nodup_cons] at hn
    rw [aget_cons]
    rcases List.mem_cons.mp hq with e | e
    · rw [e, if_pos rfl]
    · rw [if_neg fun e2 => hn.1 (List.mem_map.mpr ⟨q, e, e2.symm⟩)]
      exact ih e hn.2

/-! ### The machine's own operations -/
include K

theorem find_go (k : κ) : ∀ (kvs : List (Kv κ)) (i : Nat), findA ty (enc k) (kvs.map fun p => (enc p.1, p.2.1, p.2.2)) i = some ((kvs.findIdx? fun p => decide (p.1 = k)).bind fun j => (kvs[j]?).map fun p => (i + j, p.2.1)) := by
  intro kvs
  induction kvs with
  | nil => intro i; rfl
  | cons p kvs ih =>
    intro i
    rw [List.map_cons, findA, K.eq, obs]
    have ht : truth (B (decide (k = p.1))) = some (decide (k = p.1)) := rfl
    rw [ht, obs, List.findIdx?_cons]
    by_cases h : k = p.1
    · rw [if_pos (by simpa using h)]
      simp [h]
    · have h' : ¬ p.1 = k := fun e => h e.symm
      rw [if_neg (by simpa using h), ih (i + 1)]
      simp only [h', decide_false, Bool.false_eq_true, if_false]
      cases hf : kvs.findIdx? fun p => decide (p.1 = k) with
      | none => rfl
      | some j =>
        simp only [Option.map_some, Option.bind_some, List.getElem?_cons_succ]
        congr 1
        cases kvs[j]? with
        | none => rfl
        | some q => simp only [Option.map_some]; congr 2; omega

theorem find_get (k : κ) (kvs : List (Kv κ)) : ((kvs.findIdx? fun p => decide (p.1 = k)).bind fun j => (kvs[j]?).map fun p => (0 + j, p.2.1)).map (fun q => q.2) = aget kvs k := by
  induction kvs with
  | nil => rfl
  | cons p kvs ih =>
    rw [List.findIdx?_cons, aget_cons]
    by_cases h : p.1 = k
    · simp [h]
    · simp only [h, decide_false, Bool.false_eq_true, if_false, ← ih]
      cases hf : kvs.findIdx? fun p => decide (p.1 = k) with
      | none => rfl
      | some j =>
        simp only [Option.map_some, Option.bind_some, List.getElem?_cons_succ]
        cases kvs[j]? <;> rfl

/-- 'm[k]'. -/
theorem map_look {H : Heap} {id c : Nat} {kvs : List (Kv κ)} {z : AV} (h : H[id]? = some (mapObj enc kvs c)) (k : κ) : lookA ty z false (.mp id) (enc k) H = some ((aget kvs k).getD z) := by
  simp only [lookA, K.ok, if_true, entsA, h, mapObj, obs]
  rw [find_go K k kvs 0, oms, ← find_get K k kvs]
  cases ((kvs.findIdx? fun p => decide (p.1 = k)).bind fun j => (kvs[j]?).map fun p => (0 + j, p.2.1)) <;> rfl

/-- 'v, ok := m[k]'. -/
theorem map_look2 {H : Heap} {id c : Nat} {kvs : List (Kv κ)} {z : AV} (h : H[id]? = some (mapObj enc kvs c)) (k : κ) : lookA ty z true (.mp id) (enc k) H = some (.tup [(aget kvs k).getD z, B (aget kvs k).isSome]) := by
  simp only [lookA, K.ok, if_true, entsA, h, mapObj, obs]
  rw [find_go K k kvs 0, oms, ← find_get K k kvs]
  cases ((kvs.findIdx? fun p => decide (p.1 = k)).bind fun j => (kvs[j]?).map fun p => (0 + j, p.2.1)) <;> rfl

theorem setVal_put {kvs : List (Kv κ)} (hn : (kvs.map fun p => p.1).Nodup) {k : κ} {j : Nat} (hj : (kvs.findIdx? fun p => decide (p.1 = k)) = some j) (v : AV) :
    setVal (kvs.map fun p => (enc p.1, p.2.1, p.2.2)) j v = (kvs.map fun p => if p.1 = k then (p.1, v, p.2.2) else p).map fun p => (enc p.1, p.2.1, p.2.2) := by
  unfold setVal
  obtain ⟨h1, h2, h3⟩ := List.findIdx?_eq_some_iff_getElem.mp hj
  have hk : kvs[j].1 = k := by simpa using h2
  refine List.ext_getElem (by simp) fun i h4 h5 => ?_
  have hi : i < kvs.length := by simpa using h5
  simp only [List.getElem_modify, List.getElem_map]
  by_cases e : j = i
  · subst e; simp [hk]
  · have : ¬ kvs[i].1 = k := by
      intro e2
      exact e ((List.getElem_inj (h₀ := by simpa using h1) (h₁ := by simpa using hi) hn).mp (by simp [hk, e2]))
    simp [e, this]

/-- 'm[k] = v'. -/
theorem map_put {H : Heap} {id c : Nat} {kvs : List (Kv κ)} (h : H[id]? = some (mapObj enc kvs c)) (hw : WfM kvs c) (k : κ) {v : AV} {lo : List Nat} (hl : okLevels lo id [enc k, v] = true) :
    mapUpdA ty (.mp id) (enc k) v lo H = some (H.set id (mapObj enc (aput kvs k v c) (if (aget kvs k).isSome then c else c + 1))) := by
  simp only [mapUpdA, h, mapObj]
  rw [if_pos ⟨K.ok k, hl⟩, find_go K k kvs 0, obs]
  cases hf : kvs.findIdx? fun p => decide (p.1 = k) with
  | none =>
    have hn : aget kvs k = none := aget_none.mpr fun p hp => by
      have := List.findIdx?_eq_none_iff.mp hf p hp
      simpa using this
    simp [aput, hn]
  | some j =>
    obtain ⟨h1, h2, h3⟩ := List.findIdx?_eq_some_iff_getElem.mp hf
    have hk : kvs[j].1 = k := by simpa using h2
    have hg : (aget kvs k).isSome = true := by
      rw [← find_get K k kvs, hf]
      simp [h1]
    simp only [Option.bind_some, List.getElem?_eq_getElem h1, Option.map_some, Nat.zero_add, List.getElem?_map, hk, K.same, if_true]
    rw [setVal_put K hw.keys hf]
    simp only [aput, hg, if_true]

/-- 'delete(m, k)'. -/
theorem map_del {H : Heap} {id c : Nat} {kvs : List (Kv κ)} (h : H[id]? = some (mapObj enc kvs c)) (hw : WfM kvs c) (k : κ) : delA ty (.mp id) (enc k) H = some (H.set id (mapObj enc (adel kvs k) c)) := by
  have hlt := getElem?_lt h
  simp only [delA, h, mapObj]
  rw [if_pos (K.ok k), find_go K k kvs 0, oms]
  cases hf : kvs.findIdx? fun p => decide (p.1 = k) with
  | none =>
    have : adel kvs k = kvs := by
      unfold adel
      rw [List.filter_eq_self]
      intro p hp
      have := List.findIdx?_eq_none_iff.mp hf p hp
      simpa using this
    rw [this]
    simp only [Option.bind_none, Option.some.injEq]
    refine List.ext_getElem? fun i => ?_
    by_cases e : id = i
    · subst e; rw [List.getElem?_set_self hlt, h]; rfl
    · rw [List.getElem?_set_ne e]
  | some j =>
    obtain ⟨h1, h2, h3⟩ := List.findIdx?_eq_some_iff_getElem.mp hf
    have hk : kvs[j].1 = k := by simpa using h2
    simp only [Option.bind_some, List.getElem?_eq_getElem h1, Option.map_some, Nat.zero_add]
    have e : (kvs.map fun p => (enc p.1, p.2.1, p.2.2)).eraseIdx j = (adel kvs k).map fun p => (enc p.1, p.2.1, p.2.2) := by
      have em : (kvs.map fun p => (enc p.1, p.2.1, p.2.2)).eraseIdx j = (kvs.eraseIdx j).map fun p => (enc p.1, p.2.1, p.2.2) := by
        rw [List.eraseIdx_eq_take_drop_succ, List.eraseIdx_eq_take_drop_succ, List.map_append, List.map_take, List.map_drop]
      rw [em]
      congr 1
      have hs : kvs = kvs.take j ++ kvs[j] :: kvs.drop (j + 1) := by rw [← List.drop_eq_getElem_cons h1, List.take_append_drop]
      have hnd := hw.keys
      rw [hs, List.map_append, List.map_cons, List.nodup_append, List.nodup_cons] at hnd
      rw [List.eraseIdx_eq_take_drop_succ]
      unfold adel
      conv => rhs; rw [hs]
      rw [List.filter_append, List.filter_cons]
      simp only [hk, decide_true, Bool.not_true, Bool.false_eq_true, if_false]
      congr 1
      · rw [List.filter_eq_self.mpr]
        intro p hp
        have := hnd.2.2 p.1 (List.mem_map.mpr ⟨p, hp, rfl⟩) k (by simp [hk])
        simpa using this
      · rw [List.filter_eq_self.mpr]
        intro p hp
        have h4 := hnd.2.1.1
        simp only [Bool.not_eq_true', decide_eq_false_iff_not]
        intro e
        exact h4 (List.mem_map.mpr ⟨p, hp, by rw [e, hk]⟩)
    rw [e]

omit K in
theorem map_len {H : Heap} {id c : Nat} {kvs : List (Kv κ)} (h : H[id]? = some (mapObj enc kvs c)) : lenA .map (.mp id) H = some (I kvs.length) := by
  simp [lenA, h, mapObj]

/-- An entry of a map, found or made. -/
theorem map_ent {H : Heap} {id c : Nat} {kvs : List (Kv κ)} {z : AV} (h : H[id]? = some (mapObj enc kvs c)) (k : κ) {lo : List Nat} (hl : okLevels lo id [enc k, z] = true) :
    ∃ st : Nat, mapEntA ty z (.mp id) (enc k) lo H = some (.tup [(aget kvs k).getD z, I st], if (aget kvs k).isSome then H else H.set id (mapObj enc (aput kvs k z c) (c + 1))) ∧
      (if (aget kvs k).isSome then ∃ v, (k, v, st) ∈ kvs else st = c) := by
  simp only [mapEntA, h, mapObj]
  rw [if_pos ⟨K.ok k, hl⟩, find_go K k kvs 0, obs]
  cases hf : kvs.findIdx? fun p => decide (p.1 = k) with
  | none =>
    have hn : aget kvs k = none := aget_none.mpr fun p hp => by
      have := List.findIdx?_eq_none_iff.mp hf p hp
      simpa using this
    exact ⟨c, by simp [hn, aput], by simp [hn]⟩
  | some j =>
    obtain ⟨h1, h2, h3⟩ := List.findIdx?_eq_some_iff_getElem.mp hf
    have hk : kvs[j].1 = k := by simpa using h2
    have hv : aget kvs k = some kvs[j].2.1 := by
      rw [← find_get K k kvs, hf]
      simp [h1]
    refine ⟨kvs[j].2.2, ?_, ?_⟩
    · simp only [Option.bind_some, List.getElem?_eq_getElem h1, Option.map_some, Nat.zero_add, List.getElem?_map, hk, K.same, if_true, hv, Option.getD_some, Option.isSome_some]
    · simp only [hv, Option.isSome_some, if_true]
      exact ⟨kvs[j].2.1, by rw [← hk]; exact List.getElem_mem h1⟩

/-- An entry that is there is written by its stamp. -/
theorem map_entSt {H : Heap} {id c : Nat} {kvs : List (Kv κ)} (h : H[id]? = some (mapObj enc kvs c)) (hw : WfM kvs c) {k : κ} {v0 v : AV} {st : Nat} (hm : (k, v0, st) ∈ kvs) {lo : List Nat} (hl : okLevels lo id [v] = true) :
    entStA (.mp id) (I st) v lo H = some (H.set id (mapObj enc (aput kvs k v c) c)) := by
  simp only [entStA, h, mapObj]
  rw [if_pos hl]
  simp only [asI, obs]
  obtain ⟨j, h1, hj⟩ := List.mem_iff_getElem.mp hm
  have hst : ∀ i (hi : i < kvs.length), kvs[i].2.2 = st → i = j := by
    intro i hi e
    exact (List.getElem_inj (h₀ := by simpa using hi) (h₁ := by simpa using h1) hw.stamps).mp (by simp [hj, e])
  have hkk : ∀ i (hi : i < kvs.length), kvs[i].1 = k → i = j := by
    intro i hi e
    exact (List.getElem_inj (h₀ := by simpa using hi) (h₁ := by simpa using h1) hw.keys).mp (by simp [hj, e])
  have hf : (kvs.map fun p => (enc p.1, p.2.1, p.2.2)).findIdx? (fun e => decide ((e.2.2 : Int) = st)) = some j := by
    rw [List.findIdx?_eq_some_iff_getElem]
    refine ⟨by simpa using h1, by simp [hj], fun i hi => ?_⟩
    have hi' : i < kvs.length := by omega
    simp only [List.getElem_map, Bool.not_eq_true', decide_eq_false_iff_not]
    intro e
    have e' : (kvs[i].2.2 : Int) = st := of_decide_eq_true e
    have := hst i hi' (by omega)
    omega
  rw [hf, oms]
  have hf2 : (kvs.findIdx? fun p => decide (p.1 = k)) = some j := by
    rw [List.findIdx?_eq_some_iff_getElem]
    refine ⟨h1, by simp [hj], fun i hi => ?_⟩
    have hi' : i < kvs.length := by omega
    intro e
    have := hkk i hi' (of_decide_eq_true e)
    omega
  have hg : (aget kvs k).isSome = true := by
    rw [← find_get K k kvs, hf2]
    simp only [Option.bind_some, List.getElem?_eq_getElem h1, Option.map_some, Option.isSome_some]
  rw [setVal_put K hw.keys hf2]
  unfold aput
  rw [if_pos hg]

omit K in
/-- What is still to come of a range over a map. -/
def left (kvs : List (Kv κ)) (seen : List Nat) : List (Kv κ) := kvs.filter fun p => !seen.contains p.2.2

omit K in
theorem map_range {H : Heap} {id c : Nat} {kvs : List (Kv κ)} (h : H[id]? = some (mapObj enc kvs c)) : rangeA (.mp id) H = some (.it H.length, H ++ [.iter id c [] c]) := by
  simp only [rangeA, h, mapObj]

omit K in
/-- The next step of a range: what may come. -/
theorem map_next {H : Heap} {it id c : Nat} {seen : List Nat} {last : Nat} {kvs : List (Kv κ)} (hi : H[it]? = some (.iter id c seen last)) (h : H[id]? = some (mapObj enc kvs c)) (hw : WfM kvs c) :
    nextA (.it it) H = some (if left kvs seen = [] then [(.tup [B false], H)] else (left kvs seen).map fun p => (.tup [B true, enc p.1, p.2.1], H.set it (.iter id c (seen ++ [p.2.2]) c))) := by
  have hall : (decide (c ≤ c) && (kvs.map fun p => (enc p.1, p.2.1, p.2.2)).all fun e => decide (e.2.2 < c)) = true := by
    rw [Bool.and_eq_true]
    refine ⟨by simp, ?_⟩
    rw [List.all_eq_true]
    intro e he
    obtain ⟨p, hp, rfl⟩ := List.mem_map.mp he
    simpa using hw.lt p hp
  have hl : leftA (kvs.map fun p => (enc p.1, p.2.1, p.2.2)) seen = (left kvs seen).map fun p => (enc p.1, p.2.1, p.2.2) := by
    unfold leftA left
    rw [List.filter_map]
    rfl
  simp only [nextA, hi, h, mapObj]
  rw [if_pos hall, hl]
  cases left kvs seen with
  | nil => rfl
  | cons p l => simp

omit K in
/-- The entry that came last is looked at. -/
theorem map_entry {H : Heap} {it id c : Nat} {seen : List Nat} {kvs : List (Kv κ)} {p : Kv κ} (hi : H[it]? = some (.iter id c (seen ++ [p.2.2]) c)) (h : H[id]? = some (mapObj enc kvs c)) (hw : WfM kvs c) (hp : p ∈ kvs) :
    entryA (.it it) H = some (.tup [enc p.1, p.2.1]) := by
  have hf : (kvs.map fun p => (enc p.1, p.2.1, p.2.2)).find? (fun e => Nat.beq e.2.2 p.2.2) = some (enc p.1, p.2.1, p.2.2) := by
    have hn := hw.stamps
    clear h hw hi
    induction kvs with
    | nil => cases hp
    | cons q kvs ih =>
      rw [List.map_cons, List.nodup_cons] at hn
      rw [List.map_cons, List.find?_cons]
      rcases List.mem_cons.mp hp with e | e
      · subst e
        simp
      · have : Nat.beq q.2.2 p.2.2 = false := by
          cases hb : Nat.beq q.2.2 p.2.2 with
          | false => rfl
          | true => exact (hn.1 (List.mem_map.mpr ⟨p, e, (Nat.eq_of_beq_eq_true hb).symm⟩)).elim
        simp only [this]
        exact ih e hn.2
  simp only [entryA, hi, h, mapObj, List.getLast?_append, List.getLast?_singleton, Option.some_or, if_true, hf, oms]

omit K in
theorem left_step {kvs : List (Kv κ)} {seen : List Nat} {p : Kv κ} (hp : p ∈ left kvs seen) : (left kvs (seen ++ [p.2.2])).length < (left kvs seen).length ∧ p ∈ kvs ∧ ∀ q, q ∈ left kvs seen → q ∈ left kvs (seen ++ [p.2.2]) ∨ q.2.2 = p.2.2 := by
  have hp' := hp
  unfold left at hp
  rw [List.mem_filter] at hp
  refine ⟨?_, hp.1, fun q hq => ?_⟩
  · have e : left kvs (seen ++ [p.2.2]) = (left kvs seen).filter fun q => !(q.2.2 == p.2.2) := by
      unfold left
      rw [List.filter_filter]
      refine List.filter_congr fun q _ => ?_
      by_cases h1 : q.2.2 ∈ seen <;> by_cases h2 : q.2.2 = p.2.2 <;> simp [h1, h2]
    rw [e]
    exact List.length_filter_lt_length_iff_exists.mpr ⟨p, hp', by simp⟩
  · by_cases e : q.2.2 = p.2.2
    · exact .inr e
    · left
      unfold left at hq ⊢
      rw [List.mem_filter] at hq ⊢
      refine ⟨hq.1, ?_⟩
      have := hq.2
      simp at this ⊢
      exact ⟨this, e⟩

end
end Go.AM
