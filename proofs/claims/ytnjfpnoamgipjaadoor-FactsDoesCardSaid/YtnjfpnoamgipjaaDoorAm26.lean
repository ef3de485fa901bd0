/-
Maps: what lies in one, by key.
-/
import Derived.Test.YtnjfpnoamgipjaaDoorAm25
set_option linter.unusedVariables false
set_option linter.unusedSimpArgs false
set_option linter.unusedSectionVars false
namespace Go.AM
structure KeyEnc {κ:Type} [DecidableEq κ](ty:Ty)(enc:κ → AV):Prop where
  ok:∀ a,keyOk ty (enc a) = true
  eq:∀ a b,bin .eql ty (enc a) (enc b) = some (B (decide (a = b)))
  same:∀ a,sameKey (enc a) (enc a) = true
section
variable {κ:Type} [DecidableEq κ] {ty:Ty}{enc:κ → AV} (K:KeyEnc ty enc)
abbrev Kv (κ:Type) := κ × AV × Nat
def aget (kvs:List (Kv κ))(k:κ):Option AV := (kvs.find? fun p => decide (p.1 = k)).map fun p => p.2.1
def aput (kvs:List (Kv κ))(k:κ)(v:AV)(c:Nat):List (Kv κ) :=
  if (aget kvs k).isSome then kvs.map fun p => if p.1 = k then (p.1,v,p.2.2) else p else kvs ++ [(k,v,c)]
def adel (kvs:List (Kv κ))(k:κ):List (Kv κ) := kvs.filter fun p => !decide (p.1 = k)
def mapObj (enc:κ → AV)(kvs:List (Kv κ))(c:Nat):AObj := .map (kvs.map fun p => (enc p.1,p.2.1,p.2.2)) c
structure WfM (kvs:List (Kv κ))(c:Nat):Prop where
  keys:(kvs.map fun p => p.1).Nodup
  stamps:(kvs.map fun p => p.2.2).Nodup
  lt:∀ p ∈ kvs,p.2.2 < c
theorem WfM.nil:WfM ([]:List (Kv κ)) 0 := ⟨.nil,.nil,fun _ h => by cases h⟩
theorem aget_none {kvs:List (Kv κ)}{k:κ}:aget kvs k = none ↔ ∀ p ∈ kvs,p.1 ≠ k := by
  unfold aget
  simp [List.find?_eq_none]
theorem aget_nil (k:κ):aget ([]:List (Kv κ)) k = none := rfl
theorem aget_cons (p:Kv κ)(kvs:List (Kv κ))(k:κ):aget (p :: kvs) k = if p.1 = k then some p.2.1 else aget kvs k := by
  unfold aget
  by_cases h:p.1 = k <;> simp [h]
theorem aget_append (l m:List (Kv κ))(k:κ):aget (l ++ m) k = ((aget l k).or (aget m k)) := by
  induction l with
  | nil => simp [aget_nil]
  | cons p l ih => rw [List.cons_append,aget_cons,aget_cons,ih]; split <;> simp
theorem aget_put (kvs:List (Kv κ))(k:κ)(v:AV)(c:Nat)(j:κ):aget (aput kvs k v c) j = if j = k then some v else aget kvs j := by
  unfold aput
  by_cases h:(aget kvs k).isSome = true
  · rw [if_pos h]
    induction kvs with
    | nil => simp [aget_nil] at h
    | cons p kvs ih =>
      rw [List.map_cons,aget_cons,aget_cons]
      rw [aget_cons] at h
      by_cases hp:p.1 = k
      · rw [if_pos hp]
        by_cases hj:j = k
        · rw [if_pos hj,if_pos (by simp [hp,hj])]
        · rw [if_neg hj]
          have h1:¬ p.1 = j := fun e => hj (by rw [← e,hp])
          rw [if_neg h1,if_neg h1]
          clear ih h
          induction kvs with
          | nil => rfl
          | cons q kvs ih2 =>
            rw [List.map_cons,aget_cons,aget_cons,ih2]
            by_cases hq:q.1 = k
            · have h2:¬ q.1 = j := fun e => hj (by rw [← e,hq])
              rw [if_pos hq,if_neg h2,if_neg h2]
            · rw [if_neg hq]
      · rw [if_neg hp] at h
        rw [if_neg hp,ih h]
        by_cases hj:j = k
        · subst hj; simp [hp]
        · simp [hj]
  · rw [if_neg h,aget_append,aget_cons,aget_nil]
    by_cases hj:j = k
    · subst hj
      have:aget kvs j = none := by simpa using h
      simp [this]
    · have:¬ k = j := fun e => hj e.symm
      simp [hj,this]
theorem WfM.put {kvs:List (Kv κ)}{c:Nat}(h:WfM kvs c)(k:κ)(v:AV):WfM (aput kvs k v c) (if (aget kvs k).isSome then c else c + 1) := by
  unfold aput
  by_cases hk:(aget kvs k).isSome = true
  · rw [if_pos hk,if_pos hk]
    have e1:∀ p:Kv κ,(if p.1 = k then (p.1,v,p.2.2) else p).1 = p.1 := by intro p; split <;> rfl
    have e2:∀ p:Kv κ,(if p.1 = k then (p.1,v,p.2.2) else p).2.2 = p.2.2 := by intro p; split <;> rfl
    refine ⟨?_,?_,fun p hp => ?_⟩
    · rw [List.map_map]
      have:((fun p:Kv κ => p.1) ∘ fun p:Kv κ => if p.1 = k then (p.1,v,p.2.2) else p) = fun p => p.1 := funext e1
      rw [this]; exact h.keys
    · rw [List.map_map]
      have:((fun p:Kv κ => p.2.2) ∘ fun p:Kv κ => if p.1 = k then (p.1,v,p.2.2) else p) = fun p => p.2.2 := funext e2
      rw [this]; exact h.stamps
    · obtain ⟨q,hq,rfl⟩ := List.mem_map.mp hp
      rw [e2]; exact h.lt q hq
  · rw [if_neg hk,if_neg hk]
    have hn:∀ p ∈ kvs,p.1 ≠ k := aget_none.mp (by simpa using hk)
    refine ⟨?_,?_,fun p hp => ?_⟩
    · rw [List.map_append,List.nodup_append]
      refine ⟨h.keys,by simp,fun a ha b hb => ?_⟩
      obtain ⟨p,hp,rfl⟩ := List.mem_map.mp ha
      simp at hb
      rw [hb]; exact hn p hp
    · rw [List.map_append,List.nodup_append]
      refine ⟨h.stamps,by simp,fun a ha b hb => ?_⟩
      obtain ⟨p,hp,rfl⟩ := List.mem_map.mp ha
      simp at hb
      have := h.lt p hp
      omega
    · rcases List.mem_append.mp hp with e | e
      · have := h.lt p e; omega
      · simp at e; rw [e]; exact Nat.lt_succ_self c
theorem WfM.del {kvs:List (Kv κ)}{c:Nat}(h:WfM kvs c)(k:κ):WfM (adel kvs k) c := by
  refine ⟨h.keys.sublist ((List.filter_sublist).map _),h.stamps.sublist ((List.filter_sublist).map _),fun p hp => h.lt p (List.mem_filter.mp hp).1⟩
include K
theorem find_go (k:κ):∀ (kvs:List (Kv κ))(i:Nat),findA ty (enc k) (kvs.map fun p => (enc p.1,p.2.1,p.2.2)) i = some ((kvs.findIdx? fun p => decide (p.1 = k)).bind fun j => (kvs[j]?).map fun p => (i + j,p.2.1)) := by
  intro kvs
  induction kvs with
  | nil => intro i; rfl
  | cons p kvs ih =>
    intro i
    rw [List.map_cons,findA,K.eq,obs]
    have ht:truth (B (decide (k = p.1))) = some (decide (k = p.1)) := rfl
    rw [ht,obs,List.findIdx?_cons]
    by_cases h:k = p.1
    · rw [if_pos (by simpa using h)]
      simp [h]
    · have h':¬ p.1 = k := fun e => h e.symm
      rw [if_neg (by simpa using h),ih (i + 1)]
      simp only [h',decide_false,Bool.false_eq_true,if_false]
      cases hf:kvs.findIdx? fun p => decide (p.1 = k) with
      | none => rfl
      | some j =>
        simp only [Option.map_some,Option.bind_some,List.getElem?_cons_succ]
        congr 1
        cases kvs[j]? with
        | none => rfl
        | some q => simp only [Option.map_some]; congr 2; omega
theorem find_get (k:κ)(kvs:List (Kv κ)):((kvs.findIdx? fun p => decide (p.1 = k)).bind fun j => (kvs[j]?).map fun p => (0 + j,p.2.1)).map (fun q => q.2) = aget kvs k := by
  induction kvs with
  | nil => rfl
  | cons p kvs ih =>
    rw [List.findIdx?_cons,aget_cons]
    by_cases h:p.1 = k
    · simp [h]
    · simp only [h,decide_false,Bool.false_eq_true,if_false,← ih]
      cases hf:kvs.findIdx? fun p => decide (p.1 = k) with
      | none => rfl
      | some j =>
        simp only [Option.map_some,Option.bind_some,List.getElem?_cons_succ]
        cases kvs[j]? <;> rfl
theorem map_look {H:Heap}{id c:Nat}{kvs:List (Kv κ)}{z:AV}(h:H[id]? = some (mapObj enc kvs c))(k:κ):lookA ty z false (.mp id) (enc k) H = some ((aget kvs k).getD z) := by
  simp only [lookA,K.ok,if_true,entsA,h,mapObj,obs]
  rw [find_go K k kvs 0,oms,← find_get K k kvs]
  cases ((kvs.findIdx? fun p => decide (p.1 = k)).bind fun j => (kvs[j]?).map fun p => (0 + j,p.2.1)) <;> rfl
theorem setVal_put {kvs:List (Kv κ)}(hn:(kvs.map fun p => p.1).Nodup){k:κ}{j:Nat}(hj:(kvs.findIdx? fun p => decide (p.1 = k)) = some j)(v:AV) :
    setVal (kvs.map fun p => (enc p.1,p.2.1,p.2.2)) j v = (kvs.map fun p => if p.1 = k then (p.1,v,p.2.2) else p).map fun p => (enc p.1,p.2.1,p.2.2) := by
  unfold setVal
  obtain ⟨h1,h2,h3⟩ := List.findIdx?_eq_some_iff_getElem.mp hj
  have hk:kvs[j].1 = k := by simpa using h2
  refine List.ext_getElem (by simp) fun i h4 h5 => ?_
  have hi:i < kvs.length := by simpa using h5
  simp only [List.getElem_modify,List.getElem_map]
  by_cases e:j = i
  · subst e; simp [hk]
  · have:¬ kvs[i].1 = k := by
      intro e2
      exact e ((List.getElem_inj (h₀ := by simpa using h1) (h₁ := by simpa using hi) hn).mp (by simp [hk,e2]))
    simp [e,this]
theorem map_put {H:Heap}{id c:Nat}{kvs:List (Kv κ)}(h:H[id]? = some (mapObj enc kvs c))(hw:WfM kvs c)(k:κ){v:AV}{lo:List Nat}(hl:okLevels lo id [enc k,v] = true) :
    mapUpdA ty (.mp id) (enc k) v lo H = some (H.set id (mapObj enc (aput kvs k v c) (if (aget kvs k).isSome then c else c + 1))) := by
  simp only [mapUpdA,h,mapObj]
  rw [if_pos ⟨K.ok k,hl⟩,find_go K k kvs 0,obs]
  cases hf:kvs.findIdx? fun p => decide (p.1 = k) with
  | none =>
    have hn:aget kvs k = none := aget_none.mpr fun p hp => by
      have := List.findIdx?_eq_none_iff.mp hf p hp
      simpa using this
    simp [aput,hn]
  | some j =>
    obtain ⟨h1,h2,h3⟩ := List.findIdx?_eq_some_iff_getElem.mp hf
    have hk:kvs[j].1 = k := by simpa using h2
    have hg:(aget kvs k).isSome = true := by
      rw [← find_get K k kvs,hf]
      simp [h1]
    simp only [Option.bind_some,List.getElem?_eq_getElem h1,Option.map_some,Nat.zero_add,List.getElem?_map,hk,K.same,if_true]
    rw [setVal_put K hw.keys hf]
    simp only [aput,hg,if_true]
omit K in
def left (kvs:List (Kv κ))(seen:List Nat):List (Kv κ) := kvs.filter fun p => !seen.contains p.2.2
end
end Go.AM

