/-
Variables at the heap's end; rows of structs read and written; maps in a heap's context.
-/
import Derived.Test.YtfdnamedmjhcfaaDoorAm27
set_option linter.unusedVariables false
set_option linter.unusedSectionVars false
set_option linter.unusedSimpArgs false
namespace Go.AM

/-! ### The variable made last, and those ahead of it -/
theorem atE (H : Heap) (o : AObj) : (H ++ [o])[H.length]? = some o := by simp
theorem ldE (H : Heap) (xs : List AV) (n j : Nat) : ld false n (.ptr H.length j) (H ++ [.box xs]) = xs[j]? := ld_box (atE H _)
theorem ldEA {H : Heap} {xs : List AV} {n : Nat} (h : xs.length = n) (h0 : 0 < n) : ld true n (.ptr H.length 0) (H ++ [.box xs]) = some (.agg xs) := by
  rw [ldAgg_box (atE H _) (by omega) (by omega), List.drop_zero, List.take_of_length_le (by omega)]
theorem stE {H : Heap} {xs : List AV} {j : Nat} {v : PV} {lo : List Nat} (h : j < xs.length) : stA 1 (.ptr H.length j) (.p v) lo (H ++ [.box xs]) = some (H ++ [.box (xs.set j (.p v))]) := by
  rw [stA_box (n := 1) (off := j) (y := .p v) (atE H _) rfl (by omega) rfl (okLevels_p lo _ [v]) (by omega)]
  simp [AV.cells, splice]
theorem stEA {H : Heap} {xs : List AV} {ys : List PV} {n : Nat} {lo : List Nat} (h : xs.length = n) (h' : ys.length = n) (h0 : 0 < n) : stA n (.ptr H.length 0) (.agg (ys.map .p)) lo (H ++ [.box xs]) = some (H ++ [.box (ys.map .p)]) := by
  rw [stA_box (n := n) (off := 0) (y := .agg (ys.map .p)) (atE H _) (by simp [AV.cells, h']) (by omega) (leaves_p ys) (okLevels_p lo _ ys) (by omega)]
  simp only [AV.cells]
  rw [splice_all (by simp [h, h'])]
  simp
theorem boxE (xs : List PV) (H : Heap) : boxO [] (xs.map .p) H = some (.ptr H.length 0, H ++ [.box (xs.map .p)]) := boxO_p xs H
/-- A variable that is not the last one. -/
theorem ldP {agg : Bool} {n id j : Nat} {H : Heap} {o : AObj} (h : id < H.length) : ld agg n (.ptr id j) (H ++ [o]) = ld agg n (.ptr id j) H := ld_pop (.ptr h)
theorem getE {H : Heap} {id : Nat} {o x : AObj} (h : H[id]? = some x) : (H ++ [o])[id]? = some x := getElem?_push h
theorem ltE {H : Heap} (o : AObj) : H.length < (H ++ [o]).length := by simp

/-! ### Rows of structs -/
section
variable {α : Type} {enc : α → List PV} {k : Nat}

theorem flat_splice (he : ∀ p, (enc p).length = k) (l : List α) (i : Nat) (x : α) (h : i < l.length) : splice (l.flatMap enc) (i * k) (enc x) = (l.set i x).flatMap enc := by
  have h1 : (i + 1) * k ≤ l.length * k := Nat.mul_le_mul_right _ h
  rw [Nat.add_mul] at h1
  rw [splice_take _ _ _ (by rw [he, rows_length he]; omega), he]
  have e1 : (l.flatMap enc).take (i * k) = (l.take i).flatMap enc := by
    have h2 : l.flatMap enc = (l.take i).flatMap enc ++ (l.drop i).flatMap enc := by rw [← List.flatMap_append, List.take_append_drop]
    rw [h2, List.take_append_of_le_length (by rw [rows_length he]; simp [Nat.min_eq_left (Nat.le_of_lt h)]), List.take_of_length_le (by rw [rows_length he]; simp [Nat.min_eq_left (Nat.le_of_lt h)])]
  have e2 : (l.flatMap enc).drop (i * k + k) = (l.drop (i + 1)).flatMap enc := by
    rw [show i * k + k = (i + 1) * k by rw [Nat.add_mul]; omega, rows_drop he]
  rw [e1, e2, List.set_eq_take_append_cons_drop, if_pos h]
  simp

theorem flat_set (he : ∀ p, (enc p).length = k) (l : List α) (i j : Nat) (x : α) (v : PV) (h : i < l.length) (hx : enc x = (enc l[i]).set j v) (hj : j < k) : (l.flatMap enc).set (i * k + j) v = (l.set i x).flatMap enc := by
  rw [← flat_splice he l i x h, hx]
  have h1 : (i + 1) * k ≤ l.length * k := Nat.mul_le_mul_right _ h
  rw [Nat.add_mul] at h1
  have hlen := rows_length he l
  rw [splice_take _ _ _ (by rw [List.length_set, he, hlen]; omega), List.length_set, he]
  refine List.ext_getElem? fun t => ?_
  rw [List.append_assoc]
  by_cases h2 : t < i * k
  · rw [List.getElem?_set_ne (by omega), List.getElem?_append_left (by rw [List.length_take]; omega), List.getElem?_take_of_lt h2]
  · have e : ((l.flatMap enc).take (i * k)).length = i * k := by rw [List.length_take]; omega
    rw [List.getElem?_append_right (by omega)]
    rw [e]
    by_cases h3 : t < i * k + k
    · rw [List.getElem?_append_left (by simp [he]; omega)]
      by_cases h4 : t = i * k + j
      · subst h4
        rw [List.getElem?_set_self (by omega), Nat.add_sub_cancel_left, List.getElem?_set_self (by rw [he]; exact hj)]
      · rw [List.getElem?_set_ne (by omega), List.getElem?_set_ne (by omega)]
        have := rows_get (f := enc) (k := k) he (ps := l) (i := i) (j := t - i * k) (p := l[i]) (by simp [h]) (by omega)
        rw [show i * k + (t - i * k) = t by omega] at this
        exact this
    · rw [List.getElem?_append_right (by simp [he]; omega), List.getElem?_set_ne (by omega)]
      simp only [List.length_set, he, List.getElem?_drop]
      congr 1
      omega

variable {l : List α} {id g m : Nat} {H : Heap} {fx : List (Nat × AObj)} {l2 : List Ll}

theorem rowI {i : Nat} (h : i < m) : idxA k (.row id g 0 m) (I i) = some (.rptr id g (i * k)) := by
  have := idxA_row (sz := k) (id := id) (g := g) (off := 0) (n := m) (j := (i : Int)) (by omega)
  simpa using this

/-- A field of a row's struct. -/
theorem rowF (he : ∀ p, (enc p).length = k) (ho : H[id]? = some (.row g k (l.flatMap enc))) {i j : Nat} (h : i < l.length) (hj : j < k) : ld false 1 (.rptr id g (i * k + j)) H = ((enc l[i])[j]?).map .p := by
  rw [ld_row ho, rows_get (f := enc) (k := k) he (p := l[i]) (by simp [h]) hj]
theorem rowA (he : ∀ p, (enc p).length = k) (ho : H[id]? = some (.row g k (l.flatMap enc))) {i : Nat} (h : i < l.length) : ld true k (.rptr id g (i * k)) H = some (.agg ((enc l[i]).map .p)) := by
  have h1 : (i + 1) * k ≤ l.length * k := Nat.mul_le_mul_right _ h
  rw [Nat.add_mul] at h1
  simp only [ld, ho, if_true, partP]
  rw [if_pos (by rw [rows_length he]; omega), rows_part (f := enc) (k := k) he (p := l[i]) (by simp [h])]
theorem rowSt (he : ∀ p, (enc p).length = k) (ho : H[id]? = some (.row g k (l.flatMap enc))) {i j : Nat} (h : i < l.length) (hj : j < k) {x : α} {v : PV} (hx : enc x = (enc l[i]).set j v) (lo : List Nat) :
    stA 1 (.rptr id g (i * k + j)) (.p v) lo H = some (H.set id (.row g k ((l.set i x).flatMap enc))) := by
  have h1 : (i + 1) * k ≤ l.length * k := Nat.mul_le_mul_right _ h
  rw [Nat.add_mul] at h1
  rw [stA_row ho (by rw [rows_length he]; omega), flat_set he l i j x v h hx hj]
theorem setAt {H : Heap} {id : Nat} {o o' : AObj} (h : H[id]? = some o) : (H.set id o')[id]? = some o' := List.getElem?_set_self (getElem?_lt h)
end

/-- A row is appended to, by nothing perhaps. -/
theorem Cx.appRow {sz bytes m k id g : Nat} {y : AV} {cs new : List PV} {H : Heap} {fx : List (Nat × AObj)} {l2 : List Ll} (l1 : List Ll) (h : Cx H fx (l1 ++ (.row id g 0 m, sz, m, cs) :: l2)) (hy : cellsA sz y H = some (k, new)) (hn : new.length = k * sz) (hr : (m + k) * bytes ≤ room) :
    ∃ H', appA sz bytes (.row id g 0 m) y H = some (.row id (g + 1) 0 (m + k), H') ∧ Cx H' fx (l1 ++ (.row id (g + 1) 0 (m + k), sz, m + k, cs ++ new) :: l2) := by
  have hL : Lst sz (.row id g 0 m) H m cs := h.lst (.row id g 0 m, sz, m, cs) (by simp)
  have ho := hL.at
  have hl := hL.1
  have hlt := getElem?_lt ho
  have hs := sepAt h.sep
  refine ⟨H.set id (.row (g + 1) sz (cs ++ new)), ?_, ⟨fun q hq => obj_keep hL Keeps.setRow (h.obj q hq), fun q hq => ?_, sepPut h.sep fun b hb => ?_⟩⟩
  · simp only [appA, hy, obs, appTo, ho]
    rw [if_pos (by simp only [true_and]; exact ⟨by omega, hr⟩)]
    rw [List.drop_zero, List.take_of_length_le (by omega)]
  · rcases mem_mid hq with e | e
    · subst e; exact Lst.row (by rw [List.length_append, hl, hn, Nat.add_mul]) (by rw [List.getElem?_set_self hlt])
    · exact (h.lst q (mem_of_mid e)).keep Keeps.setRow (hs q e)
  · intro j g' n g'' n'' e e'
    cases e
    exact hs b hb id g m g'' n'' rfl e'

/-! ### A map in a context -/
section
variable {κ : Type} [DecidableEq κ] {ty : Ty} {enc : κ → AV} {H : Heap} {fx : List (Nat × AObj)} {ls : List Ll} {kvs : List (Kv κ)} {c id : Nat}

theorem Cx.mapPut (K : KeyEnc ty enc) (h : Cx H ((id, mapObj enc kvs c) :: fx) ls) (hd : ∀ q ∈ fx, q.1 ≠ id) (hw : WfM kvs c) (k : κ) {v : AV} {lo : List Nat} (hl : okLevels lo id [enc k, v] = true) :
    ∃ c' H', mapUpdA ty (.mp id) (enc k) v lo H = some H' ∧ Cx H' ((id, mapObj enc (aput kvs k v c) c') :: fx) ls ∧ WfM (aput kvs k v c) c' := by
  have ho := h.at (id := id) (o := mapObj enc kvs c) (by simp)
  have e := map_put K ho hw k hl
  exact ⟨_, _, e, h.setObj hd rfl, hw.put k v⟩
end

end Go.AM
