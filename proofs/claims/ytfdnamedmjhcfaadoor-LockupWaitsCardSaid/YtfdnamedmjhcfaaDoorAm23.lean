/-
What stands in a heap: variables in memory, and lists under way, none of them another's row.
-/
import Derived.Test.YtfdnamedmjhcfaaDoorAm22
set_option linter.unusedVariables false
set_option linter.unusedSectionVars false
set_option linter.unusedSimpArgs false
namespace Go.AM

theorem splice_take {α : Type} : ∀ (ys xs : List α) (off : Nat), off + ys.length ≤ xs.length → splice xs off ys = xs.take off ++ ys ++ xs.drop (off + ys.length) := by
  intro ys
  induction ys with
  | nil => intro xs off h; simp [splice]
  | cons y ys ih =>
    intro xs off h
    simp only [List.length_cons] at h
    rw [splice, ih (xs.set off y) (off + 1) (by simp; omega)]
    have e1 : (xs.set off y).take (off + 1) = xs.take off ++ [y] := by
      rw [List.take_add_one, List.take_set_of_le (by omega)]
      rw [List.getElem?_set_self (by omega)]
      rfl
    have e2 : (xs.set off y).drop (off + 1 + ys.length) = xs.drop (off + (y :: ys).length) := by
      rw [List.drop_set_of_lt (by omega), List.length_cons]
      congr 1
      omega
    rw [e1, e2]
    simp

theorem splice_all {α : Type} {xs ys : List α} (h : xs.length = ys.length) : splice xs 0 ys = ys := by
  rw [splice_take ys xs 0 (by omega)]
  simp [h]

theorem leaves_p (xs : List PV) : (xs.map AV.p).all AV.leaf = true := by
  simp only [List.all_eq_true, List.mem_map]
  rintro _ ⟨x, _, rfl⟩
  rfl

/-- A range's own variable: made, then filled. -/
theorem stA_new {H : Heap} {n : Nat} {zs xs : List PV} {lo : List Nat} (h : zs.length = n) (h' : xs.length = n) (h0 : 0 < n) : stA n (.ptr H.length 0) (.agg (xs.map .p)) lo (H ++ [.box (zs.map .p)]) = some (H ++ [.box (xs.map .p)]) := by
  have e := stA_box (n := n) (off := 0) (lo := lo) (y := .agg (xs.map .p)) (H := H ++ [.box (zs.map .p)]) (id := H.length) (xs := zs.map .p) (by simp) (by simp [AV.cells, h']) (by simp [h]) (leaves_p xs) (okLevels_p lo _ xs) (by simp; omega)
  rw [e]
  simp only [AV.cells]
  rw [splice_all (by simp [h, h'])]
  simp

abbrev Ll := AV × Nat × Nat × List PV

def noRow : AObj → Bool
  | .row _ _ _ => false
  | _ => true

structure Cx (H : Heap) (fx : List (Nat × AObj)) (ls : List Ll) : Prop where
  obj : ∀ q ∈ fx, H[q.1]? = some q.2 ∧ noRow q.2 = true
  lst : ∀ q ∈ ls, Lst q.2.1 q.1 H q.2.2.1 q.2.2.2
  sep : ls.Pairwise fun a b => Sep a.1 b.1

section
variable {H : Heap} {fx : List (Nat × AObj)} {ls l2 : List Ll}

theorem Cx.box (h : Cx H fx ls) (q : Nat × List AV) (hq : (q.1, .box q.2) ∈ fx) : H[q.1]? = some (.box q.2) := (h.obj _ hq).1
theorem Cx.at (h : Cx H fx ls) {id : Nat} {o : AObj} (hq : (id, o) ∈ fx) : H[id]? = some o := (h.obj _ hq).1

theorem Cx.hd {o : AV} {sz m : Nat} {cs : List PV} (h : Cx H fx ((o, sz, m, cs) :: ls)) : Lst sz o H m cs := h.lst (o, sz, m, cs) (by simp)

theorem Cx.nil (H : Heap) : Cx H [] [] := ⟨fun _ h => (by cases h), fun _ h => (by cases h), .nil⟩

theorem Cx.push (h : Cx H fx ls) (os : List AObj) : Cx (H ++ os) fx ls :=
  ⟨fun q hq => ⟨push_get? (h.obj q hq).1 os, (h.obj q hq).2⟩, fun q hq => (h.lst q hq).push os, h.sep⟩

theorem Cx.newObj (h : Cx H fx ls) (o : AObj) (ho : noRow o = true) : Cx (H ++ [o]) ((H.length, o) :: fx) ls := by
  have h' := h.push [o]
  refine ⟨fun q hq => ?_, h'.lst, h'.sep⟩
  rcases List.mem_cons.mp hq with e | e
  · subst e; exact ⟨by simp, ho⟩
  · exact h'.obj q e

theorem Cx.newBox (h : Cx H fx ls) (xs : List AV) : Cx (H ++ [.box xs]) ((H.length, .box xs) :: fx) ls := h.newObj (.box xs) rfl

theorem Cx.mono {fx' : List (Nat × AObj)} {ls' : List Ll} (h : Cx H fx ls) (h1 : ∀ q ∈ fx', q ∈ fx) (h2 : ls'.Sublist ls) : Cx H fx' ls' :=
  ⟨fun q hq => h.obj q (h1 q hq), fun q hq => h.lst q (h2.subset hq), h.sep.sublist h2⟩

/-- One list less, one variable less. -/
theorem Cx.tl {a : Ll} (h : Cx H fx (a :: ls)) : Cx H fx ls := h.mono (fun _ h => h) (List.sublist_cons_self _ _)
theorem Cx.bt {a : Nat × AObj} (h : Cx H (a :: fx) ls) : Cx H fx ls := h.mono (fun _ h => List.mem_cons_of_mem _ h) (List.Sublist.refl _)

theorem Cx.newNil (h : Cx H fx ls) (sz : Nat) : Cx H fx ((.p nilS, sz, 0, []) :: ls) := by
  refine ⟨h.obj, fun q hq => ?_, .cons (fun b hb => (Sep.nil _ _).symm) h.sep⟩
  rcases List.mem_cons.mp hq with e | e
  · subst e; exact Lst.nil sz H
  · exact h.lst q e

theorem Cx.newLit (h : Cx H fx ls) {sz m : Nat} {cs : List PV} (hl : cs.length = m * sz) : Cx H fx ((.p (.sl (some false) true m cs), sz, m, cs) :: ls) := by
  refine ⟨h.obj, fun q hq => ?_, .cons (fun b hb => (Sep.nil _ _).symm) h.sep⟩
  rcases List.mem_cons.mp hq with e | e
  · subst e; exact Lst.lit hl
  · exact h.lst q e

theorem Cx.perm {ls' : List Ll} (h : Cx H fx ls) (p : ls.Perm ls') : Cx H fx ls' :=
  ⟨h.obj, fun q hq => h.lst q (p.mem_iff.mpr hq), (List.Perm.pairwise_iff (fun h => Sep.symm h) p).mp h.sep⟩

/-- One more list, the last. -/
theorem Cx.putNil (h : Cx H fx ls) (sz : Nat) : Cx H fx (ls ++ [(.p nilS, sz, 0, [])]) := (h.newNil sz).perm (List.perm_append_singleton _ _).symm

theorem Sep.new {sz m : Nat} {b : AV} {H : Heap} {cs : List PV} (h : Lst sz b H m cs) {j g n : Nat} (hj : H.length ≤ j) : Sep (.row j g 0 n) b := by
  intro j' g' n' g'' n'' e e'
  cases e
  exact h.lt hj _ _ e'

theorem Cx.newRow (h : Cx H fx ls) {sz m : Nat} {cs : List PV} (hl : cs.length = m * sz) : Cx (H ++ [.row 0 sz cs]) fx ((.row H.length 0 0 m, sz, m, cs) :: ls) := by
  have h' := h.push [.row 0 sz cs]
  refine ⟨h'.obj, fun q hq => ?_, .cons (fun b hb => Sep.new (h.lst b hb) (Nat.le_refl _)) h'.sep⟩
  rcases List.mem_cons.mp hq with e | e
  · subst e; exact Lst.row hl (by simp)
  · exact h'.lst q e

theorem sepAt {l1 l2 : List Ll} {a : Ll} (h : (l1 ++ a :: l2).Pairwise fun a b => Sep a.1 b.1) : ∀ b, b ∈ l1 ∨ b ∈ l2 → Sep a.1 b.1 := by
  intro b hb
  rw [List.pairwise_append] at h
  rcases hb with hb | hb
  · exact (h.2.2 b hb a (by simp)).symm
  · exact (List.pairwise_cons.mp h.2.1).1 b hb

theorem sepPut {l1 l2 : List Ll} {a a' : Ll} (h : (l1 ++ a :: l2).Pairwise fun a b => Sep a.1 b.1) (h' : ∀ b, b ∈ l1 ∨ b ∈ l2 → Sep a'.1 b.1) : (l1 ++ a' :: l2).Pairwise fun a b => Sep a.1 b.1 := by
  rw [List.pairwise_append] at h ⊢
  refine ⟨h.1, List.pairwise_cons.mpr ⟨fun b hb => h' b (.inr hb), (List.pairwise_cons.mp h.2.1).2⟩, fun b hb c hc => ?_⟩
  rcases List.mem_cons.mp hc with e | e
  · subst e; exact (h' b (.inl hb)).symm
  · exact h.2.2 b hb c (List.mem_cons_of_mem _ e)

theorem mem_mid {α : Type} {l1 l2 : List α} {a b : α} (h : b ∈ l1 ++ a :: l2) : b = a ∨ (b ∈ l1 ∨ b ∈ l2) := by
  rcases List.mem_append.mp h with h | h
  · exact .inr (.inl h)
  · rcases List.mem_cons.mp h with h | h
    · exact .inl h
    · exact .inr (.inr h)
theorem mem_of_mid {α : Type} {l1 l2 : List α} {a b : α} (h : b ∈ l1 ∨ b ∈ l2) : b ∈ l1 ++ a :: l2 := by
  rcases h with h | h
  · exact List.mem_append_left _ h
  · exact List.mem_append_right _ (List.mem_cons_of_mem _ h)

theorem obj_keep {H H' : Heap} {out : AV} {sz m id : Nat} {cs : List PV} {o : AObj} (hl : Lst sz out H m cs) (hk : Keeps out H H') (h : H[id]? = some o ∧ noRow o = true) : H'[id]? = some o ∧ noRow o = true := by
  refine ⟨hk.2 id _ h.1 fun g n e => ?_, h.2⟩
  obtain ⟨_, ⟨nl, e', _⟩ | ⟨id', g', e', ho⟩⟩ := hl
  · rw [e'] at e; cases e
  · rw [e'] at e; cases e; rw [h.1] at ho; cases ho; cases h.2

/-- One of the lists is appended to. -/
theorem Cx.app {sz bytes m k : Nat} {o y : AV} {cs new : List PV} (l1 : List Ll) (h : Cx H fx (l1 ++ (o, sz, m, cs) :: l2)) (hy : cellsA sz y H = some (k, new)) (hn : new.length = k * sz) (hk : 0 < k) (hr : (m + k) * bytes ≤ room) :
    ∃ o' H', appA sz bytes o y H = some (o', H') ∧ Cx H' fx (l1 ++ (o', sz, m + k, cs ++ new) :: l2) ∧ ∃ id g, o' = .row id g 0 (m + k) := by
  have hL : Lst sz o H m cs := h.lst (o, sz, m, cs) (by simp)
  obtain ⟨o', H', e, hL', hK, _, h6, id, g, e', _⟩ := hL.app (bytes := bytes) hy hn hk hr
  have hs := sepAt h.sep
  refine ⟨o', H', e, ⟨fun q hq => obj_keep hL hK (h.obj q hq), fun q hq => ?_, sepPut h.sep fun b hb => (hs b hb).app (h.lst b (mem_of_mid hb)) h6⟩, id, g, e'⟩
  rcases mem_mid hq with e | e
  · subst e; exact hL'
  · exact (h.lst q (mem_of_mid e)).keep hK (hs q e)

theorem Keeps.setRow {H : Heap} {id g n : Nat} {o : AObj} : Keeps (.row id g 0 n) H (H.set id o) := by
  refine ⟨by simp, fun j o' hj hne => ?_⟩
  have : id ≠ j := fun e => hne g n (by rw [e])
  rw [List.getElem?_set_ne this]; exact hj

theorem Lst.at {sz id g m : Nat} {H : Heap} {cs : List PV} (h : Lst sz (.row id g 0 m) H m cs) : H[id]? = some (.row g sz cs) := by
  obtain ⟨_, ⟨nl, e, _⟩ | ⟨id', g', e, ho⟩⟩ := h
  · cases e
  · cases e; exact ho

/-- One of the lists' rows is written. -/
theorem Cx.setRow {sz m id g : Nat} {cs cs' : List PV} (l1 : List Ll) (h : Cx H fx (l1 ++ (.row id g 0 m, sz, m, cs) :: l2)) (hl : cs'.length = cs.length) :
    Cx (H.set id (.row g sz cs')) fx (l1 ++ (.row id g 0 m, sz, m, cs') :: l2) := by
  have hL : Lst sz (.row id g 0 m) H m cs := h.lst (.row id g 0 m, sz, m, cs) (by simp)
  have hlt := getElem?_lt hL.at
  have hs := sepAt h.sep
  refine ⟨fun q hq => obj_keep hL Keeps.setRow (h.obj q hq), fun q hq => ?_, sepPut h.sep fun b hb => hs b hb⟩
  rcases mem_mid hq with e | e
  · subst e; exact Lst.row (by rw [hl]; exact hL.1) (by rw [List.getElem?_set_self hlt])
  · exact (h.lst q (mem_of_mid e)).keep Keeps.setRow (hs q e)

/-- A cell of a row of single cells: where it lies, what it holds, how it is written. -/
theorem Cx.cell {m id g : Nat} {cs : List PV} (l1 : List Ll) (h : Cx H fx (l1 ++ (.row id g 0 m, 1, m, cs) :: l2)) {j : Nat} (hj : j < m) :
    idxA 1 (.row id g 0 m) (I j) = some (.rptr id g j) ∧ ld false 1 (.rptr id g j) H = (cs[j]?).map .p ∧ cs.length = m ∧
      ∀ x lo, stA 1 (.rptr id g j) (.p x) lo H = some (H.set id (.row g 1 (cs.set j x))) ∧ Cx (H.set id (.row g 1 (cs.set j x))) fx (l1 ++ (.row id g 0 m, 1, m, cs.set j x) :: l2) := by
  have hL : Lst 1 (.row id g 0 m) H m cs := h.lst (.row id g 0 m, 1, m, cs) (by simp)
  have hl : cs.length = m := by have := hL.1; omega
  refine ⟨?_, ?_, hl, fun x lo => ⟨stA_row hL.at (by omega), h.setRow l1 (by simp)⟩⟩
  · have := idxA_row (sz := 1) (id := id) (g := g) (off := 0) (n := m) (j := (j : Int)) (by omega)
    simpa using this
  · exact ld_row hL.at

/-- What stands is put otherwise. -/
theorem Cx.setObj {id : Nat} {o o' : AObj} (h : Cx H ((id, o) :: fx) ls) (hd : ∀ q ∈ fx, q.1 ≠ id) (ho : noRow o' = true) : Cx (H.set id o') ((id, o') :: fx) ls := by
  obtain ⟨h0, hn⟩ := h.obj (id, o) (by simp)
  have hlt := getElem?_lt h0
  refine ⟨fun q hq => ?_, fun q hq => ?_, h.sep⟩
  · rcases List.mem_cons.mp hq with e | e
    · subst e; exact ⟨List.getElem?_set_self hlt, ho⟩
    · rw [List.getElem?_set_ne fun e' => hd q e e'.symm]; exact h.obj q (by simp [e])
  · refine (h.lst q hq).set fun g n e => ?_
    have hL := h.lst q hq
    obtain ⟨_, ⟨nl, e', _⟩ | ⟨id', g', e', h1⟩⟩ := hL
    · rw [e'] at e; cases e
    · rw [e'] at e; cases e
      simp only at h0 hn
      rw [h0] at h1
      cases h1
      cases hn

theorem Cx.setBox {id : Nat} {xs : List AV} (h : Cx H ((id, .box xs) :: fx) ls) (hd : ∀ q ∈ fx, q.1 ≠ id) (ys : List AV) : Cx (H.set id (.box ys)) ((id, .box ys) :: fx) ls := h.setObj hd rfl

theorem Cx.lt (h : Cx H fx ls) : ∀ q ∈ fx, q.1 ≠ H.length := by
  intro q hq e
  have := getElem?_lt (h.obj q hq).1
  omega

end
end Go.AM
