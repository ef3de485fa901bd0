/-
Lists of lists: built in a list of variables; given away.
-/
import Derived.Test.YtfdnamedmjhcfaaDoorAm24
set_option linter.unusedVariables false
set_option linter.unusedSimpArgs false
namespace Go.AM

def gLl (p : AV × List Int) : Ll := (p.1, 1, p.2.length, p.2.map Ia)

/-- A list under way is given away. -/
theorem Cx.toPV {sz m : Nat} {o : AV} {cs : List PV} {l2 : List Ll} {H : Heap} {fx : List (Nat × AObj)} (h : Cx H fx ((o, sz, m, cs) :: l2)) :
    ∃ nl tg H', AM.toPV H o = some (.sl nl tg m cs, H') ∧ Cx H' fx l2 ∧ H.length = H'.length ∧ (nl = some true → m = 0) := by
  have hL : Lst sz o H m cs := h.lst (o, sz, m, cs) (by simp)
  have hs := sepAt (l1 := []) h.sep
  have h2 := h.tl
  obtain ⟨hl, ⟨nl, rfl, h1⟩ | ⟨id, g, rfl, ho⟩⟩ := hL
  · exact ⟨nl, true, H, rfl, h2, rfl, h1⟩
  · refine ⟨if 0 < m then some false else none, false, H.set id (.row (g + 1) sz []), ?_, ⟨fun q hq => obj_keep (Lst.row hl ho) Keeps.setRow (h2.obj q hq), fun q hq => (h2.lst q hq).keep Keeps.setRow (hs q (.inr hq)), h2.sep⟩, by simp, ?_⟩
    · simp only [AM.toPV, ho, Nat.zero_add, hl, Nat.le_refl, and_self, if_true]
      rw [List.drop_zero, List.take_of_length_le (by omega)]
    · intro e; split at e <;> cases e

/-- A literal of one list under way. -/
theorem Cx.lit {o : AV} {d : List Int} {l2 : List Ll} {H : Heap} {fx : List (Nat × AObj)} (h : Cx H fx (gLl (o, d) :: l2)) :
    ∃ nl tg H', litA false 1 [o] H = some (.p (.sl (some false) true 1 [us (nl, tg, d)]), H') ∧ Cx H' fx l2 := by
  obtain ⟨nl, tg, H', e, h', _⟩ := Cx.toPV h
  refine ⟨nl, tg, H', ?_, h'⟩
  have hL : Lst 1 o H d.length (d.map Ia) := h.lst (gLl (o, d)) (by simp)
  have hc : o.cells = [o] := by
    obtain ⟨hl, ⟨nl, rfl, h1⟩ | ⟨id, g, rfl, ho⟩⟩ := hL <;> rfl
  simp only [litA, List.all_cons, List.all_nil, hc, List.length_singleton, beq_self_eq_true, Bool.and_true, if_true, litCells, List.append_nil, toPVs, e, obs, oms]
  rfl

theorem rr_idx {id n j : Nat} (h : j < n) : idxA 1 (.bsl id n) (I j) = some (.ptr id j) := by
  simp only [idxA]
  rw [if_pos (by omega)]
  simp

theorem rr_ld {H : Heap} {id t : Nat} {ps : List (AV × List Int)} {fx : List (Nat × AObj)} {ls : List Ll} (h : Cx H ((id, .box (ps.map Prod.fst)) :: fx) ls) (ht : t < ps.length) : ld false 1 (.ptr id t) H = some ps[t].1 := by
  rw [ld_box (h.box (id, ps.map Prod.fst) (by simp))]
  simp [ht]

theorem lst_leaf {sz m : Nat} {o : AV} {H : Heap} {cs : List PV} (h : Lst sz o H m cs) : o.cells = [o] ∧ o.leaf = true := by
  obtain ⟨hl, ⟨nl, rfl, h1⟩ | ⟨id, g, rfl, ho⟩⟩ := h <;> exact ⟨rfl, rfl⟩

theorem rr_app {H : Heap} {id t : Nat} {ps : List (AV × List Int)} {fx : List (Nat × AObj)} {l2 : List Ll} {x : Int} {lo : List Nat} (h : Cx H ((id, .box (ps.map Prod.fst)) :: fx) (ps.map gLl ++ l2)) (hd : ∀ q ∈ fx, q.1 ≠ id) (hlo : ∀ l ∈ lo, l ≤ id) (ht : t < ps.length) (hr : ps[t].2.length < 2 ^ 40) :
    ∃ o' H' H'', appA 1 8 ps[t].1 (.p (.sl (some false) true 1 [Ia x])) H = some (o', H') ∧ stA 1 (.ptr id t) o' lo H' = some H'' ∧
      Cx H'' ((id, .box ((ps.set t (o', ps[t].2 ++ [x])).map Prod.fst)) :: fx) ((ps.set t (o', ps[t].2 ++ [x])).map gLl ++ l2) := by
  have hsplit : ps.map gLl ++ l2 = (ps.take t).map gLl ++ (ps[t].1, 1, ps[t].2.length, ps[t].2.map Ia) :: ((ps.drop (t + 1)).map gLl ++ l2) := by
    have e : ps = ps.take t ++ ps[t] :: ps.drop (t + 1) := by rw [← List.drop_eq_getElem_cons ht, List.take_append_drop]
    have e2 := congrArg (List.map gLl) e
    rw [List.map_append, List.map_cons] at e2
    rw [e2, List.append_assoc]
    rfl
  rw [hsplit] at h
  obtain ⟨o', H', e, h', id', g', eo⟩ := h.app (bytes := 8) (y := .p (.sl (some false) true 1 [Ia x])) _ (cells1 _ _) rfl (by omega) (by simp only [room]; omega)
  have hb : H'[id]? = some (.box (ps.map Prod.fst)) := h'.box (id, _) (by simp)
  refine ⟨o', H', H'.set id (.box ((ps.map Prod.fst).set t o')), e, ?_, ?_⟩
  · have hc : o'.cells = [o'] := by rw [eo]; rfl
    have e1 := stA_box (n := 1) (off := t) (y := o') (lo := lo) hb (by rw [hc]; rfl) (by simp; omega) (by rw [hc, eo]; rfl) (by
      simp only [okLevels, List.all_eq_true, Bool.or_eq_true, decide_eq_true_eq]
      exact fun l hl => .inl (hlo l hl)) (by simp; omega)
    rw [e1, hc]
    rfl
  · have h2 := h'.setBox hd ((ps.map Prod.fst).set t o')
    have e2 : (ps.set t (o', ps[t].2 ++ [x])).map Prod.fst = (ps.map Prod.fst).set t o' := by rw [List.map_set]
    have e3 : (ps.set t (o', ps[t].2 ++ [x])).map gLl ++ l2 = (ps.take t).map gLl ++ (o', 1, ps[t].2.length + 1, ps[t].2.map Ia ++ [Ia x]) :: ((ps.drop (t + 1)).map gLl ++ l2) := by
      rw [List.set_eq_take_append_cons_drop, if_pos ht]
      simp [gLl]
    rw [e2, e3]
    exact h2

theorem rr_toPVs : ∀ (ps : List (AV × List Int)) (H : Heap) (fx : List (Nat × AObj)) (l2 : List Ll), Cx H fx (ps.map gLl ++ l2) →
    ∃ ds H', toPVs H (ps.map Prod.fst) = some (ds.map us, H') ∧ ints ds = ps.map Prod.snd ∧ Cx H' fx l2 := by
  intro ps
  induction ps with
  | nil => intro H fx l2 h; exact ⟨[], H, rfl, rfl, h⟩
  | cons p ps ih =>
    intro H fx l2 h
    obtain ⟨nl, tg, H1, e1, h1, _⟩ := Cx.toPV (o := p.1) (l2 := ps.map gLl ++ l2) h
    obtain ⟨ds, H2, e2, e3, h2⟩ := ih H1 fx l2 h1
    refine ⟨(nl, tg, p.2) :: ds, H2, ?_, by simp [ints] at e3 ⊢; exact e3, h2⟩
    simp only [List.map_cons, toPVs, e1, obs, e2, oms]
    rfl

theorem rr_frz {H : Heap} {id : Nat} {ps : List (AV × List Int)} {fx : List (Nat × AObj)} (h : Cx H ((id, .box (ps.map Prod.fst)) :: fx) (ps.map gLl)) (h0 : 0 < ps.length) :
    ∃ ds H', frzA H (.bsl id ps.length) = some (.p (.sl (some false) false ps.length (ds.map us)), H') ∧ ints ds = ps.map Prod.snd := by
  have hb := h.box (id, ps.map Prod.fst) (by simp)
  obtain ⟨ds, H', e1, e2, h'⟩ := rr_toPVs ps H _ [] (by simpa using h)
  have hb' := h'.box (id, ps.map Prod.fst) (by simp)
  refine ⟨ds, H'.set id (.box []), ?_, e2⟩
  simp only [frzA, frzLeaf, frzBox, hb, e1, obs, hb']
  rw [if_pos ⟨trivial, by simpa using h0⟩]
  rfl

theorem zeros_one (n : Nat) (x : PV) : zerosA n [x] = List.replicate n x := by
  unfold zerosA
  induction n with
  | zero => rfl
  | succ n ih => rw [List.replicate_succ, List.flatten_cons, ih, List.replicate_succ]; rfl

/-- A list of so many lists is made. -/
theorem rr_make {H : Heap} {fx : List (Nat × AObj)} {l2 : List Ll} {n : Nat} (h : Cx H fx l2) (hn : n < 2 ^ 40) (h0 : 0 < n) :
    ∃ H', mkBsl 1 24 [nilS] (I n) (I n) H = some (.bsl H.length n, H') ∧ Cx H' ((H.length, .box ((List.replicate n ((.p nilS, []) : AV × List Int)).map Prod.fst)) :: fx) ((List.replicate n ((.p nilS, []) : AV × List Int)).map gLl ++ l2) := by
  refine ⟨H ++ [.box ((List.replicate n nilS).map .p)], ?_, ?_⟩
  · have hne : ¬ zerosA n [nilS] = [] := by rw [zeros_one]; intro e; have := congrArg List.length e; simp at this; omega
    simp only [mkBsl, asI, obs, Int.toNat_natCast]
    rw [if_neg hne, if_pos ⟨by omega, by trivial, by simp only [room]; omega⟩, zeros_one]
  · have h1 := h.newBox ((List.replicate n nilS).map .p)
    have e1 : (List.replicate n ((.p nilS, []) : AV × List Int)).map Prod.fst = (List.replicate n nilS).map AV.p := by simp
    rw [e1]
    clear h0 hn e1 h
    generalize ((List.replicate n nilS).map AV.p) = bs at *
    induction n with
    | zero => exact h1
    | succ n ih => exact Cx.newNil ih 1

end Go.AM
