import Derived.Test.YtkhbbjfdbbnojaaClS
set_option linter.unusedVariables false
set_option linter.unusedSimpArgs false
namespace Go.Proofs.Ytkhbbjfdbbnojaa
open Go Go.AM
namespace Cl

abbrev P2 := Int × Int
def encP (p : P2) : List PV := [Ia p.1, Ia p.2]
theorem len2 (p : P2) : (encP p).length = 2 := rfl
abbrev mI (kvs : List (Kv Int)) (c : Nat) : AObj := mapObj (fun n : Int => I n) kvs c
abbrev oP (o : AV) (out : List P2) : Ll := (o, 2, out.length, out.flatMap encP)

/-- The weaver's own place. -/
abbrev ownW (o : AV) (k0 : List (Kv Int)) (c0 : Nat) (sp : List (En Int)) (c1 : Nat) (k2 : List (Kv Int)) (c2 : Nat) (fr : List (En Int)) (c3 : Nat) (X : List (Nat × AObj)) : List (Nat × AObj) :=
  (4, .box [.mp 0, .mp 1, .mp 2, .mp 3, o]) :: (0, mI k0 c0) :: (1, mI (kvE sp) c1) :: (2, mI k2 c2) :: (3, mI (kvE fr) c3) :: X

/-- A row under way: none yet, or one of its own. -/
def Ro (o : AV) (out : List P2) : Prop := (o = .p nilS ∧ out = []) ∨ ∃ id g, o = .row id g 0 out.length ∧ 0 < out.length

structure WS (X : List (Nat × AObj)) (H : Heap) (o : AV) (out : List P2) (k0 : List (Kv Int)) (c0 : Nat) (sp : List (En Int)) (c1 : Nat) (k2 : List (Kv Int)) (c2 : Nat) (fr : List (En Int)) (c3 : Nat) : Prop where
  cx : Cx H (ownW o k0 c0 sp c1 k2 c2 fr c3 X) (oP o out :: (llE sp ++ llE fr))
  w0 : WfM k0 c0
  w1 : WfM (kvE sp) c1
  w2 : WfM k2 c2
  w3 : WfM (kvE fr) c3
  ids : ∀ q ∈ X, 5 ≤ q.1
  ro : Ro o out

theorem Lst.ldI {o : AV} {H : Heap} {m : Nat} {zs : List Int} (h : Lst 1 o H m (zs.map Ia)) {i : Nat} (hi : i < zs.length) (hm : m = zs.length) : ∃ p, idxA 1 o (I i) = some p ∧ ld false 1 p H = some (I zs[i]) := by
  obtain ⟨hl, ⟨nl, rfl, h1⟩ | ⟨id, g, rfl, ho⟩⟩ := h
  · subst hm
    exact ⟨_, idxV hi, ldV hi H⟩
  · refine ⟨_, rowI (by omega), ?_⟩
    rw [ld_row ho]
    simp [hi]

section
variable {X : List (Nat × AObj)} {H : Heap} {o : AV} {out : List P2} {k0 k2 : List (Kv Int)} {c0 c1 c2 c3 : Nat} {sp fr : List (En Int)}

theorem ent183 (h : WS X H o out k0 c0 sp c1 k2 c2 fr c3) (hn : out.length < 2 ^ 30) (i j : Int) :
    ∃ H' o', O.ent 183 [.ptr 4 0, I i, I j] [] H = some ([], H') ∧ WS X H' o' (out ++ [(i, j)]) k0 c0 sp c1 k2 c2 fr c3 := by
  have hb : H[4]? = some (.box [.mp 0, .mp 1, .mp 2, .mp 3, o]) := h.cx.at (by simp)
  have hlit : litA false 2 [.agg [I i, I j]] H = some (.p (.sl (some false) true 1 (encP (i, j))), H) := rfl
  have hcl : cellsA 2 (.p (.sl (some false) true 1 (encP (i, j)))) H = some (1, encP (i, j)) := rfl
  obtain ⟨o', H1, ea, h2, id', g', eo⟩ := Cx.app (bytes := 16) (y := .p (.sl (some false) true 1 (encP (i, j)))) [] h.cx hcl rfl (by omega) (by simp only [room]; omega)
  have hb1 : H1[4]? = some (.box [.mp 0, .mp 1, .mp 2, .mp 3, o]) := h2.at (by simp)
  have hc : o'.cells = [o'] := by rw [eo]; rfl
  have hst : stA 1 (.ptr 4 (0 + 4)) o' [] H1 = some (H1.set 4 (.box [.mp 0, .mp 1, .mp 2, .mp 3, o'])) := by
    rw [stA_box (n := 1) (off := 0 + 4) (y := o') (lo := []) hb1 (by rw [hc]; rfl) (by simp) (by rw [hc, eo]; rfl) rfl (by simp), hc]
    rfl
  refine ⟨H1.set 4 (.box [.mp 0, .mp 1, .mp 2, .mp 3, o']), o', ?_, ?_, h.w0, h.w1, h.w2, h.w3, h.ids, .inr ⟨id', g', by rw [eo]; simp, by simp⟩⟩
  · have hld : ld false 1 (.ptr 4 (0 + 4)) H = some o := by rw [ld_box hb]; rfl
    have hbld : buildA [(I 0), (I 0)] [(0, 1, I i), (1, 1, I j)] = some (.agg [I i, I j]) := rfl
    have nilP : nilCheckA (.ptr 4 0) = some (.ptr 4 0) := rfl
    rw [f183_eq]
    simp only [nilP, fldA_ptr, hld, hbld, hlit, ea, hst, obs, oms]
    rfl
  · have h3 := h2.setBox (fun q hq => by
      simp only [List.mem_cons] at hq
      rcases hq with e | e | e | e | e
      · rw [e]; simp
      · rw [e]; simp
      · rw [e]; simp
      · rw [e]; simp
      · have := h.ids q e; omega) [.mp 0, .mp 1, .mp 2, .mp 3, o']
    have e2 : oP o' (out ++ [(i, j)]) = (o', 2, out.length + 1, out.flatMap encP ++ encP (i, j)) := by simp
    rw [e2]
    exact h3

theorem m183 : cfg.mode 183 = 1 := rfl
theorem m184 : cfg.mode 184 = 1 := rfl

theorem ent184 {zs : List Int} {oz : AV} (hz : (oz, 1, zs.length, zs.map Ia) ∈ llE sp ++ llE fr ∨ (oz = .p nilS ∧ zs = [])) (hzl : zs.length < 2 ^ 20) (j : Int) (h : WS X H o out k0 c0 sp c1 k2 c2 fr c3) (hn : out.length + zs.length < 2 ^ 30) :
    ∃ H' o', O.ent 184 [.ptr 4 0, oz, I j] [] H = some ([], H') ∧ WS X H' o' (out ++ zs.map fun z => (z, j)) k0 c0 sp c1 k2 c2 fr c3 := by
  have hL : ∀ {H : Heap} {o : AV} {out : List P2}, WS X H o out k0 c0 sp c1 k2 c2 fr c3 → Lst 1 oz H zs.length (zs.map Ia) := by
    intro H o out h
    rcases hz with hz | ⟨rfl, rfl⟩
    · exact h.cx.lst _ (List.mem_cons_of_mem _ hz)
    · exact Lst.nil 1 H
  have go : ∀ (t i : Nat) (H : Heap) (o : AV), zs.length - i = t → i ≤ zs.length → WS X H o (out ++ (zs.take i).map fun z => (z, j)) k0 c0 sp c1 k2 c2 fr c3 →
      ∃ H' o', L184_4 [.ptr 4 0, I j, oz, I zs.length, I i] [] H = some ([], H') ∧ WS X H' o' (out ++ zs.map fun z => (z, j)) k0 c0 sp c1 k2 c2 fr c3 := by
    intro t
    induction t with
    | zero =>
      intro i H o ht hi h
      have : i = zs.length := by omega
      subst this
      rw [List.take_length] at h
      refine ⟨H, o, ?_, h⟩
      rw [L184_4_eq]
      simp only [Int.lt_irrefl, obs, oms, bin_add, bin_sub, bin_lss, bin_leq, bin_gtr, bin_geq, bin_eql, bin_neq, bin_eqlB, bin_neqB, un_not, cond_B, gd_B, gd_undef, gdH_B, gdH_undef, pickA_B, extractA_tup, lenA_sl, lenA_row, fldA_fp, fldA_ptr, fldA_rptr, List.getElem?_cons_zero, List.getElem?_cons_succ, decide_true, decide_false, if_true, if_false, Bool.true_eq_false, Bool.false_eq_true, Bool.not_true, Bool.not_false]
      rfl
    | succ t ih =>
      intro i H o ht hi h
      have hi' : i < zs.length := by omega
      have hlt : (i : Int) < zs.length := by omega
      obtain ⟨p, e1, e2⟩ := Lst.ldI (hL h) hi' rfl
      obtain ⟨H1, o1, e3, h1⟩ := ent183 h (by simp; omega) zs[i] j
      have c183 : callA cfg O 183 [.ptr 4 0, I zs[i], I j] [] H = _ := callA_keep m183 e3
      have e4 : (out ++ (zs.take i).map fun z => (z, j)) ++ [(zs[i], j)] = out ++ (zs.take (i + 1)).map fun z => (z, j) := by
        rw [List.take_add_one, List.getElem?_eq_getElem hi', List.map_append, List.append_assoc]
        rfl
      rw [e4] at h1
      obtain ⟨H2, o2, e5, h2⟩ := ih (i + 1) H1 o1 (by omega) (by omega) h1
      refine ⟨H2, o2, ?_, h2⟩
      rw [L184_4_eq]
      simp only [hlt, e1, e2, c183, obs, oms, bin_add, bin_sub, bin_lss, bin_leq, bin_gtr, bin_geq, bin_eql, bin_neq, bin_eqlB, bin_neqB, un_not, cond_B, gd_B, gd_undef, gdH_B, gdH_undef, pickA_B, extractA_tup, lenA_sl, lenA_row, fldA_fp, fldA_ptr, fldA_rptr, List.getElem?_cons_zero, List.getElem?_cons_succ, decide_true, decide_false, if_true, if_false, Bool.true_eq_false, Bool.false_eq_true, Bool.not_true, Bool.not_false]
      rw [wrap_id (by omega), nxt]
      exact e5
  obtain ⟨H', o', e, h'⟩ := go zs.length 0 H o (by omega) (by omega) (by simpa using h)
  refine ⟨H', o', ?_, h'⟩
  rw [f184_eq]
  simp only [(hL h).len, obs]
  exact e

/-- What a place holds: places, if any. -/
def Ag (kvs : List (Kv Int)) (la : Int → Option Int) : Prop := ∀ t, aget kvs t = (la t).map fun n => I n

theorem Ag.put {kvs : List (Kv Int)} {la : Int → Option Int} (h : Ag kvs la) (k n : Int) (c : Nat) : Ag (aput kvs k (I n) c) (fun t => if t = k then some n else la t) := by
  intro t
  rw [aget_put]
  by_cases e : t = k
  · simp only [e, if_true, Option.map_some]
  · simp only [e, if_false]; exact h t

theorem WS.putLast (h : WS X H o out k0 c0 sp c1 k2 c2 fr c3) (t n : Int) : ∃ H' c0', mapUpdA .int (.mp 0) (I t) (I n) [] H = some H' ∧ WS X H' o out (aput k0 t (I n) c0) c0' sp c1 k2 c2 fr c3 := by
  have h1 : Cx H ((0, mI k0 c0) :: (4, .box [.mp 0, .mp 1, .mp 2, .mp 3, o]) :: (1, mI (kvE sp) c1) :: (2, mI k2 c2) :: (3, mI (kvE fr) c3) :: X) (oP o out :: (llE sp ++ llE fr)) :=
    h.cx.mono (fun q hq => by simp only [List.mem_cons] at hq ⊢; rcases hq with e | e | e | e | e | e <;> simp [e]) (List.Sublist.refl _)
  obtain ⟨c', H', e, h2, h3⟩ := h1.mapPut key_int (fun q hq => by
    simp only [List.mem_cons] at hq
    rcases hq with e | e | e | e | e
    · rw [e]; simp
    · rw [e]; simp
    · rw [e]; simp
    · rw [e]; simp
    · have := h.ids q e; omega) h.w0 t (v := I n) (lo := []) rfl
  exact ⟨H', c', e, h2.mono (fun q hq => by simp only [List.mem_cons] at hq ⊢; rcases hq with e | e | e | e | e | e <;> simp [e]) (List.Sublist.refl _), h3, h.w1, h.w2, h.w3, h.ids, h.ro⟩

theorem WS.putOver (h : WS X H o out k0 c0 sp c1 k2 c2 fr c3) (t n : Int) : ∃ H' c2', mapUpdA .int (.mp 2) (I t) (I n) [] H = some H' ∧ WS X H' o out k0 c0 sp c1 (aput k2 t (I n) c2) c2' fr c3 := by
  have h1 : Cx H ((2, mI k2 c2) :: (4, .box [.mp 0, .mp 1, .mp 2, .mp 3, o]) :: (0, mI k0 c0) :: (1, mI (kvE sp) c1) :: (3, mI (kvE fr) c3) :: X) (oP o out :: (llE sp ++ llE fr)) :=
    h.cx.mono (fun q hq => by simp only [List.mem_cons] at hq ⊢; rcases hq with e | e | e | e | e | e <;> simp [e]) (List.Sublist.refl _)
  obtain ⟨c', H', e, h2, h3⟩ := h1.mapPut key_int (fun q hq => by
    simp only [List.mem_cons] at hq
    rcases hq with e | e | e | e | e
    · rw [e]; simp
    · rw [e]; simp
    · rw [e]; simp
    · rw [e]; simp
    · have := h.ids q e; omega) h.w2 t (v := I n) (lo := []) rfl
  exact ⟨H', c', e, h2.mono (fun q hq => by simp only [List.mem_cons] at hq ⊢; rcases hq with e | e | e | e | e | e <;> simp [e]) (List.Sublist.refl _), h.w0, h.w1, h3, h.w3, h.ids, h.ro⟩

theorem WS.sp1 (h : WS X H o out k0 c0 sp c1 k2 c2 fr c3) : Cx H ((1, mI (kvE sp) c1) :: (4, .box [.mp 0, .mp 1, .mp 2, .mp 3, o]) :: (0, mI k0 c0) :: (2, mI k2 c2) :: (3, mI (kvE fr) c3) :: X) ([oP o out] ++ llE sp ++ llE fr) ∧ ∀ q ∈ ((4, .box [.mp 0, .mp 1, .mp 2, .mp 3, o]) :: (0, mI k0 c0) :: (2, mI k2 c2) :: (3, mI (kvE fr) c3) :: X : List (Nat × AObj)), q.1 ≠ 1 := by
  refine ⟨h.cx.mono (fun q hq => by simp only [List.mem_cons] at hq ⊢; rcases hq with e | e | e | e | e | e <;> simp [e]) (List.Sublist.refl _), fun q hq => ?_⟩
  simp only [List.mem_cons] at hq
  rcases hq with e | e | e | e | e
  · rw [e]; simp
  · rw [e]; simp
  · rw [e]; simp
  · rw [e]; simp
  · have := h.ids q e; omega
theorem WS.ofSp {sp' : List (En Int)} {c1' : Nat} {H' : Heap} (h : WS X H o out k0 c0 sp c1 k2 c2 fr c3) (h2 : Cx H' ((1, mI (kvE sp') c1') :: (4, .box [.mp 0, .mp 1, .mp 2, .mp 3, o]) :: (0, mI k0 c0) :: (2, mI k2 c2) :: (3, mI (kvE fr) c3) :: X) ([oP o out] ++ llE sp' ++ llE fr)) (hw : WfM (kvE sp') c1') : WS X H' o out k0 c0 sp' c1' k2 c2 fr c3 :=
  ⟨h2.mono (fun q hq => by simp only [List.mem_cons] at hq ⊢; rcases hq with e | e | e | e | e | e <;> simp [e]) (List.Sublist.refl _), h.w0, hw, h.w2, h.w3, h.ids, h.ro⟩
theorem WS.fr1 (h : WS X H o out k0 c0 sp c1 k2 c2 fr c3) : Cx H ((3, mI (kvE fr) c3) :: (4, .box [.mp 0, .mp 1, .mp 2, .mp 3, o]) :: (0, mI k0 c0) :: (1, mI (kvE sp) c1) :: (2, mI k2 c2) :: X) ((oP o out :: llE sp) ++ llE fr ++ []) ∧ ∀ q ∈ ((4, .box [.mp 0, .mp 1, .mp 2, .mp 3, o]) :: (0, mI k0 c0) :: (1, mI (kvE sp) c1) :: (2, mI k2 c2) :: X : List (Nat × AObj)), q.1 ≠ 3 := by
  refine ⟨h.cx.mono (fun q hq => by simp only [List.mem_cons] at hq ⊢; rcases hq with e | e | e | e | e | e <;> simp [e]) (by simp), fun q hq => ?_⟩
  simp only [List.mem_cons] at hq
  rcases hq with e | e | e | e | e
  · rw [e]; simp
  · rw [e]; simp
  · rw [e]; simp
  · rw [e]; simp
  · have := h.ids q e; omega
theorem WS.ofFr {fr' : List (En Int)} {c3' : Nat} {H' : Heap} (h : WS X H o out k0 c0 sp c1 k2 c2 fr c3) (h2 : Cx H' ((3, mI (kvE fr') c3') :: (4, .box [.mp 0, .mp 1, .mp 2, .mp 3, o]) :: (0, mI k0 c0) :: (1, mI (kvE sp) c1) :: (2, mI k2 c2) :: X) ((oP o out :: llE sp) ++ llE fr' ++ [])) (hw : WfM (kvE fr') c3') : WS X H' o out k0 c0 sp c1 k2 c2 fr' c3' :=
  ⟨h2.mono (fun q hq => by simp only [List.mem_cons] at hq ⊢; rcases hq with e | e | e | e | e | e <;> simp [e]) (by simp), h.w0, h.w1, h.w2, hw, h.ids, h.ro⟩
end
end Cl
end Go.Proofs.Ytkhbbjfdbbnojaa
