import Derived.Test.YtkhbbjfdbbnojaaLoU
set_option linter.unusedVariables false
set_option linter.unusedSimpArgs false
namespace Go.Proofs.Ytkhbbjfdbbnojaa
open Go Go.AM
namespace Lo

/-! ### The first place of a number -/
theorem call120 {o : AV} {zs : List Int} {H : Heap} (h : Lst 1 o H zs.length (zs.map Ia)) (hl : zs.length < 2 ^ 40) (x : Int) (lo : List Nat) :
    ∃ r : Int, callA cfg O 120 [o, I x] lo H = some (I r, H) ∧ ((r < 0 ∧ x ∉ zs) ∨ ∃ i : Nat, r = i ∧ ∃ hi : i < zs.length, zs[i] = x) := by
  obtain ⟨nl, tg, q, ep⟩ := pureLst h
  have go : ∀ (c i : Nat), zs.length - i = c → i ≤ zs.length → x ∉ zs.take i → ∃ r : Int, L120_6 [V nl tg zs, I x, I zs.length, I i] [] [] = some ([I r], []) ∧ ((r < 0 ∧ x ∉ zs) ∨ ∃ i : Nat, r = i ∧ ∃ hi : i < zs.length, zs[i] = x) := by
    intro c
    induction c with
    | zero =>
      intro i hc hi hx
      have : i = zs.length := by omega
      subst this
      rw [List.take_length] at hx
      refine ⟨-1, ?_, .inl ⟨by omega, hx⟩⟩
      rw [L120_6_eq]
      simp only [Int.lt_irrefl, obs, oms, bin_add, bin_sub, bin_lss, bin_leq, bin_gtr, bin_geq, bin_eql, bin_neq, bin_eqlB, bin_neqB, un_not, cond_B, gd_B, gd_undef, gdH_B, gdH_undef, pickA_B, extractA_tup, lenA_sl, lenA_row, fldA_fp, fldA_ptr, fldA_rptr, List.getElem?_cons_zero, List.getElem?_cons_succ, decide_true, decide_false, if_true, if_false, Bool.true_eq_false, Bool.false_eq_true, Bool.not_true, Bool.not_false]
      rfl
    | succ c ih =>
      intro i hc hi hx
      have hi' : i < zs.length := by omega
      have hlt : (i : Int) < zs.length := by omega
      have w : IntKind.i64.wrap ((i : Int) + 1) = ((i + 1 : Nat) : Int) := by rw [wrap_id (by omega), nxt]
      by_cases he : x = zs[i]
      · refine ⟨i, ?_, .inr ⟨i, rfl, hi', he.symm⟩⟩
        rw [L120_6_eq]
        simp only [hlt, idxV hi', ldV hi', he, obs, oms, bin_add, bin_sub, bin_lss, bin_leq, bin_gtr, bin_geq, bin_eql, bin_neq, bin_eqlB, bin_neqB, un_not, cond_B, gd_B, gd_undef, gdH_B, gdH_undef, pickA_B, extractA_tup, lenA_sl, lenA_row, fldA_fp, fldA_ptr, fldA_rptr, List.getElem?_cons_zero, List.getElem?_cons_succ, decide_true, decide_false, if_true, if_false, Bool.true_eq_false, Bool.false_eq_true, Bool.not_true, Bool.not_false]
        rfl
      · obtain ⟨r, e, hr⟩ := ih (i + 1) (by omega) (by omega) (by
          rw [List.take_add_one, List.getElem?_eq_getElem hi']
          simp only [Option.toList_some, List.mem_append, List.mem_singleton, not_or]
          exact ⟨hx, he⟩)
        refine ⟨r, ?_, hr⟩
        rw [L120_6_eq]
        simp only [hlt, idxV hi', ldV hi', he, w, obs, oms, bin_add, bin_sub, bin_lss, bin_leq, bin_gtr, bin_geq, bin_eql, bin_neq, bin_eqlB, bin_neqB, un_not, cond_B, gd_B, gd_undef, gdH_B, gdH_undef, pickA_B, extractA_tup, lenA_sl, lenA_row, fldA_fp, fldA_ptr, fldA_rptr, List.getElem?_cons_zero, List.getElem?_cons_succ, decide_true, decide_false, if_true, if_false, Bool.true_eq_false, Bool.false_eq_true, Bool.not_true, Bool.not_false]
        exact e
  obtain ⟨r, e, hr⟩ := go zs.length 0 rfl (by omega) (by simp)
  refine ⟨r, ?_, hr⟩
  refine callA_rows (H' := []) (rs := [I r]) (ys := [V nl tg zs, I x]) (b := q || (false || false)) rfl ?_ ?_ rfl rfl
  · have px : pureArg H (I x) = some (I x, false) := rfl
    simp only [pureArgs, ep, px, obs, oms]
  · rw [f120_eq]
    simp only [lenA_sl, obs]
    exact e

/-! ### Order -/
abbrev mI (kvs : List (Kv Int)) (c : Nat) : AObj := mapObj (fun n : Int => I n) kvs c
abbrev oP (o : AV) (out : List P2) : Ll := (o, 2, out.length, out.flatMap encP)
def Ro (o : AV) (out : List P2) : Prop := (o = .p nilS ∧ out = []) ∨ ∃ id g, o = .row id g 0 out.length ∧ 0 < out.length

structure WO (X : List (Nat × AObj)) (H : Heap) (o : AV) (out : List P2) (es : List (En Int)) (c : Nat) : Prop where
  cx : Cx H ((0, mI (kvE es) c) :: X) ([oP o out] ++ llE es ++ [])
  w : WfM (kvE es) c
  re : RowsE es
  ids : ∀ q ∈ X, q.1 ≠ 0
  ro : Ro o out

section
variable {X : List (Nat × AObj)} {H : Heap} {o : AV} {out : List P2} {es : List (En Int)} {c : Nat} {l : List E} {nl : Option Bool} {tg : Bool}

theorem Lst.ldI {o : AV} {H : Heap} {m : Nat} {zs : List Int} (h : Lst 1 o H m (zs.map Ia)) {i : Nat} (hi : i < zs.length) (hm : m = zs.length) : ∃ p, idxA 1 o (I i) = some p ∧ ld false 1 p H = some (I zs[i]) := by
  obtain ⟨hl, ⟨nl, rfl, h1⟩ | ⟨id, g, rfl, ho⟩⟩ := h
  · subst hm
    exact ⟨_, idxV hi, ldV hi H⟩
  · refine ⟨_, rowI (by omega), ?_⟩
    rw [ld_row ho]
    simp [hi]

theorem WO.box (h : WO X H o out es c) (e : E) : WO ((H.length, bxE e) :: X) (H ++ [bxE e]) o out es c := by
  have h0 : 0 < H.length := getElem?_lt (h.cx.at (id := 0) (o := mI (kvE es) c) (by simp))
  refine ⟨?_, h.w, h.re, fun q hq => ?_, h.ro⟩
  · refine (h.cx.newObj (bxE e) rfl).mono (fun q hq => ?_) (List.Sublist.refl _)
    simp only [List.mem_cons] at hq ⊢
    rcases hq with e | e | e <;> simp [e]
  · rcases List.mem_cons.mp hq with e | e
    · rw [e]; show H.length ≠ 0; omega
    · exact h.ids q e
theorem WO.map (h : WO X H o out es c) : H[0]? = some (mI (kvE es) c) := h.cx.at (by simp)
theorem WO.lst (h : WO X H o out es c) {x8 : AV} {zs : List Int} (hx : (x8, 1, zs.length, zs.map Ia) ∈ llE es ∨ (x8 = .p nilS ∧ zs = [])) : Lst 1 x8 H zs.length (zs.map Ia) := by
  rcases hx with hx | ⟨rfl, rfl⟩
  · exact h.cx.lst _ (List.mem_append_left _ (List.mem_append_right _ hx))
  · exact Lst.nil 1 H
/-- One more pair. -/
theorem WO.app (h : WO X H o out es c) (p : P2) (hn : out.length < 2 ^ 30) : ∃ o' H', appA 2 16 o (.p (.sl (some false) true 1 (encP p))) H = some (o', H') ∧ WO X H' o' (out ++ [p]) es c := by
  have hcl : cellsA 2 (.p (.sl (some false) true 1 (encP p))) H = some (1, encP p) := rfl
  obtain ⟨o', H1, ea, h2, id', g', eo⟩ := Cx.app (bytes := 16) (y := .p (.sl (some false) true 1 (encP p))) [] (l2 := llE es ++ []) h.cx hcl rfl (by omega) (by simp only [room]; omega)
  refine ⟨o', H1, ea, ?_, h.w, h.re, h.ids, .inr ⟨id', g', by rw [eo]; simp, by simp⟩⟩
  have e2 : oP o' (out ++ [p]) = (o', 2, out.length + 1, out.flatMap encP ++ encP p) := by simp
  rw [e2]
  exact h2

theorem loop26 {T A : Int} {x8 : AV} {zs : List Int} {r : Int} {pe j : Nat} {e : E} (hA : e.2.2.2.2.2.2.1 = A) (hx : (x8, 1, zs.length, zs.map Ia) ∈ llE es ∨ (x8 = .p nilS ∧ zs = [])) (hzl : zs.length < 2 ^ 20) (hpe : (pe, bxE e) ∈ X) :
    ∀ (c' t : Nat) (H : Heap) (o : AV), zs.length - t = c' → t ≤ zs.length → out.length < 2 ^ 20 → WO X H o (out ++ ((zs.take t).filter fun n => decide (n ≠ A)).map fun n => (n, A)) es c →
    ∃ H' o', L65_26 [.mp 0, o, .ptr pe 0, x8, I r, Rw enc nl tg l, I l.length, I j, x8, I zs.length, I t] [] H = L65_26 [.mp 0, o', .ptr pe 0, x8, I r, Rw enc nl tg l, I l.length, I j, x8, I zs.length, I zs.length] [] H' ∧
      WO X H' o' (out ++ (zs.filter fun n => decide (n ≠ A)).map fun n => (n, A)) es c := by
  intro c'
  induction c' with
  | zero =>
    intro t H o hc ht hol h
    have : t = zs.length := by omega
    subst this
    rw [List.take_length] at h
    exact ⟨H, o, rfl, h⟩
  | succ c' ih =>
    intro t H o hc ht hol h
    have ht' : t < zs.length := by omega
    have hlt : (t : Int) < zs.length := by omega
    have w : IntKind.i64.wrap ((t : Int) + 1) = ((t + 1 : Nat) : Int) := by rw [wrap_id (by omega), nxt]
    obtain ⟨p, e1, e2⟩ := Lst.ldI (h.lst hx) ht' rfl
    have hb : H[pe]? = some (bxE e) := h.cx.at (List.mem_cons_of_mem _ hpe)
    have lA : ld false 1 (.ptr pe (0 + 6)) H = some (I A) := by rw [ld_box hb, ← hA]; rfl
    have hfl : ((zs.take t).filter fun n => decide (n ≠ A)).length ≤ t := Nat.le_trans (List.length_filter_le _ _) (by simp; omega)
    have etk : (zs.take (t + 1)).filter (fun n => decide (n ≠ A)) = (zs.take t).filter (fun n => decide (n ≠ A)) ++ if zs[t] ≠ A then [zs[t]] else [] := by
      rw [List.take_add_one, List.getElem?_eq_getElem ht', List.filter_append]
      congr 1
      by_cases h : zs[t] = A <;> simp [h]
    by_cases hne : zs[t] = A
    · rw [if_neg (by simpa using hne), List.append_nil] at etk
      rw [← etk] at h
      obtain ⟨H', o', e3, h3⟩ := ih (t + 1) H o (by omega) (by omega) hol h
      refine ⟨H', o', ?_, h3⟩
      rw [← e3]
      conv => lhs; rw [L65_26_eq]
      simp only [hlt, e1, e2, lA, hne, L65_35_eq, w, obs, oms, bin_add, bin_sub, bin_lss, bin_leq, bin_gtr, bin_geq, bin_eql, bin_neq, bin_eqlB, bin_neqB, un_not, cond_B, gd_B, gd_undef, gdH_B, gdH_undef, pickA_B, extractA_tup, lenA_sl, lenA_row, fldA_fp, fldA_ptr, fldA_rptr, List.getElem?_cons_zero, List.getElem?_cons_succ, decide_true, decide_false, if_true, if_false, Bool.true_eq_false, Bool.false_eq_true, Bool.not_true, Bool.not_false]
    · rw [if_pos hne] at etk
      have hlit : litA false 2 [.agg [I zs[t], I A]] H = some (.p (.sl (some false) true 1 (encP (zs[t], A))), H) := rfl
      have hbd : buildA [(I 0), (I 0)] [(0, 1, I zs[t]), (1, 1, I A)] = some (.agg [I zs[t], I A]) := rfl
      obtain ⟨o1, H1, e3, h1⟩ := h.app (zs[t], A) (by simp only [List.length_append, List.length_map]; omega)
      have e4 : (out ++ ((zs.take t).filter fun n => decide (n ≠ A)).map fun n => (n, A)) ++ [(zs[t], A)] = out ++ ((zs.take (t + 1)).filter fun n => decide (n ≠ A)).map fun n => (n, A) := by
        rw [etk]; simp
      rw [e4] at h1
      obtain ⟨H', o', e5, h5⟩ := ih (t + 1) H1 o1 (by omega) (by omega) hol h1
      refine ⟨H', o', ?_, h5⟩
      rw [← e5]
      conv => lhs; rw [L65_26_eq]
      simp only [hlt, e1, e2, lA, hne, hbd, hlit, e3, L65_35_eq, w, obs, oms, bin_add, bin_sub, bin_lss, bin_leq, bin_gtr, bin_geq, bin_eql, bin_neq, bin_eqlB, bin_neqB, un_not, cond_B, gd_B, gd_undef, gdH_B, gdH_undef, pickA_B, extractA_tup, lenA_sl, lenA_row, fldA_fp, fldA_ptr, fldA_rptr, List.getElem?_cons_zero, List.getElem?_cons_succ, decide_true, decide_false, if_true, if_false, Bool.true_eq_false, Bool.false_eq_true, Bool.not_true, Bool.not_false]

/-- One event. -/
theorem step65 {j : Nat} (hj : j < l.length) (hl : l.length ≤ 200) (h : WO X H o (outL l j) es c) (hcont : ∀ t, cont es t = hasL l j t) :
    ∃ X' H' o' es' c', L65_14 [.mp 0, o, Rw enc nl tg l, I l.length, I j] [] H = L65_14 [.mp 0, o', Rw enc nl tg l, I l.length, I ((j + 1 : Nat) : Int)] [] H' ∧ WO X' H' o' (outL l (j + 1)) es' c' ∧ ∀ t, cont es' t = hasL l (j + 1) t := by
  have hlt : (j : Int) < l.length := by omega
  have w : IntKind.i64.wrap ((j : Int) + 1) = ((j + 1 : Nat) : Int) := by rw [wrap_id (by omega), nxt]
  have hol := out_len (l := l) j (by omega)
  have hp := h.box (l.getD j z0)
  have z12 : ([(I 0), (I 0), (I 0), (I 0), (I 0), (I 0), (I 0), (I 0), (I 0), (I 0), (I 0), (I 0)] : List AV) = (List.replicate 12 (Ia 0)).map .p := rfl
  have hs : stA 12 (.ptr H.length 0) (avE (l.getD j z0)) [] (H ++ [.box ((List.replicate 12 (Ia 0)).map .p)]) = some (H ++ [bxE (l.getD j z0)]) := stA_new rfl rfl (by omega)
  generalize hpe : H.length = pe at *
  generalize H ++ [bxE (l.getD j z0)] = H0 at *
  generalize hX0 : (pe, bxE (l.getD j z0)) :: X = X0 at hp
  have hmem : (pe, bxE (l.getD j z0)) ∈ X0 := by rw [← hX0]; simp
  have gE : ∀ {H : Heap} {o : AV} {out : List P2} {es : List (En Int)} {c : Nat}, WO X0 H o out es c → H[pe]? = some (bxE (l.getD j z0)) := fun h => h.cx.at (List.mem_cons_of_mem _ hmem)
  obtain ⟨x8, hlk, hx8⟩ := mlLook key_int hp.map (Th l j)
  have hzl := has_len (l := l) j (Th l j)
  have hx8' : (x8, 1, (hasL l j (Th l j)).length, (hasL l j (Th l j)).map Ia) ∈ llE es ∨ (x8 = .p nilS ∧ hasL l j (Th l j) = []) := by rw [← hcont]; exact hx8
  have hdet : ∀ {H : Heap} {o : AV} {out : List P2}, WO X0 H o out es c → lookA .int (.p nilS) false (.mp 0) (I (Th l j)) H = some x8 := fun h2 => by
    rw [← hlk]
    have a1 := map_look (z := .p nilS) key_int h2.map (Th l j)
    have a2 := map_look (z := .p nilS) key_int hp.map (Th l j)
    exact a1.trans a2.symm
  obtain ⟨r, c120, hr⟩ := call120 (hp.lst hx8') (by omega) (Ea l j) []
  have hidx := idxE (nl := nl) (tg := tg) hj
  have b1 := boxE (List.replicate 12 (Ia 0)) H
  rw [hpe] at b1
  by_cases k13 : Kn l j = 13
  · obtain ⟨H1, o1, e1, h1⟩ := loop26 (nl := nl) (tg := tg) (l := l) (T := Th l j) (A := Ea l j) (r := r) (j := j) (e := l.getD j z0) (out := outL l j) rfl hx8' (by omega) hmem (hasL l j (Th l j)).length 0 H0 o rfl (by omega) (by omega) (by simpa using hp)
    have hout : outL l (j + 1) = outL l j ++ ((hasL l j (Th l j)).filter fun n => decide (n ≠ Ea l j)).map fun n => (n, Ea l j) := by
      rw [outL, if_pos k13]
    rw [← hout] at h1
    have hstart : L65_14 [.mp 0, o, Rw enc nl tg l, I l.length, I j] [] H = L65_26 [.mp 0, o1, .ptr pe 0, x8, I r, Rw enc nl tg l, I l.length, I j, x8, I (hasL l j (Th l j)).length, I (hasL l j (Th l j)).length] [] H1 := by
      rw [← e1, L65_14_eq]
      simp only [hlt, hidx, ldEv hj, z12, b1, hs, bT (gE hp), bA (gE hp), bK (gE hp), hlk, c120, k13, (hp.lst hx8').len, obs, oms, bin_add, bin_sub, bin_lss, bin_leq, bin_gtr, bin_geq, bin_eql, bin_neq, bin_eqlB, bin_neqB, un_not, cond_B, gd_B, gd_undef, gdH_B, gdH_undef, pickA_B, extractA_tup, lenA_sl, lenA_row, fldA_fp, fldA_ptr, fldA_rptr, List.getElem?_cons_zero, List.getElem?_cons_succ, decide_true, decide_false, if_true, if_false, Bool.true_eq_false, Bool.false_eq_true, Bool.not_true, Bool.not_false]
      rfl
    rw [hstart, L65_26_eq]
    by_cases hm : Ea l j ∈ hasL l j (Th l j)
    · obtain ⟨i, rfl, hi, he⟩ : ∃ i : Nat, r = i ∧ ∃ hi : i < (hasL l j (Th l j)).length, (hasL l j (Th l j))[i] = Ea l j := hr.resolve_left fun h => h.2 hm
      have hneg : ¬ (i : Int) < 0 := by omega
      refine ⟨X0, H1, o1, es, c, ?_, h1, fun t => ?_⟩
      · simp only [Int.lt_irrefl, hneg, L65_45_eq, w, obs, oms, bin_add, bin_sub, bin_lss, bin_leq, bin_gtr, bin_geq, bin_eql, bin_neq, bin_eqlB, bin_neqB, un_not, cond_B, gd_B, gd_undef, gdH_B, gdH_undef, pickA_B, extractA_tup, lenA_sl, lenA_row, fldA_fp, fldA_ptr, fldA_rptr, List.getElem?_cons_zero, List.getElem?_cons_succ, decide_true, decide_false, if_true, if_false, Bool.true_eq_false, Bool.false_eq_true, Bool.not_true, Bool.not_false]
      · rw [hcont]
        conv => rhs; unfold hasL
        by_cases ht : Th l j = t
        · subst ht; rw [if_pos rfl, if_pos k13, if_pos hm]
        · rw [if_neg ht]
    · have hneg : r < 0 := by
        rcases hr with h | ⟨i, _, hi, he⟩
        · exact h.1
        · exact (hm (he ▸ List.getElem_mem _)).elim
      obtain ⟨o2, o2', H2, H3, es', c', q1, q2, q3, q4, q5, q6, q7⟩ := mlApp2 key_int h1.cx h1.ids h1.w (Th l j) (Ea l j) (by rw [hcont]; omega) h1.re
      have hoo : o2 = x8 := Option.some.inj (q1.symm.trans (hdet h1))
      subst hoo
      refine ⟨X0, H3, o1, es', c', ?_, ⟨q4, q5, q6, h1.ids, h1.ro⟩, fun t => ?_⟩
      · simp only [Int.lt_irrefl, hneg, ldS_ptr, bT (gE h1), bA (gE h1), lit1, q2, q3, L65_45_eq, w, obs, oms, bin_add, bin_sub, bin_lss, bin_leq, bin_gtr, bin_geq, bin_eql, bin_neq, bin_eqlB, bin_neqB, un_not, cond_B, gd_B, gd_undef, gdH_B, gdH_undef, pickA_B, extractA_tup, lenA_sl, lenA_row, fldA_fp, fldA_ptr, fldA_rptr, List.getElem?_cons_zero, List.getElem?_cons_succ, decide_true, decide_false, if_true, if_false, Bool.true_eq_false, Bool.false_eq_true, Bool.not_true, Bool.not_false]
      · rw [q7, hcont, hcont]
        conv => rhs; unfold hasL
        by_cases ht : Th l j = t
        · subst ht; rw [if_pos rfl, if_pos rfl, if_pos k13, if_neg hm]
        · rw [if_neg (fun e => ht e.symm), if_neg ht]
  have hout : outL l (j + 1) = outL l j := by rw [outL, if_neg k13, List.append_nil]
  rw [hout]
  by_cases k14 : Kn l j = 14
  · by_cases hm : Ea l j ∈ hasL l j (Th l j)
    · obtain ⟨i, rfl, hi, he⟩ : ∃ i : Nat, r = i ∧ ∃ hi : i < (hasL l j (Th l j)).length, (hasL l j (Th l j))[i] = Ea l j := hr.resolve_left fun h => h.2 hm
      have h0i : (0 : Int) ≤ i := by omega
      have wi : IntKind.i64.wrap ((i : Int) + 1) = ((i + 1 : Nat) : Int) := by rw [wrap_id (by omega), nxt]
      obtain ⟨jd, g, H2, es', c', q1, q2, q3, q4, q5, q6, q7⟩ := mlCut key_int hp.cx hp.ids hp.w (Th l j) (i := i) (by rw [hcont]; exact hi) hp.re
      have hoo : x8 = .row jd g 0 (cont es (Th l j)).length := Option.some.inj ((hdet hp).symm.trans q1)
      subst hoo
      have m121 : cfg.mode 121 = 6 := rfl
      have hi2 : i < (cont es (Th l j)).length := by rw [hcont]; exact hi
      have e121 : O.ent 121 [.row jd g 0 (cont es (Th l j)).length, I i, I ((i + 1 : Nat) : Int)] [] H0 = some ([.row jd (g + 1) 0 ((cont es (Th l j)).length - 1)], H0.set jd (.row (g + 1) 1 (((cont es (Th l j)).take i ++ (cont es (Th l j)).drop (i + 1)).map Ia))) := by
        have : O.ent 121 [.row jd g 0 (cont es (Th l j)).length, I i, I ((i + 1 : Nat) : Int)] [] H0 = extRun cfg O .del [.row jd g 0 (cont es (Th l j)).length, I i, I ((i + 1 : Nat) : Int)] H0 := by
          rw [O_ent]
          rfl
        rw [this]
        exact del_run q2 hi2 (by rw [hcont]; omega)
      have c121 : callA cfg O 121 [.row jd g 0 (cont es (Th l j)).length, I i, I ((i + 1 : Nat) : Int)] [] H0 = some (.row jd (g + 1) 0 ((cont es (Th l j)).length - 1), H0.set jd (.row (g + 1) 1 (((cont es (Th l j)).take i ++ (cont es (Th l j)).drop (i + 1)).map Ia))) := callA_rows6 m121 q2 e121
      have n1413 : ¬ (14 : Int) = 13 := by omega
      refine ⟨X0, H2, o, es', c', ?_, ⟨q4, q5, q6, hp.ids, hp.ro⟩, fun t => ?_⟩
      · rw [L65_14_eq]
        simp only [hlt, hidx, ldEv hj, z12, b1, hs, bT (gE hp), bA (gE hp), bK (gE hp), ldS_ptr, hlk, c120, k14, n1413, h0i, wi, c121, q3, L65_45_eq, w, obs, oms, bin_add, bin_sub, bin_lss, bin_leq, bin_gtr, bin_geq, bin_eql, bin_neq, bin_eqlB, bin_neqB, un_not, cond_B, gd_B, gd_undef, gdH_B, gdH_undef, pickA_B, extractA_tup, lenA_sl, lenA_row, fldA_fp, fldA_ptr, fldA_rptr, List.getElem?_cons_zero, List.getElem?_cons_succ, decide_true, decide_false, if_true, if_false, Bool.true_eq_false, Bool.false_eq_true, Bool.not_true, Bool.not_false]
      · rw [q7, hcont, hcont]
        conv => rhs; unfold hasL
        by_cases ht : Th l j = t
        · subst ht
          rw [if_pos rfl, if_pos rfl, if_neg k13, if_pos k14]
          exact cut_filter (has_nodup _ _) hi he
        · rw [if_neg (fun e => ht e.symm), if_neg ht]
    · have hneg : r < 0 := by
        rcases hr with h | ⟨i, _, hi, he⟩
        · exact h.1
        · exact (hm (he ▸ List.getElem_mem _)).elim
      have hneg' : ¬ 0 ≤ r := by omega
      refine ⟨X0, H0, o, es, c, ?_, hp, fun t => ?_⟩
      · rw [L65_14_eq]
        simp only [hlt, hidx, ldEv hj, z12, b1, hs, bT (gE hp), bA (gE hp), bK (gE hp), hlk, c120, k13, k14, hneg', L65_45_eq, w, obs, oms, bin_add, bin_sub, bin_lss, bin_leq, bin_gtr, bin_geq, bin_eql, bin_neq, bin_eqlB, bin_neqB, un_not, cond_B, gd_B, gd_undef, gdH_B, gdH_undef, pickA_B, extractA_tup, lenA_sl, lenA_row, fldA_fp, fldA_ptr, fldA_rptr, List.getElem?_cons_zero, List.getElem?_cons_succ, decide_true, decide_false, if_true, if_false, Bool.true_eq_false, Bool.false_eq_true, Bool.not_true, Bool.not_false]
        rfl
      · rw [hcont]
        conv => rhs; unfold hasL
        by_cases ht : Th l j = t
        · subst ht
          rw [if_pos rfl, if_neg k13, if_pos k14]
          exact (List.filter_eq_self.mpr fun x hx => by
            have : x ≠ Ea l j := fun e => hm (e ▸ hx)
            simpa using this).symm
        · rw [if_neg ht]
  · refine ⟨X0, H0, o, es, c, ?_, hp, fun t => ?_⟩
    · rw [L65_14_eq]
      simp only [hlt, hidx, ldEv hj, z12, b1, hs, bT (gE hp), bA (gE hp), bK (gE hp), hlk, c120, k13, k14, L65_45_eq, w, obs, oms, bin_add, bin_sub, bin_lss, bin_leq, bin_gtr, bin_geq, bin_eql, bin_neq, bin_eqlB, bin_neqB, un_not, cond_B, gd_B, gd_undef, gdH_B, gdH_undef, pickA_B, extractA_tup, lenA_sl, lenA_row, fldA_fp, fldA_ptr, fldA_rptr, List.getElem?_cons_zero, List.getElem?_cons_succ, decide_true, decide_false, if_true, if_false, Bool.true_eq_false, Bool.false_eq_true, Bool.not_true, Bool.not_false]
    · rw [hcont]
      conv => rhs; unfold hasL
      by_cases ht : Th l j = t
      · rw [if_pos ht, if_neg k13, if_neg k14]
      · rw [if_neg ht]
end
end Lo
end Go.Proofs.Ytkhbbjfdbbnojaa
