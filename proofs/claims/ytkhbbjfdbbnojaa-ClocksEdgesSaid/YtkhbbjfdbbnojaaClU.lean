import Derived.Test.YtkhbbjfdbbnojaaClT
set_option linter.unusedVariables false
set_option linter.unusedSimpArgs false
namespace Go.Proofs.Ytkhbbjfdbbnojaa
open Go Go.AM
namespace Cl

def opt1 (x : Option Int) (j : Int) : List P2 := match x with | some i => [(i, j)] | none => []

section
variable {X : List (Nat × AObj)} {H : Heap} {o : AV} {out : List P2} {k0 k2 : List (Kv Int)} {c0 c1 c2 c3 : Nat} {sp fr : List (En Int)}

theorem WS.push (h : WS X H o out k0 c0 sp c1 k2 c2 fr c3) (e : E) (hl : 5 ≤ H.length) : WS ((H.length, bxE e) :: X) (H ++ [bxE e]) o out k0 c0 sp c1 k2 c2 fr c3 := by
  refine ⟨?_, h.w0, h.w1, h.w2, h.w3, fun q hq => ?_, h.ro⟩
  · refine (h.cx.newObj (bxE e) rfl).mono (fun q hq => ?_) (List.Sublist.refl _)
    simp only [List.mem_cons] at hq ⊢
    rcases hq with e | e | e | e | e | e | e <;> simp [e]
  · rcases List.mem_cons.mp hq with e | e
    · rw [e]; exact hl
    · exact h.ids q e

theorem WS.five (h : WS X H o out k0 c0 sp c1 k2 c2 fr c3) : 5 ≤ H.length := by
  have := getElem?_lt (h.cx.at (id := 4) (o := .box [.mp 0, .mp 1, .mp 2, .mp 3, o]) (by simp))
  omega

theorem WS.ldm (h : WS X H o out k0 c0 sp c1 k2 c2 fr c3) : ld false 1 (.ptr 4 (0 + 0)) H = some (.mp 0) ∧ ld false 1 (.ptr 4 (0 + 1)) H = some (.mp 1) ∧ ld false 1 (.ptr 4 (0 + 2)) H = some (.mp 2) ∧ ld false 1 (.ptr 4 (0 + 3)) H = some (.mp 3) ∧ ld false 1 (.ptr 4 (0 + 4)) H = some o := by
  have hb : H[4]? = some (.box [.mp 0, .mp 1, .mp 2, .mp 3, o]) := h.cx.at (by simp)
  refine ⟨?_, ?_, ?_, ?_, ?_⟩ <;> (rw [ld_box hb]; rfl)

theorem nilP4 : nilCheckA (.ptr 4 0) = some (.ptr 4 0) := _root_.id rfl
theorem ex0 (a b : AV) : extractA (.tup [a, b]) 0 = some a := _root_.id rfl
theorem ex1 (a b : AV) : extractA (.tup [a, b]) 1 = some b := _root_.id rfl
theorem lv1 (lo : List Nat) (xs : List AV) (H : Heap) : leave 1 lo xs H = some (xs, H) := _root_.id rfl
theorem bKe {H : Heap} {id : Nat} {e : E} (h : H[id]? = some (bxE e)) : ld false 1 (.ptr id (0 + 0)) H = some (I e.1) := by rw [ld_box h]; rfl
theorem bTe {H : Heap} {id : Nat} {e : E} (h : H[id]? = some (bxE e)) : ld false 1 (.ptr id (0 + 2)) H = some (I e.2.2.1) := by rw [ld_box h]; rfl
theorem bAe {H : Heap} {id : Nat} {e : E} (h : H[id]? = some (bxE e)) : ld false 1 (.ptr id (0 + 6)) H = some (I e.2.2.2.2.2.2.1) := by rw [ld_box h]; rfl

/-- Look for one place, and tell the pair. -/
theorem lookOpt {m : Nat} {kvs : List (Kv Int)} {c : Nat} {la : Int → Option Int} (ho : H[m]? = some (mI kvs c)) (ha : Ag kvs la) (t : Int) : lookA .int (I 0) true (.mp m) (I t) H = some (.tup [I ((la t).getD 0), B (la t).isSome]) := by
  rw [map_look2 key_int ho, ha t, Option.isSome_map]
  cases la t <;> rfl

theorem ent156 (h : WS X H o out k0 c0 sp c1 k2 c2 fr c3) {la ov : Int → Option Int} (hla : Ag k0 la) (hov : Ag k2 ov) (hs : ∀ t, (cont sp t).length < 2 ^ 12) (hf : ∀ t, (cont fr t).length < 2 ^ 12) (hn : out.length < 2 ^ 28) (j : Int) (e : E) :
    ∃ X' H' o' k0' c0' sp' c1' k2' c2' fr' c3', O.ent 156 [.ptr 4 0, I j, avE e] [] H = some ([], H') ∧
      WS X' H' o' (out ++ opt1 (la e.2.2.1) j ++ ((cont sp e.2.2.1).map fun z => (z, j)) ++ (if e.1 = 12 then opt1 (ov e.2.2.2.2.2.2.1) j else if e.1 = 13 then (cont fr e.2.2.2.2.2.2.1).map fun z => (z, j) else [])) k0' c0' sp' c1' k2' c2' fr' c3' ∧
      Ag k0' (fun t => if t = e.2.2.1 then some j else la t) ∧ Ag k2' (fun t => if e.1 = 17 ∧ t = e.2.2.1 then some j else ov t) ∧
      (∀ t, cont sp' t = (if t = e.2.2.1 then [] else cont sp t) ++ if e.1 = 11 ∧ t = e.2.2.2.2.2.2.1 then [j] else []) ∧
      (∀ t, cont fr' t = (if e.1 = 13 ∧ t = e.2.2.2.2.2.2.1 then [] else cont fr t) ++ if e.1 = 14 ∧ t = e.2.2.2.2.2.2.1 then [j] else []) := by
  obtain ⟨K, r1, T, r3, r4, r5, A, r7⟩ := e
  generalize he : ((K, r1, T, r3, r4, r5, A, r7) : E) = e
  have eK : e.1 = K := by rw [← he]
  have eT : e.2.2.1 = T := by rw [← he]
  have eA : e.2.2.2.2.2.2.1 = A := by rw [← he]
  simp only [eK, eT, eA]
  have hp := h.push e h.five
  have hbx : boxO [] (AV.cells (avE e)) H = some (.ptr H.length 0, H ++ [bxE e]) := boxO_p _ H
  generalize hH0 : H ++ [bxE e] = H0 at hp
  generalize hX0 : (H.length, bxE e) :: X = X0 at hp
  generalize hpe : H.length = pe at *
  have gE : ∀ {H : Heap} {o out k0 c0 sp c1 k2 c2 fr c3}, WS X0 H o out k0 c0 sp c1 k2 c2 fr c3 → H[pe]? = some (bxE e) := fun h => h.cx.at (by rw [← hX0]; simp)
  have lT : ∀ {H : Heap} {o out k0 c0 sp c1 k2 c2 fr c3}, WS X0 H o out k0 c0 sp c1 k2 c2 fr c3 → ld false 1 (.ptr pe (0 + 2)) H = some (I T) := fun h => by rw [bTe (gE h), eT]
  have lA : ∀ {H : Heap} {o out k0 c0 sp c1 k2 c2 fr c3}, WS X0 H o out k0 c0 sp c1 k2 c2 fr c3 → ld false 1 (.ptr pe (0 + 6)) H = some (I A) := fun h => by rw [bAe (gE h), eA]
  have lK : ∀ {H : Heap} {o out k0 c0 sp c1 k2 c2 fr c3}, WS X0 H o out k0 c0 sp c1 k2 c2 fr c3 → ld false 1 (.ptr pe (0 + 0)) H = some (I K) := fun h => by rw [bKe (gE h), eK]
  -- from the second half on
  have tail : ∀ (H : Heap) (o : AV) (out : List P2), WS X0 H o out k0 c0 sp c1 k2 c2 fr c3 → out.length < 2 ^ 28 + 1 → ∃ X' H' o' k0' c0' sp' c1' k2' c2' fr' c3', L156_11 [.ptr 4 0, I j, .ptr pe 0] [] H = some ([], H') ∧
      WS X' H' o' (out ++ ((cont sp T).map fun z => (z, j)) ++ (if K = 12 then opt1 (ov A) j else if K = 13 then (cont fr A).map fun z => (z, j) else [])) k0' c0' sp' c1' k2' c2' fr' c3' ∧
      Ag k0' (fun t => if t = T then some j else la t) ∧ Ag k2' (fun t => if K = 17 ∧ t = T then some j else ov t) ∧
      (∀ t, cont sp' t = (if t = T then [] else cont sp t) ++ if K = 11 ∧ t = A then [j] else []) ∧
      (∀ t, cont fr' t = (if K = 13 ∧ t = A then [] else cont fr t) ++ if K = 14 ∧ t = A then [j] else []) := by
    intro H o out h hn
    obtain ⟨a0, a1, a2, a3, a4⟩ := h.ldm
    have hM1 : H[1]? = some (mI (kvE sp) c1) := h.cx.at (by simp)
    obtain ⟨oz, hl1, hz⟩ := mlLook key_int hM1 T
    obtain ⟨H1, o1, e184, h1⟩ := ent184 (zs := cont sp T) (oz := oz) (by
      rcases hz with hz | ⟨h1, h2⟩
      · exact .inl (List.mem_append_left _ hz)
      · exact .inr ⟨h1, h2⟩) (by have := hs T; omega) j h (by have := hs T; omega)
    have c184 : callA cfg O 184 [.ptr 4 0, oz, I j] [] H = _ := callA_keep m184 e184
    obtain ⟨b0, b1, b2, b3, b4⟩ := h1.ldm
    obtain ⟨hx1, hx2⟩ := h1.sp1
    obtain ⟨H2, sp', ed, hx3, hx4, hx5⟩ := mlDel key_int hx1 hx2 h1.w1 T
    have h2 := h1.ofSp hx3 hx4
    obtain ⟨d0, d1, d2, d3, d4⟩ := h2.ldm
    obtain ⟨H3, c0', eu, h3⟩ := h2.putLast T j
    obtain ⟨f0, f1, f2, f3, f4⟩ := h3.ldm
    have hla' := hla.put T j c0
    have hov0 : K ≠ 17 → Ag k2 (fun t => if K = 17 ∧ t = T then some j else ov t) := fun hk t => by
      show _ = Option.map _ (if K = 17 ∧ t = T then some j else ov t)
      rw [if_neg (fun h => hk h.1)]; exact hov t
    have hsp0 : K ≠ 11 → ∀ t, cont sp' t = (if t = T then [] else cont sp t) ++ if K = 11 ∧ t = A then [j] else [] := fun hk t => by
      rw [if_neg (c := K = 11 ∧ t = A) (fun h => hk h.1), List.append_nil]; exact hx5 t
    have hfr0 : K ≠ 13 → K ≠ 14 → ∀ t, cont fr t = (if K = 13 ∧ t = A then [] else cont fr t) ++ if K = 14 ∧ t = A then [j] else [] := fun hk hk2 t => by
      rw [if_neg (c := K = 13 ∧ t = A) (fun h => hk h.1), if_neg (c := K = 14 ∧ t = A) (fun h => hk2 h.1), List.append_nil]
    rw [L156_11_eq]
    by_cases k11 : K = 11
    · obtain ⟨hy1, hy2⟩ := h3.sp1
      obtain ⟨q, q', H4, H5, sp2, c12, p1, p2, p3, p4, p5, p6⟩ := mlApp key_int hy1 hy2 h3.w1 A j (by rw [hx5]; split <;> first | (have := hs A; omega) | simp)
      refine ⟨X0, H5, o1, _, c0', sp2, c12, k2, c2, fr, c3, ?_, ?_, hla', hov0 (by omega), fun t => ?_, hfr0 (by omega) (by omega)⟩
      · have hlit : litP 1 [I j] = some (.p (.sl (some false) true 1 [Ia j])) := rfl
        simp only [nilP4, fldA_ptr, a1, b1, d0, f1, lT h, lT h1, lT h2, lA h3, lK h3, ldS_ptr, hl1, c184, ed, eu, k11, p1, p2, p3, hlit, obs, oms, bin_add, bin_sub, bin_lss, bin_leq, bin_gtr, bin_geq, bin_eql, bin_neq, bin_eqlB, bin_neqB, un_not, cond_B, gd_B, gd_undef, gdH_B, gdH_undef, pickA_B, extractA_tup, lenA_sl, lenA_row, fldA_fp, fldA_ptr, fldA_rptr, List.getElem?_cons_zero, List.getElem?_cons_succ, decide_true, decide_false, if_true, if_false, Bool.true_eq_false, Bool.false_eq_true, Bool.not_true, Bool.not_false, lv1]
      · rw [if_neg (by omega), if_neg (by omega), List.append_nil]
        exact h3.ofSp p4 p5
      · rw [p6 t]
        by_cases ht : t = A
        · rw [if_pos (c := t = A) ht, if_pos (c := K = 11 ∧ t = A) ⟨k11, ht⟩, hx5 A, ht]
        · rw [if_neg (c := t = A) ht, if_neg (c := K = 11 ∧ t = A) (fun h => ht h.2), List.append_nil]; exact hx5 t
    by_cases k17 : K = 17
    · obtain ⟨H4, c2', p1, h4⟩ := h3.putOver T j
      refine ⟨X0, H4, o1, _, c0', sp', c1, AM.aput k2 T (I j) c2, c2', fr, c3, ?_, ?_, hla', ?_, hsp0 k11, hfr0 (by omega) (by omega)⟩
      · have n11 : ¬ (17 : Int) = 11 := by omega
        simp only [nilP4, fldA_ptr, a1, b1, d0, f2, lT h, lT h1, lT h2, lT h3, lA h3, lK h3, hl1, c184, ed, eu, k17, n11, p1, obs, oms, bin_add, bin_sub, bin_lss, bin_leq, bin_gtr, bin_geq, bin_eql, bin_neq, bin_eqlB, bin_neqB, un_not, cond_B, gd_B, gd_undef, gdH_B, gdH_undef, pickA_B, extractA_tup, lenA_sl, lenA_row, fldA_fp, fldA_ptr, fldA_rptr, List.getElem?_cons_zero, List.getElem?_cons_succ, decide_true, decide_false, if_true, if_false, Bool.true_eq_false, Bool.false_eq_true, Bool.not_true, Bool.not_false, lv1]
      · rw [if_neg (by omega), if_neg (by omega), List.append_nil]
        exact h4
      · have := hov.put T j c2
        intro t
        rw [this t]
        simp only [k17, true_and]
    by_cases k12 : K = 12
    · have hM2 : H3[2]? = some (mI k2 c2) := h3.cx.at (by simp)
      have hlo := lookOpt hM2 hov A
      have n11 : ¬ (12 : Int) = 11 := by omega
      have n17 : ¬ (12 : Int) = 17 := by omega
      cases hoA : ov A with
      | none =>
        rw [hoA] at hlo
        refine ⟨X0, H3, o1, _, c0', sp', c1, k2, c2, fr, c3, ?_, ?_, hla', hov0 k17, hsp0 k11, hfr0 (by omega) (by omega)⟩
        · simp only [nilP4, fldA_ptr, a1, b1, d0, f2, lT h, lT h1, lT h2, lT h3, lA h3, lK h3, hl1, c184, ed, eu, k12, n11, n17, hlo, ex0, ex1, Option.isSome_none, obs, oms, bin_add, bin_sub, bin_lss, bin_leq, bin_gtr, bin_geq, bin_eql, bin_neq, bin_eqlB, bin_neqB, un_not, cond_B, gd_B, gd_undef, gdH_B, gdH_undef, pickA_B, extractA_tup, lenA_sl, lenA_row, fldA_fp, fldA_ptr, fldA_rptr, List.getElem?_cons_zero, List.getElem?_cons_succ, decide_true, decide_false, if_true, if_false, Bool.true_eq_false, Bool.false_eq_true, Bool.not_true, Bool.not_false, lv1]
        · rw [if_pos k12]
          simp only [opt1, List.append_nil]
          exact h3
      | some i =>
        rw [hoA] at hlo
        obtain ⟨H4, o4, p1, h4⟩ := ent183 h3 (by have := hs T; simp; omega) i j
        have c183 : callA cfg O 183 [.ptr 4 0, I i, I j] [] H3 = _ := callA_keep m183 p1
        refine ⟨X0, H4, o4, _, c0', sp', c1, k2, c2, fr, c3, ?_, ?_, hla', hov0 k17, hsp0 k11, hfr0 (by omega) (by omega)⟩
        · simp only [nilP4, fldA_ptr, a1, b1, d0, f2, lT h, lT h1, lT h2, lT h3, lA h3, lK h3, hl1, c184, ed, eu, k12, n11, n17, hlo, ex0, ex1, Option.isSome_some, Option.getD_some, c183, obs, oms, bin_add, bin_sub, bin_lss, bin_leq, bin_gtr, bin_geq, bin_eql, bin_neq, bin_eqlB, bin_neqB, un_not, cond_B, gd_B, gd_undef, gdH_B, gdH_undef, pickA_B, extractA_tup, lenA_sl, lenA_row, fldA_fp, fldA_ptr, fldA_rptr, List.getElem?_cons_zero, List.getElem?_cons_succ, decide_true, decide_false, if_true, if_false, Bool.true_eq_false, Bool.false_eq_true, Bool.not_true, Bool.not_false, lv1]
        · rw [if_pos k12]
          exact h4
    by_cases k14 : K = 14
    · obtain ⟨hy1, hy2⟩ := h3.fr1
      obtain ⟨q, q', H4, H5, fr2, c32, p1, p2, p3, p4, p5, p6⟩ := mlApp key_int hy1 hy2 h3.w3 A j (by have := hf A; omega)
      have n11 : ¬ (14 : Int) = 11 := by omega
      have n17 : ¬ (14 : Int) = 17 := by omega
      have n12 : ¬ (14 : Int) = 12 := by omega
      refine ⟨X0, H5, o1, _, c0', sp', c1, k2, c2, fr2, c32, ?_, ?_, hla', hov0 k17, hsp0 k11, fun t => ?_⟩
      · have hlit : litP 1 [I j] = some (.p (.sl (some false) true 1 [Ia j])) := rfl
        simp only [nilP4, fldA_ptr, a1, b1, d0, f3, lT h, lT h1, lT h2, lT h3, lA h3, lK h3, ldS_ptr, hl1, c184, ed, eu, k14, n11, n17, n12, p1, p2, p3, hlit, obs, oms, bin_add, bin_sub, bin_lss, bin_leq, bin_gtr, bin_geq, bin_eql, bin_neq, bin_eqlB, bin_neqB, un_not, cond_B, gd_B, gd_undef, gdH_B, gdH_undef, pickA_B, extractA_tup, lenA_sl, lenA_row, fldA_fp, fldA_ptr, fldA_rptr, List.getElem?_cons_zero, List.getElem?_cons_succ, decide_true, decide_false, if_true, if_false, Bool.true_eq_false, Bool.false_eq_true, Bool.not_true, Bool.not_false, lv1]
      · rw [if_neg k12, if_neg (by omega), List.append_nil]
        exact h3.ofFr p4 p5
      · rw [p6 t, if_neg (c := K = 13 ∧ t = A) (fun h => by omega)]
        by_cases ht : t = A
        · rw [if_pos (c := t = A) ht, if_pos (c := K = 14 ∧ t = A) ⟨k14, ht⟩, ht]
        · rw [if_neg (c := t = A) ht, if_neg (c := K = 14 ∧ t = A) (fun h => ht h.2), List.append_nil]
    by_cases k13 : K = 13
    · have hM3 : H3[3]? = some (mI (kvE fr) c3) := h3.cx.at (by simp)
      obtain ⟨ow, hl3, hw⟩ := mlLook key_int hM3 A
      obtain ⟨H4, o4, p1, h4⟩ := ent184 (zs := cont fr A) (oz := ow) (by
        rcases hw with hw | ⟨h1, h2⟩
        · exact .inl (List.mem_append_right _ hw)
        · exact .inr ⟨h1, h2⟩) (by have := hf A; omega) j h3 (by have := hf A; have := hs T; simp; omega)
      have c184' : callA cfg O 184 [.ptr 4 0, ow, I j] [] H3 = _ := callA_keep m184 p1
      obtain ⟨g0, g1, g2, g3, g4⟩ := h4.ldm
      obtain ⟨hy1, hy2⟩ := h4.fr1
      obtain ⟨H5, fr', ed2, hx6, hx7, hx8⟩ := mlDel key_int hy1 hy2 h4.w3 A
      have n11 : ¬ (13 : Int) = 11 := by omega
      have n17 : ¬ (13 : Int) = 17 := by omega
      have n12 : ¬ (13 : Int) = 12 := by omega
      have n14 : ¬ (13 : Int) = 14 := by omega
      refine ⟨X0, H5, o4, _, c0', sp', c1, k2, c2, fr', c3, ?_, ?_, hla', hov0 k17, hsp0 k11, fun t => ?_⟩
      · simp only [nilP4, fldA_ptr, a1, b1, d0, f3, g3, lT h, lT h1, lT h2, lT h3, lA h3, lA h4, lK h3, ldS_ptr, hl1, c184, ed, eu, k13, n11, n17, n12, n14, hl3, c184', ed2, obs, oms, bin_add, bin_sub, bin_lss, bin_leq, bin_gtr, bin_geq, bin_eql, bin_neq, bin_eqlB, bin_neqB, un_not, cond_B, gd_B, gd_undef, gdH_B, gdH_undef, pickA_B, extractA_tup, lenA_sl, lenA_row, fldA_fp, fldA_ptr, fldA_rptr, List.getElem?_cons_zero, List.getElem?_cons_succ, decide_true, decide_false, if_true, if_false, Bool.true_eq_false, Bool.false_eq_true, Bool.not_true, Bool.not_false, lv1]
      · rw [if_neg k12, if_pos k13]
        exact h4.ofFr hx6 hx7
      · rw [hx8]
        simp [k13]
    · refine ⟨X0, H3, o1, _, c0', sp', c1, k2, c2, fr, c3, ?_, ?_, hla', hov0 k17, hsp0 k11, hfr0 k13 k14⟩
      · simp only [nilP4, fldA_ptr, a1, b1, d0, f3, lT h, lT h1, lT h2, lT h3, lA h3, lK h3, hl1, c184, ed, eu, k11, k17, k12, k14, k13, obs, oms, bin_add, bin_sub, bin_lss, bin_leq, bin_gtr, bin_geq, bin_eql, bin_neq, bin_eqlB, bin_neqB, un_not, cond_B, gd_B, gd_undef, gdH_B, gdH_undef, pickA_B, extractA_tup, lenA_sl, lenA_row, fldA_fp, fldA_ptr, fldA_rptr, List.getElem?_cons_zero, List.getElem?_cons_succ, decide_true, decide_false, if_true, if_false, Bool.true_eq_false, Bool.false_eq_true, Bool.not_true, Bool.not_false, lv1]
      · rw [if_neg k12, if_neg k13, List.append_nil]
        exact h3
  -- the first half
  obtain ⟨a0, a1, a2, a3, a4⟩ := hp.ldm
  have hM0 : H0[0]? = some (mI k0 c0) := hp.cx.at (by simp)
  have hlo := lookOpt hM0 hla T
  rw [f156_eq]
  cases hlT : la T with
  | none =>
    rw [hlT] at hlo
    obtain ⟨X', H', o', k0', c0', sp', c1', k2', c2', fr', c3', q1, q2, q3⟩ := tail H0 o out hp (by omega)
    refine ⟨X', H', o', k0', c0', sp', c1', k2', c2', fr', c3', ?_, ?_, q3⟩
    · simp only [hbx, hH0, nilP4, fldA_ptr, a0, lT hp, hlo, ex0, ex1, Option.isSome_none, obs, oms, bin_add, bin_sub, bin_lss, bin_leq, bin_gtr, bin_geq, bin_eql, bin_neq, bin_eqlB, bin_neqB, un_not, cond_B, gd_B, gd_undef, gdH_B, gdH_undef, pickA_B, extractA_tup, lenA_sl, lenA_row, fldA_fp, fldA_ptr, fldA_rptr, List.getElem?_cons_zero, List.getElem?_cons_succ, decide_true, decide_false, if_true, if_false, Bool.true_eq_false, Bool.false_eq_true, Bool.not_true, Bool.not_false, q1]
    · simp only [opt1, List.append_nil]; exact q2
  | some i =>
    rw [hlT] at hlo
    obtain ⟨H1, o1, p1, h1⟩ := ent183 hp (by omega) i j
    have c183 : callA cfg O 183 [.ptr 4 0, I i, I j] [] H0 = _ := callA_keep m183 p1
    obtain ⟨X', H', o', k0', c0', sp', c1', k2', c2', fr', c3', q1, q2, q3⟩ := tail H1 o1 (out ++ [(i, j)]) h1 (by simp; omega)
    refine ⟨X', H', o', k0', c0', sp', c1', k2', c2', fr', c3', ?_, ?_, q3⟩
    · simp only [hbx, hH0, nilP4, fldA_ptr, a0, lT hp, hlo, ex0, ex1, Option.isSome_some, Option.getD_some, c183, obs, oms, bin_add, bin_sub, bin_lss, bin_leq, bin_gtr, bin_geq, bin_eql, bin_neq, bin_eqlB, bin_neqB, un_not, cond_B, gd_B, gd_undef, gdH_B, gdH_undef, pickA_B, extractA_tup, lenA_sl, lenA_row, fldA_fp, fldA_ptr, fldA_rptr, List.getElem?_cons_zero, List.getElem?_cons_succ, decide_true, decide_false, if_true, if_false, Bool.true_eq_false, Bool.false_eq_true, Bool.not_true, Bool.not_false, q1]
    · exact q2
end
end Cl
end Go.Proofs.Ytkhbbjfdbbnojaa
