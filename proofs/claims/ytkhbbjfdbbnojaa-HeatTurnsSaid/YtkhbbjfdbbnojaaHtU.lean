import Derived.Test.YtkhbbjfdbbnojaaHtT
set_option linter.unusedVariables false
set_option linter.unusedSimpArgs false
namespace Go.Proofs.Ytkhbbjfdbbnojaa
open Go Go.AM
namespace Ht

section
variable {hot : Int} {nl : Option Bool} {tg : Bool} {cs : List C3} {lo : List Nat}

theorem frzL {sz m : Nat} {o : AV} {H H1 : Heap} {cs : List PV} {x : PV} (h : Lst sz o H m cs) (e : toPV H o = some (x, H1)) : frzA H o = some (.p x, H1) := by
  obtain ⟨_, ⟨q, rfl, _⟩ | ⟨id, g, rfl, ho⟩⟩ := h
  · cases e; rfl
  · simp only [frzA, frzLeaf, e, oms]
/-- A key's place is made. -/
theorem ins64 {l : List Hd} {o6 o7 v16 v17 v18 : AV} {out : List Int} {idc : Nat} {c : C3} {H : Heap} (hR : Rh o6 l) (hl : l.length < 100) (hC : Cx H [] [oL o7 out, hL o6 l, cL idc c]) :
    ∃ id g H' l1 l2, l1 ++ l2 = l ∧ l1 = l.takeWhile (fun y => decide (klt (ky y) (kc c))) ∧ L60_64 [I hot, o6, o7, .rptr idc 0 0, I l1.length, v16, v17, v18] lo H = L60_71 [I hot, .row id g 0 (l1 ++ newH hot (kc c) :: l2).length, o7, I l1.length, v16, v17, v18] lo H' ∧
      Cx H' [] [oL o7 out, hL (.row id g 0 (l1 ++ newH hot (kc c) :: l2).length) (l1 ++ newH hot (kc c) :: l2), cL idc c] := by
  have hsplit := List.takeWhile_append_dropWhile (p := fun y => decide (klt (ky y) (kc c))) (l := l)
  generalize hl1 : l.takeWhile (fun y => decide (klt (ky y) (kc c))) = l1 at hsplit
  generalize hl2 : l.dropWhile (fun y => decide (klt (ky y) (kc c))) = l2 at hsplit
  have hstop : ∀ (h : l1.length < l.length), ¬ klt (ky l[l1.length]) (kc c) := by
    intro h
    have hne : l2 ≠ [] := by
      intro e
      rw [e, List.append_nil] at hsplit
      rw [hsplit] at h
      omega
    obtain ⟨y, l3, e⟩ := List.exists_cons_of_ne_nil hne
    have h1 : l[l1.length] = y := by
      have : l = l1 ++ y :: l3 := by rw [← hsplit, e]
      simp [this]
    rw [h1]
    have h2 := List.head?_dropWhile_not (fun y => decide (klt (ky y) (kc c))) l
    rw [hl2, e] at h2
    simpa using h2
  have hlen : l.length = l1.length + l2.length := by rw [← hsplit]; simp
  have hbld : buildA [(I 0), (I 0), (I 0), (I 0), (I 0), (I 0)] [(0, 1, I c.1), (1, 1, I c.2.1), (3, 1, I hot)] = some (avH (newH hot (kc c))) := rfl
  have hlit : litP 6 [avH (newH hot (kc c))] = some (.p (.sl (some false) true 1 (encH (newH hot (kc c))))) := rfl
  have hcl : cellsA 6 (.p (.sl (some false) true 1 (encH (newH hot (kc c))))) = fun _ => some (1, encH (newH hot (kc c))) := rfl
  obtain ⟨d0, d1, d2⟩ := cLd (idc := idc) (c := c) (by simp) hC
  have hm115 : cfg.mode 115 = 4 := rfl
  obtain ⟨rfl, e⟩ | ⟨id, g, rfl⟩ := hR
  · -- the first head
    subst e
    have e1 : l1 = [] := by rw [← hl1]; rfl
    have e2 : l2 = [] := by rw [← hl2]; rfl
    subst e1 e2
    have h115 : callA cfg O 115 [.p nilS] lo H = some (.p nilS, H) := by
      have e : O.ent 115 [.p nilS] lo H = some ([.p nilS], H) := by rw [f115_eq]; rfl
      unfold callA
      rw [hm115]
      simp only [e, obs, oneH, true_or, if_true]
      rfl
    have hcut : cutA 6 (.p nilS) none (some (I ((([] : List Hd).length : Nat) : Int))) none H = some (.p nilS) := rfl
    have hcut2 : ∀ H, cutA 6 (.p nilS) (some (I ((([] : List Hd).length : Nat) : Int))) none none H = some (.p nilS) := fun _ => rfl
    have happ : appA 6 48 (.p nilS) (.p (.sl (some false) true 1 (encH (newH hot (kc c))))) H = some (.row H.length 0 0 1, H ++ [.row 0 6 (encH (newH hot (kc c)))]) := by
      simp only [appA, hcl, obs, appTo, nilS]
      rfl
    have hC1 : Cx H [] [oL o7 out, cL idc c] := hC.mono (fun _ h => h) (by simp)
    have hC2 := hC1.newRow (sz := 6) (m := 1) (cs := encH (newH hot (kc c))) rfl
    obtain ⟨H', ea, hC3⟩ := Cx.appRow (bytes := 48) (k := 0) (y := .p nilS) (new := []) [] hC2 rfl rfl (by simp [room])
    refine ⟨H.length, 0 + 1, H', [], [], rfl, rfl, ?_, ?_⟩
    · rw [L60_64_eq]
      have hx0 : ¬ ((([] : List Hd).length : Int) < (0 : Nat)) := by simp
      simp only [nilS] at *
      simp only [lenA_sl, hx0, hcut, h115, arrI0, arrI1, d0, d1, hbld, hlit, happ, hcut2, ea, obs, oms, bin_add, bin_sub, bin_lss, bin_leq, bin_gtr, bin_geq, bin_eql, bin_neq, bin_eqlB, bin_neqB, un_not, cond_B, gd_B, gd_undef, gdH_B, gdH_undef, pickA_B, extractA_tup, lenA_sl, lenA_row, fldA_fp, fldA_ptr, fldA_rptr, List.getElem?_cons_zero, List.getElem?_cons_succ, decide_true, decide_false, if_true, if_false, Bool.true_eq_false, Bool.false_eq_true, Bool.not_true, Bool.not_false]
      rfl
    · exact (hC3.perm (List.Perm.swap _ _ _)).mono (fun _ h => h) (List.Sublist.refl _)
  · have ho : H[id]? = some (.row g 6 (l.flatMap encH)) := (hC.lst (hL (.row id g 0 l.length) l) (by simp)).at
    -- the copy
    have hcut : cutA 6 (.row id g 0 l.length) none (some (I l1.length)) none H = some (.row id g 0 l1.length) := by
      have := cutA_row_hi (sz := 6) (id := id) (g := g) (n := l.length) (h := (l1.length : Int)) (g' := g) (xs := l.flatMap encH) (H := H) ho (by omega)
      simpa using this
    have hcut2 : ∀ {H2 : Heap} {xs : List PV}, H2[id]? = some (.row g 6 xs) → cutA 6 (.row id g 0 l.length) (some (I l1.length)) none none H2 = some (.row id g (l1.length * 6) l2.length) := by
      intro H2 xs h2
      simp only [cutA, bnd, asI, obs, h2]
      rw [if_pos (by simp; omega)]
      congr 2
      · simp
      · simp; omega
    have hfl : l.flatMap encH = l1.flatMap encH ++ l2.flatMap encH := by rw [← hsplit, List.flatMap_append]
    have hL1 := rows_length lenH l1
    have hL2 := rows_length lenH l2
    have hcells1 : cellsA 6 (.row id g 0 l1.length) H = some (l1.length, l1.flatMap encH) := by
      simp only [cellsA, ho]
      rw [if_pos ⟨trivial, trivial, by rw [hfl, List.length_append, hL1]; omega⟩]
      rw [List.drop_zero, hfl, ← hL1, List.take_left' rfl]
    have hx0 : ∀ h : l1.length < l.length, ¬ l[l1.length].1 < c.1 ∧ ¬ (l[l1.length].1 = c.1 ∧ l[l1.length].2.1 < c.2.1) := by
      intro h
      have := hstop h
      unfold klt at this
      exact ⟨fun e => this (.inl e), fun e => this (.inr e)⟩
    -- what the copy and the new head come to
    have chain : ∃ o2 H2 o3 H3 id3 g3, callA cfg O 115 [.row id g 0 l1.length] lo H = some (o2, H2) ∧ appA 6 48 o2 (.p (.sl (some false) true 1 (encH (newH hot (kc c))))) H2 = some (o3, H3) ∧ o3 = .row id3 g3 0 (l1.length + 1) ∧
        Cx H3 [] [(o3, 6, l1.length + 1, l1.flatMap encH ++ encH (newH hot (kc c))), oL o7 out, hL (.row id g 0 l.length) l, cL idc c] ∧ ld false 1 (.rptr idc 0 0) H2 = some (I c.1) ∧ ld false 1 (.rptr idc 0 1) H2 = some (I c.2.1) := by
      by_cases h0 : l1 = []
      · subst h0
        have e : O.ent 115 [.row id g 0 ([] : List Hd).length] lo H = some ([.p nilS], H) := by
          rw [f115_eq]
          simp only [appA, hcells1, obs, appTo, nilS]
          rfl
        have h115 : callA cfg O 115 [.row id g 0 ([] : List Hd).length] lo H = some (.p nilS, H) := by
          unfold callA
          rw [hm115]
          simp only [e, obs, oneH, true_or, if_true]
          rfl
        have happ : appA 6 48 (.p nilS) (.p (.sl (some false) true 1 (encH (newH hot (kc c))))) H = some (.row H.length 0 0 1, H ++ [.row 0 6 (encH (newH hot (kc c)))]) := by
          simp only [appA, hcl, obs, appTo, nilS]
          rfl
        exact ⟨_, _, _, _, _, _, h115, happ, rfl, hC.newRow (sz := 6) (m := 1) (cs := encH (newH hot (kc c))) rfl, d0, d1⟩
      · have hpos : 0 < l1.length := List.length_pos_iff.mpr h0
        have e : O.ent 115 [.row id g 0 l1.length] lo H = some ([.row H.length 0 0 l1.length], H ++ [.row 0 6 (l1.flatMap encH)]) := by
          rw [f115_eq]
          simp only [appA, hcells1, obs, appTo, nilS]
          rw [if_neg (by omega), if_pos (by simp only [room]; omega)]
          rfl
        have h115 : callA cfg O 115 [.row id g 0 l1.length] lo H = some (.row H.length 0 0 l1.length, H ++ [.row 0 6 (l1.flatMap encH)]) := by
          unfold callA
          rw [hm115]
          simp only [e, obs, oneH]
          rw [if_pos (.inr ⟨_, rfl⟩)]
          rfl
        have hC2 := hC.newRow (sz := 6) (m := l1.length) (cs := l1.flatMap encH) hL1
        obtain ⟨d0', d1', _⟩ := cLd (idc := idc) (c := c) (by simp) hC2
        obtain ⟨H3, ea, hC3⟩ := Cx.appRow (bytes := 48) (k := 1) (y := .p (.sl (some false) true 1 (encH (newH hot (kc c))))) (new := encH (newH hot (kc c))) [] hC2 (by rw [hcl]) rfl (by simp only [room]; omega)
        exact ⟨_, _, _, _, _, _, h115, ea, rfl, hC3, d0', d1'⟩
    obtain ⟨o2, H2, o3, H3, id3, g3, k1, k2, rfl, k4, d0', d1'⟩ := chain
    have ho3 : H3[id]? = some (.row g 6 (l.flatMap encH)) := (k4.lst (hL (.row id g 0 l.length) l) (by simp)).at
    have hcells2 : cellsA 6 (.row id g (l1.length * 6) l2.length) H3 = some (l2.length, l2.flatMap encH) := by
      simp only [cellsA, ho3]
      rw [if_pos ⟨trivial, trivial, by rw [rows_length lenH]; omega⟩, hfl, ← hL1, List.drop_left' rfl, List.take_of_length_le (by omega)]
    obtain ⟨H4, ea, hC4⟩ := Cx.appRow (bytes := 48) (k := l2.length) (y := .row id g (l1.length * 6) l2.length) (new := l2.flatMap encH) [] k4 hcells2 hL2 (by simp only [room]; omega)
    have hn : (l1 ++ newH hot (kc c) :: l2).length = l1.length + 1 + l2.length := by simp; omega
    refine ⟨id3, g3 + 1, H4, l1, l2, hsplit, rfl, ?_, ?_⟩
    · rw [L60_64_eq, hn]
      by_cases hlt : l1.length < l.length
      · have hlt' : (l1.length : Int) < l.length := by omega
        obtain ⟨x1, x2⟩ := hx0 hlt
        have hf0 : ld false 1 (.rptr id g (l1.length * 6 + 0)) H = some (I l[l1.length].1) := rowF lenH ho hlt (by omega)
        have hf1 : ld false 1 (.rptr id g (l1.length * 6 + 1)) H = some (I l[l1.length].2.1) := rowF lenH ho hlt (by omega)
        by_cases e1 : l[l1.length].1 = c.1
        · have e2 : ¬ l[l1.length].2.1 < c.2.1 := fun e => x2 ⟨e1, e⟩
          have e3 : ¬ c.1 < c.1 := by omega
          simp only [lenA_row, hlt', rowI hlt, fldA_rptr, hf0, hf1, arrI0, arrI1, d0, d1, e1, e2, e3, hcut, k1, d0', d1', hbld, hlit, k2, hcut2 ho3, ea, obs, oms, bin_add, bin_sub, bin_lss, bin_leq, bin_gtr, bin_geq, bin_eql, bin_neq, bin_eqlB, bin_neqB, un_not, cond_B, gd_B, gd_undef, gdH_B, gdH_undef, pickA_B, extractA_tup, lenA_sl, lenA_row, fldA_fp, fldA_ptr, fldA_rptr, List.getElem?_cons_zero, List.getElem?_cons_succ, decide_true, decide_false, if_true, if_false, Bool.true_eq_false, Bool.false_eq_true, Bool.not_true, Bool.not_false]
        · simp only [lenA_row, hlt', rowI hlt, fldA_rptr, hf0, hf1, arrI0, arrI1, d0, d1, x1, e1, hcut, k1, d0', d1', hbld, hlit, k2, hcut2 ho3, ea, obs, oms, bin_add, bin_sub, bin_lss, bin_leq, bin_gtr, bin_geq, bin_eql, bin_neq, bin_eqlB, bin_neqB, un_not, cond_B, gd_B, gd_undef, gdH_B, gdH_undef, pickA_B, extractA_tup, lenA_sl, lenA_row, fldA_fp, fldA_ptr, fldA_rptr, List.getElem?_cons_zero, List.getElem?_cons_succ, decide_true, decide_false, if_true, if_false, Bool.true_eq_false, Bool.false_eq_true, Bool.not_true, Bool.not_false]
      · have hlt' : ¬ (l1.length : Int) < l.length := by omega
        simp only [lenA_row, hlt', hcut, k1, arrI0, arrI1, d0', d1', hbld, hlit, k2, hcut2 ho3, ea, obs, oms, bin_add, bin_sub, bin_lss, bin_leq, bin_gtr, bin_geq, bin_eql, bin_neq, bin_eqlB, bin_neqB, un_not, cond_B, gd_B, gd_undef, gdH_B, gdH_undef, pickA_B, extractA_tup, lenA_sl, lenA_row, fldA_fp, fldA_ptr, fldA_rptr, List.getElem?_cons_zero, List.getElem?_cons_succ, decide_true, decide_false, if_true, if_false, Bool.true_eq_false, Bool.false_eq_true, Bool.not_true, Bool.not_false]
    · have e : hL (.row id3 (g3 + 1) 0 (l1 ++ newH hot (kc c) :: l2).length) (l1 ++ newH hot (kc c) :: l2) = (.row id3 (g3 + 1) 0 (l1.length + 1 + l2.length), 6, l1.length + 1 + l2.length, l1.flatMap encH ++ encH (newH hot (kc c)) ++ l2.flatMap encH) := by
        simp only [hL, hn]
        congr 3
        simp
      rw [e]
      refine (hC4.perm (List.Perm.swap _ _ _)).mono (fun _ h => h) ?_
      exact .cons_cons _ (.cons_cons _ (List.sublist_cons_self _ _))

theorem ins_turn {l1 l2 l : List Hd} {k : K2} (h : l1 ++ l2 = l) (h1 : l1 = l.takeWhile (fun y => decide (klt (ky y) k))) (x : Hd) (hx : ky x = k) : (l1 ++ x :: l2).set l1.length (turnH x).1 = insH l (turnH x).1 := by
  unfold insH
  rw [ky_turn, hx, ← h1]
  have h2 : l2 = l.dropWhile (fun y => decide (klt (ky y) k)) := by
    have e := List.takeWhile_append_dropWhile (p := fun y => decide (klt (ky y) k)) (l := l)
    rw [← h1] at e
    have : l1 ++ l2 = l1 ++ l.dropWhile (fun y => decide (klt (ky y) k)) := by rw [e, h]
    exact List.append_cancel_left this
  rw [← h2]
  simp

theorem rh_row (id g : Nat) (l : List Hd) : Rh (.row id g 0 l.length) l := .inr ⟨id, g, rfl⟩

/-- The whole run of the reference. -/
theorem loop10 (h0 : 1 ≤ hot ∧ hot ≤ 1000) (hn : cs.length ≤ 300) : ∀ (t i : Nat) (H : Heap) (l : List Hd) (o6 o7 : AV) (out : List Int), cs.length - i = t → i ≤ cs.length → out.length ≤ i → Rh o6 l → Srt l → (∀ x ∈ l, GH x) → l.length ≤ 100 → Cx H [] [oL o7 out, hL o6 l] →
    ∃ n1 t1 n2 t2 out' l', L60_10 [I hot, o6, o7, Rw enc3 nl tg cs, I cs.length, I i] [] H = some ([V n1 t1 out', Rw encH n2 t2 l'], []) ∧ (out', l') = (cs.drop i).foldl (fun s c => (s.1 ++ [(hstep hot s.2 c).2], (hstep hot s.2 c).1)) (out, l) ∧ Srt l' ∧ (∀ x ∈ l', GH x) := by
  intro t
  induction t with
  | zero =>
    intro i H l o6 o7 out ht hi _ hR hs hg hl hC
    have : i = cs.length := by omega
    subst this
    rw [L60_10_eq]
    obtain ⟨n1, t1, H1, e1, h1, _⟩ := Cx.toPV hC
    obtain ⟨n2, t2, H2, e2, h2, _⟩ := Cx.toPV h1
    have f1 : frzA H o7 = some (.p (.sl n1 t1 out.length (out.map Ia)), H1) := frzL (hC.lst (oL o7 out) (by simp)) e1
    have f2 : frzA H1 o6 = some (.p (.sl n2 t2 l.length (l.flatMap encH)), H2) := frzL (h1.lst (hL o6 l) (by simp)) e2
    refine ⟨n1, t1, n2, t2, out, l, ?_, by simp, hs, hg⟩
    simp only [Int.lt_irrefl, obs, oms, bin_add, bin_sub, bin_lss, bin_leq, bin_gtr, bin_geq, bin_eql, bin_neq, bin_eqlB, bin_neqB, un_not, cond_B, gd_B, gd_undef, gdH_B, gdH_undef, pickA_B, extractA_tup, lenA_sl, lenA_row, fldA_fp, fldA_ptr, fldA_rptr, List.getElem?_cons_zero, List.getElem?_cons_succ, decide_true, decide_false, if_true, if_false, Bool.true_eq_false, Bool.false_eq_true, Bool.not_true, Bool.not_false]
    exact leave0_all (ps := [_, _]) (H' := H2) (by simp only [frzAll, f1, f2, obs, oms, List.map_cons, List.map_nil])
  | succ t ih =>
    intro i H l o6 o7 out ht hi hol hR hs hg hl hC
    have hi' : i < cs.length := by omega
    have hlt : (i : Int) < cs.length := by omega
    rw [List.drop_eq_getElem_cons hi', List.foldl_cons]
    generalize hc : cs[i] = c
    -- on to the next call
    have on : ∀ (H : Heap) (l : List Hd) (o6 o7 : AV) (z : Int) (l3 : List Ll), Rh o6 l → Srt l → (∀ x ∈ l, GH x) → l.length ≤ 100 → Cx H [] (oL o7 (out ++ [z]) :: hL o6 l :: l3) →
        ∃ n1 t1 n2 t2 out' l', L60_89 [I hot, o6, o7, Rw enc3 nl tg cs, I cs.length, I i] [] H = some ([V n1 t1 out', Rw encH n2 t2 l'], []) ∧ (out', l') = (cs.drop (i + 1)).foldl (fun s c => (s.1 ++ [(hstep hot s.2 c).2], (hstep hot s.2 c).1)) (out ++ [z], l) ∧ Srt l' ∧ (∀ x ∈ l', GH x) := by
      intro H l o6 o7 z l3 a1 a2 a3 a4 a5
      rw [L60_89_eq]
      simp only [obs, oms, bin_add, bin_sub, bin_lss, bin_leq, bin_gtr, bin_geq, bin_eql, bin_neq, bin_eqlB, bin_neqB, un_not, cond_B, gd_B, gd_undef, gdH_B, gdH_undef, pickA_B, extractA_tup, lenA_sl, lenA_row, fldA_fp, fldA_ptr, fldA_rptr, List.getElem?_cons_zero, List.getElem?_cons_succ, decide_true, decide_false, if_true, if_false, Bool.true_eq_false, Bool.false_eq_true, Bool.not_true, Bool.not_false]
      rw [wrap_id (by omega), nxt]
      exact ih (i + 1) H l o6 o7 (out ++ [z]) (by omega) (by omega) (by simp; omega) a1 a2 a3 a4 (a5.mono (fun _ h => h) (.cons_cons _ (.cons_cons _ (List.nil_sublist _))))
    have fin : ∀ {x : Res} (l' : List Hd) (z : Int), hstep hot l c = (l', z) → (∃ n1 t1 n2 t2 out' l2, x = some ([V n1 t1 out', Rw encH n2 t2 l2], []) ∧ (out', l2) = (cs.drop (i + 1)).foldl (fun s c => (s.1 ++ [(hstep hot s.2 c).2], (hstep hot s.2 c).1)) (out ++ [z], l') ∧ Srt l2 ∧ (∀ x ∈ l2, GH x)) →
        ∃ n1 t1 n2 t2 out' l2, x = some ([V n1 t1 out', Rw encH n2 t2 l2], []) ∧ (out', l2) = (cs.drop (i + 1)).foldl (fun s c => (s.1 ++ [(hstep hot s.2 c).2], (hstep hot s.2 c).1)) (out ++ [(hstep hot l c).2], (hstep hot l c).1) ∧ Srt l2 ∧ (∀ x ∈ l2, GH x) := by
      intro x l' z e h
      rw [e]
      exact h
    have hsrt := step_srt (hot := hot) hs c
    have hgood := step_good h0 hg c
    have hlen := step_len (hot := hot) hl c
    rw [L60_10_eq]
    have hA : ld true 3 (.fp (cs.flatMap enc3) (i * 3)) H = some (.agg ((enc3 c).map .p)) := by rw [ldR len3 hi', hc]
    have hRl : ∀ H, lenA .slice o6 H = some (I l.length) := fun H' => (hC.lst (hL o6 l) (by simp)).len H'
    simp only [hlt, idxR hi', hA, arrNew, arrSt, hRl, obs, oms, bin_add, bin_sub, bin_lss, bin_leq, bin_gtr, bin_geq, bin_eql, bin_neq, bin_eqlB, bin_neqB, un_not, cond_B, gd_B, gd_undef, gdH_B, gdH_undef, pickA_B, extractA_tup, lenA_sl, lenA_row, fldA_fp, fldA_ptr, fldA_rptr, List.getElem?_cons_zero, List.getElem?_cons_succ, decide_true, decide_false, if_true, if_false, Bool.true_eq_false, Bool.false_eq_true, Bool.not_true, Bool.not_false]
    have hC2 : Cx (H ++ [.row 0 1 (enc3 c)]) [] [oL o7 out, hL o6 l, cL H.length c] := by
      have := hC.newRow (sz := 1) (m := 3) (cs := enc3 c) rfl
      exact this.perm (List.perm_append_comm (l₁ := [cL H.length c]) (l₂ := [oL o7 out, hL o6 l]))
    obtain ⟨a, H3, e18, hC3, hP⟩ := loop18 (hot := hot) (v16 := Rw enc3 nl tg cs) (v17 := I cs.length) (v18 := I i) (lo := []) hR l.length 0 _ (-1) (by omega) (by omega) hl hC2 (.inl ⟨rfl, fun j _ h => by omega⟩)
    have e18' := e18
    rw [show ((0 : Nat) : Int) = 0 from rfl] at e18'
    rw [e18', L60_18_eq]
    generalize H.length = idc at *
    obtain ⟨d0, d1, d2⟩ := cLd (idc := idc) (c := c) (by simp) hC3
    have happ := fun z => app1 (z := z) hC3 (by omega)
    have hirr : ¬ ((l.length : Int) < l.length) := by omega
    by_cases hz : c.2.2 = 0
    · -- a turn
      have est : hstep hot l c = ((turn hot l (kc c)).1, if (turn hot l (kc c)).2.2 = 0 then (turn hot l (kc c)).2.1 else - (turn hot l (kc c)).2.2) := by unfold hstep; rw [if_pos hz]
      by_cases hbad : badK (kc c)
      · have et : turn hot l (kc c) = (l, 0, 1) := by unfold turn; rw [if_pos hbad]
        rw [et] at est
        refine fin l (-1) est ?_
        obtain ⟨o', H', e, hC4⟩ := happ (-1)
        have hend := on H' l o6 o' (-1) [cL idc c] hR hs hg hl hC4
        have hb : (kc c).1 < 0 ∨ 60 ≤ (kc c).1 ∨ (kc c).2 < 0 ∨ 600 ≤ (kc c).2 := hbad
        have e1 : (kc c).1 = c.1 := rfl
        have e2 : (kc c).2 = c.2.1 := rfl
        rw [e1, e2] at hb
        by_cases a1 : c.1 < 0
        · simp only [hirr, arrI0, arrI1, arrI2, d0, d1, d2, hz, a1, lit1, e, obs, oms, bin_add, bin_sub, bin_lss, bin_leq, bin_gtr, bin_geq, bin_eql, bin_neq, bin_eqlB, bin_neqB, un_not, cond_B, gd_B, gd_undef, gdH_B, gdH_undef, pickA_B, extractA_tup, lenA_sl, lenA_row, fldA_fp, fldA_ptr, fldA_rptr, List.getElem?_cons_zero, List.getElem?_cons_succ, decide_true, decide_false, if_true, if_false, Bool.true_eq_false, Bool.false_eq_true, Bool.not_true, Bool.not_false]; exact hend
        by_cases a2 : 60 ≤ c.1
        · simp only [hirr, arrI0, arrI1, arrI2, d0, d1, d2, hz, a1, a2, lit1, e, obs, oms, bin_add, bin_sub, bin_lss, bin_leq, bin_gtr, bin_geq, bin_eql, bin_neq, bin_eqlB, bin_neqB, un_not, cond_B, gd_B, gd_undef, gdH_B, gdH_undef, pickA_B, extractA_tup, lenA_sl, lenA_row, fldA_fp, fldA_ptr, fldA_rptr, List.getElem?_cons_zero, List.getElem?_cons_succ, decide_true, decide_false, if_true, if_false, Bool.true_eq_false, Bool.false_eq_true, Bool.not_true, Bool.not_false]; exact hend
        by_cases a3 : c.2.1 < 0
        · simp only [hirr, arrI0, arrI1, arrI2, d0, d1, d2, hz, a1, a2, a3, lit1, e, obs, oms, bin_add, bin_sub, bin_lss, bin_leq, bin_gtr, bin_geq, bin_eql, bin_neq, bin_eqlB, bin_neqB, un_not, cond_B, gd_B, gd_undef, gdH_B, gdH_undef, pickA_B, extractA_tup, lenA_sl, lenA_row, fldA_fp, fldA_ptr, fldA_rptr, List.getElem?_cons_zero, List.getElem?_cons_succ, decide_true, decide_false, if_true, if_false, Bool.true_eq_false, Bool.false_eq_true, Bool.not_true, Bool.not_false]; exact hend
        have a4 : 600 ≤ c.2.1 := by omega
        simp only [hirr, arrI0, arrI1, arrI2, d0, d1, d2, hz, a1, a2, a3, a4, lit1, e, obs, oms, bin_add, bin_sub, bin_lss, bin_leq, bin_gtr, bin_geq, bin_eql, bin_neq, bin_eqlB, bin_neqB, un_not, cond_B, gd_B, gd_undef, gdH_B, gdH_undef, pickA_B, extractA_tup, lenA_sl, lenA_row, fldA_fp, fldA_ptr, fldA_rptr, List.getElem?_cons_zero, List.getElem?_cons_succ, decide_true, decide_false, if_true, if_false, Bool.true_eq_false, Bool.false_eq_true, Bool.not_true, Bool.not_false]; exact hend
      · have hb : ¬ (c.1 < 0 ∨ 60 ≤ c.1 ∨ c.2.1 < 0 ∨ 600 ≤ c.2.1) := hbad
        have a1 : ¬ c.1 < 0 := by omega
        have a2 : ¬ 60 ≤ c.1 := by omega
        have a3 : ¬ c.2.1 < 0 := by omega
        have a4 : ¬ 600 ≤ c.2.1 := by omega
        cases hf : fnd l (kc c) with
        | none =>
          have ha := PA.none hP hf
          subst ha
          have b1 : (-1 : Int) < 0 := by omega
          by_cases hl2 : 100 ≤ l.length
          · have et : turn hot l (kc c) = (l, 0, 2) := by unfold turn; rw [if_neg hbad, hf]; simp only [hl2, if_true]
            rw [et] at est
            refine fin l (-2) est ?_
            obtain ⟨o', H', e, hC4⟩ := happ (-2)
            have hend := on H' l o6 o' (-2) [cL idc c] hR hs hg hl hC4
            have hl3 : (100 : Int) ≤ l.length := by omega
            simp only [hirr, arrI0, arrI1, arrI2, d0, d1, d2, hz, a1, a2, a3, a4, b1, hRl, hl3, lit1, e, obs, oms, bin_add, bin_sub, bin_lss, bin_leq, bin_gtr, bin_geq, bin_eql, bin_neq, bin_eqlB, bin_neqB, un_not, cond_B, gd_B, gd_undef, gdH_B, gdH_undef, pickA_B, extractA_tup, lenA_sl, lenA_row, fldA_fp, fldA_ptr, fldA_rptr, List.getElem?_cons_zero, List.getElem?_cons_succ, decide_true, decide_false, if_true, if_false, Bool.true_eq_false, Bool.false_eq_true, Bool.not_true, Bool.not_false]
            exact hend
          · have et : turn hot l (kc c) = (insH l (turnH (newH hot (kc c))).1, (turnH (newH hot (kc c))).2, 0) := by unfold turn; rw [if_neg hbad, hf]; simp only [hl2, if_false]
            rw [et] at est
            refine fin _ _ est ?_
            have hl3 : ¬ (100 : Int) ≤ l.length := by omega
            have h64 := loop64 (hot := hot) (v16 := Rw enc3 nl tg cs) (v17 := I cs.length) (v18 := I i) (lo := []) hR hl hC3 _ 0 rfl (by omega)
            obtain ⟨id, g, H4, l1, l2, s1, s2, e64, hC4⟩ := ins64 (hot := hot) (v16 := Rw enc3 nl tg cs) (v17 := I cs.length) (v18 := I i) (lo := []) hR (by omega) hC3
            rw [← s2] at h64
            have hj : l1.length < (l1 ++ newH hot (kc c) :: l2).length := by simp
            have hll : (l1 ++ newH hot (kc c) :: l2).length ≤ 100 := by
              have := congrArg List.length s1
              simp at this ⊢
              omega
            have hx : (l1 ++ newH hot (kc c) :: l2)[l1.length] = newH hot (kc c) := by simp
            obtain ⟨H5, e71, hC5⟩ := at71 (hot := hot) (v16 := Rw enc3 nl tg cs) (v17 := I cs.length) (v18 := I i) (lo := []) hll hC4 hj (by rw [hx]; exact GH.new h0 _)
            rw [hx, ins_turn s1 s2 (newH hot (kc c)) rfl] at hC5
            rw [hx] at e71
            obtain ⟨o', H6, e, hC6⟩ := app1 (z := (turnH (newH hot (kc c))).2) hC5 (by omega)
            have hlen2 : (l1 ++ newH hot (kc c) :: l2).length = (insH l (turnH (newH hot (kc c))).1).length := by
              rw [← ins_turn s1 s2 (newH hot (kc c)) rfl, List.length_set]
            rw [est] at hsrt hgood hlen
            have hend := on H6 _ _ o' _ [cL idc c] (rh_row id g _) hsrt hgood hlen hC6
            simp only [hirr, arrI0, arrI1, arrI2, d0, d1, d2, hz, a1, a2, a3, a4, b1, hRl, hl3, obs, oms, bin_add, bin_sub, bin_lss, bin_leq, bin_gtr, bin_geq, bin_eql, bin_neq, bin_eqlB, bin_neqB, un_not, cond_B, gd_B, gd_undef, gdH_B, gdH_undef, pickA_B, extractA_tup, lenA_sl, lenA_row, fldA_fp, fldA_ptr, fldA_rptr, List.getElem?_cons_zero, List.getElem?_cons_succ, decide_true, decide_false, if_true, if_false, Bool.true_eq_false, Bool.false_eq_true, Bool.not_true, Bool.not_false]
            rw [show ((0 : Nat) : Int) = 0 from rfl] at h64
            rw [h64, e64, e71, L60_87_eq]
            simp only [lit1, e, obs, hlen2]
            exact hend
        | some x =>
          obtain ⟨j, hj, ha, hx⟩ := PA.some hs hP hf
          subst ha
          have et : turn hot l (kc c) = (putH l (turnH x).1, (turnH x).2, 0) := by unfold turn; rw [if_neg hbad, hf]
          rw [et] at est
          refine fin _ _ est ?_
          have b1 : ¬ ((j : Int) < 0) := by omega
          have hput : putH l (turnH x).1 = l.set j (turnH x).1 := put_set hs hj (by rw [ky_turn, hx])
          obtain ⟨rfl, e⟩ | ⟨id, g, rfl⟩ := hR
          · subst e; cases hj
          obtain ⟨H5, e71, hC5⟩ := at71 (hot := hot) (v16 := Rw enc3 nl tg cs) (v17 := I cs.length) (v18 := I i) (lo := []) hl hC3 hj (by rw [hx]; exact hg x (fnd_some hf).1)
          rw [hx, ← hput] at hC5
          rw [hx] at e71
          obtain ⟨o', H6, e, hC6⟩ := app1 (z := (turnH x).2) hC5 (by omega)
          rw [est] at hsrt hgood hlen
          have hend := on H6 _ _ o' _ [cL idc c] (rh_row id g _) hsrt hgood hlen hC6
          simp only [hirr, arrI0, arrI1, arrI2, d0, d1, d2, hz, a1, a2, a3, a4, b1, obs, oms, bin_add, bin_sub, bin_lss, bin_leq, bin_gtr, bin_geq, bin_eql, bin_neq, bin_eqlB, bin_neqB, un_not, cond_B, gd_B, gd_undef, gdH_B, gdH_undef, pickA_B, extractA_tup, lenA_sl, lenA_row, fldA_fp, fldA_ptr, fldA_rptr, List.getElem?_cons_zero, List.getElem?_cons_succ, decide_true, decide_false, if_true, if_false, Bool.true_eq_false, Bool.false_eq_true, Bool.not_true, Bool.not_false]
          rw [e71, L60_87_eq]
          simp only [lit1, e, obs]
          rw [put_len] at hend
          exact hend
    · -- taken
      have est : hstep hot l c = taken l (kc c) (decide (c.2.2 = 1)) := by unfold hstep; rw [if_neg hz]
      cases hf : fnd l (kc c) with
      | none =>
        have ha := PA.none hP hf
        subst ha
        have et : taken l (kc c) (decide (c.2.2 = 1)) = (l, 5) := by unfold taken; rw [hf]
        rw [et] at est
        refine fin _ _ est ?_
        have b1 : (-1 : Int) < 0 := by omega
        obtain ⟨o', H', e, hC4⟩ := happ 5
        have hend := on H' l o6 o' 5 [cL idc c] hR hs hg hl hC4
        simp only [hirr, arrI0, arrI1, arrI2, d0, d1, d2, hz, b1, lit1, e, obs, oms, bin_add, bin_sub, bin_lss, bin_leq, bin_gtr, bin_geq, bin_eql, bin_neq, bin_eqlB, bin_neqB, un_not, cond_B, gd_B, gd_undef, gdH_B, gdH_undef, pickA_B, extractA_tup, lenA_sl, lenA_row, fldA_fp, fldA_ptr, fldA_rptr, List.getElem?_cons_zero, List.getElem?_cons_succ, decide_true, decide_false, if_true, if_false, Bool.true_eq_false, Bool.false_eq_true, Bool.not_true, Bool.not_false]
        exact hend
      | some x =>
        obtain ⟨j, hj, ha, hx⟩ := PA.some hs hP hf
        subst ha
        have b1 : ¬ ((j : Int) < 0) := by omega
        have hgx := hg x (fnd_some hf).1
        obtain ⟨rfl, e⟩ | ⟨id, g, rfl⟩ := hR
        · subst e; cases hj
        have ho : H3[id]? = some (.row g 6 (l.flatMap encH)) := (hC3.lst (hL (.row id g 0 l.length) l) (by simp)).at
        by_cases h1 : x.2.2.2.2.2 = 1
        · have et : taken l (kc c) (decide (c.2.2 = 1)) = (putH l (takenH (decide (c.2.2 = 1)) x), 0) := by unfold taken; rw [hf]; simp only [h1, if_true]
          rw [et] at est
          refine fin _ _ est ?_
          have hput : putH l (takenH (decide (c.2.2 = 1)) x) = l.set j (takenH (decide (c.2.2 = 1)) x) := put_set hs hj (by rw [ky_taken, hx])
          obtain ⟨o', H4, e, hC4⟩ := happ 0
          obtain ⟨d0', d1', d2'⟩ := cLd (idc := idc) (c := c) (by simp) hC4
          have ho4 : H4[id]? = some (.row g 6 (l.flatMap encH)) := (hC4.lst (hL (.row id g 0 l.length) l) (by simp)).at
          have hset : ∀ x, Cx (H4.set id (.row g 6 ((l.set j x).flatMap encH))) [] (oL o' (out ++ [0]) :: hL (.row id g 0 (l.set j x).length) (l.set j x) :: [cL idc c]) := by
            intro x
            have h1 := Cx.setRow (cs' := (l.set j x).flatMap encH) [oL o' (out ++ [0])] hC4 (by rw [rows_length lenH, rows_length lenH, List.length_set])
            have e2 : hL (.row id g 0 (l.set j x).length) (l.set j x) = (.row id g 0 l.length, 6, l.length, (l.set j x).flatMap encH) := by simp only [hL, List.length_set]
            rw [e2]
            exact h1
          rw [est] at hsrt hgood hlen
          have hend := on _ _ _ o' 0 [cL idc c] (rh_row id g _) (hput ▸ hsrt) (hput ▸ hgood) (hput ▸ hlen) (hset (takenH (decide (c.2.2 = 1)) x))
          rw [hput]
          rw [List.length_set] at hend
          obtain ⟨a, b, n, m, f, s⟩ := x
          simp only at h1
          subst h1
          obtain ⟨g1, g2, g3, g4, g5, g6⟩ := hgx
          simp only at g1 g2 g3 g4 g5 g6
          have hf5 : ld false 1 (.rptr id g (j * 6 + 5)) H3 = some (I 1) := by rw [rowF lenH ho hj (by omega), hx]; rfl
          have nilR : ∀ off, nilCheckA (.rptr id g off) = some (.rptr id g off) := fun _ => rfl
          by_cases hg1 : c.2.2 = 1
          · have et2 : takenH (decide (c.2.2 = 1)) (a, b, n, m, f, 1) = (a, b, n, m, f, 2) := by rw [takenH_eq, if_pos (by simpa using hg1)]
            rw [et2] at hend ⊢
            have hst : ∀ lo, stA 1 (.rptr id g (j * 6 + 5)) (I 2) lo H4 = some (H4.set id (.row g 6 ((l.set j (a, b, n, m, f, 2)).flatMap encH))) := fun lo => rowSt (v := Ia 2) lenH ho4 hj (by omega) (by rw [hx]; rfl) lo
            simp only [hirr, arrI0, arrI1, arrI2, d0, d1, d2, hz, b1, rowI hj, fldA_rptr, hf5, lit1, e, d2', hg1, nilR, hst, obs, oms, bin_add, bin_sub, bin_lss, bin_leq, bin_gtr, bin_geq, bin_eql, bin_neq, bin_eqlB, bin_neqB, un_not, cond_B, gd_B, gd_undef, gdH_B, gdH_undef, pickA_B, extractA_tup, lenA_sl, lenA_row, fldA_fp, fldA_ptr, fldA_rptr, List.getElem?_cons_zero, List.getElem?_cons_succ, decide_true, decide_false, if_true, if_false, Bool.true_eq_false, Bool.false_eq_true, Bool.not_true, Bool.not_false]
            exact hend
          · have hgn : decide (c.2.2 = 1) = false := by simpa using hg1
            rw [hgn] at hend ⊢
            have hf3 : ld false 1 (.rptr id g (j * 6 + 3)) H4 = some (I m) := by rw [rowF lenH ho4 hj (by omega), hx]; rfl
            have hf4 : ld false 1 (.rptr id g (j * 6 + 4)) H4 = some (I f) := by rw [rowF lenH ho4 hj (by omega), hx]; rfl
            have hw1 : IntKind.i64.wrap (f + 1) = f + 1 := wrap_id (by have := g5 (by simp); omega)
            have hw2 : IntKind.i64.wrap (m * 2) = 2 * m := by rw [wrap_id (by omega)]; omega
            -- four fields, one behind the other
            have st : ∀ (x y : Hd) (q : Nat) (v : Int) (lo : List Nat), q < 6 → encH y = (encH x).set q (Ia v) → stA 1 (.rptr id g (j * 6 + q)) (I v) lo (H4.set id (.row g 6 ((l.set j x).flatMap encH))) = some (H4.set id (.row g 6 ((l.set j y).flatMap encH))) := by
              intro x y q v lo hq hy
              have hjx : j < (l.set j x).length := by simpa using hj
              rw [rowSt (v := Ia v) (x := y) lenH (setAt ho4) hjx hq (by rw [List.getElem_set_self]; exact hy) lo, List.set_set, List.set_set]
            have s4 : ∀ lo, stA 1 (.rptr id g (j * 6 + 4)) (I (f + 1)) lo H4 = some (H4.set id (.row g 6 ((l.set j (a, b, n, m, f + 1, 1)).flatMap encH))) := fun lo => rowSt (v := Ia (f + 1)) lenH ho4 hj (by omega) (by rw [hx]; rfl) lo
            have s2 := fun lo => st (a, b, n, m, f + 1, 1) (a, b, 0, m, f + 1, 1) 2 0 lo (by omega) rfl
            have s3 := fun lo => st (a, b, 0, m, f + 1, 1) (a, b, 0, 2 * m, f + 1, 1) 3 (2 * m) lo (by omega) rfl
            have s5 := fun lo => st (a, b, 0, 2 * m, f + 1, 1) (a, b, 0, 2 * m, f + 1, 0) 5 0 lo (by omega) rfl
            have s5' := fun lo => st (a, b, 0, 2 * m, f + 1, 0) (a, b, 0, 2 * m, f + 1, 3) 5 3 lo (by omega) rfl
            have hf4' : ld false 1 (.rptr id g (j * 6 + 4)) (H4.set id (.row g 6 ((l.set j (a, b, 0, 2 * m, f + 1, 0)).flatMap encH))) = some (I (f + 1)) := by
              rw [rowF lenH (setAt ho4) (by simpa using hj) (by omega), List.getElem_set_self]; rfl
            by_cases h3 : 3 ≤ f + 1
            · have h3' : f + 1 = 3 := by have := g5 (by simp); omega
              have et2 : takenH false (a, b, n, m, f, 1) = (a, b, 0, 2 * m, f + 1, 3) := by rw [takenH_eq]; simp only [Bool.false_eq_true, if_false, h3, if_true]
              rw [et2] at hend ⊢
              simp only [hirr, arrI0, arrI1, arrI2, d0, d1, d2, hz, b1, rowI hj, fldA_rptr, hf5, lit1, e, d2', hg1, nilR, hf3, hf4, hw1, bin_mul, hw2, s4, s2, s3, s5, hf4', obs, oms, bin_add, bin_sub, bin_lss, bin_leq, bin_gtr, bin_geq, bin_eql, bin_neq, bin_eqlB, bin_neqB, un_not, cond_B, gd_B, gd_undef, gdH_B, gdH_undef, pickA_B, extractA_tup, lenA_sl, lenA_row, fldA_fp, fldA_ptr, fldA_rptr, List.getElem?_cons_zero, List.getElem?_cons_succ, decide_true, decide_false, if_true, if_false, Bool.true_eq_false, Bool.false_eq_true, Bool.not_true, Bool.not_false]
              rw [if_pos (decide_eq_true h3')]
              simp only [s5', obs, oms, bin_add, bin_sub, bin_lss, bin_leq, bin_gtr, bin_geq, bin_eql, bin_neq, bin_eqlB, bin_neqB, un_not, cond_B, gd_B, gd_undef, gdH_B, gdH_undef, pickA_B, extractA_tup, lenA_sl, lenA_row, fldA_fp, fldA_ptr, fldA_rptr, List.getElem?_cons_zero, List.getElem?_cons_succ, decide_true, decide_false, if_true, if_false, Bool.true_eq_false, Bool.false_eq_true, Bool.not_true, Bool.not_false]
              exact hend
            · have h3' : ¬ f + 1 = 3 := by omega
              have et2 : takenH false (a, b, n, m, f, 1) = (a, b, 0, 2 * m, f + 1, 0) := by rw [takenH_eq]; simp only [Bool.false_eq_true, if_false, h3]
              rw [et2] at hend ⊢
              simp only [hirr, arrI0, arrI1, arrI2, d0, d1, d2, hz, b1, rowI hj, fldA_rptr, hf5, lit1, e, d2', hg1, nilR, hf3, hf4, hw1, bin_mul, hw2, s4, s2, s3, s5, hf4', h3', obs, oms, bin_add, bin_sub, bin_lss, bin_leq, bin_gtr, bin_geq, bin_eql, bin_neq, bin_eqlB, bin_neqB, un_not, cond_B, gd_B, gd_undef, gdH_B, gdH_undef, pickA_B, extractA_tup, lenA_sl, lenA_row, fldA_fp, fldA_ptr, fldA_rptr, List.getElem?_cons_zero, List.getElem?_cons_succ, decide_true, decide_false, if_true, if_false, Bool.true_eq_false, Bool.false_eq_true, Bool.not_true, Bool.not_false]
              exact hend
        · have et : taken l (kc c) (decide (c.2.2 = 1)) = (l, 8) := by unfold taken; rw [hf]; simp only [h1, if_false]
          rw [et] at est
          refine fin _ _ est ?_
          have hf5 : ld false 1 (.rptr id g (j * 6 + 5)) H3 = some (I x.2.2.2.2.2) := by rw [rowF lenH ho hj (by omega), hx]; rfl
          obtain ⟨o', H', e, hC4⟩ := happ 8
          have hend := on H' l _ o' 8 [cL idc c] (rh_row id g _) hs hg hl hC4
          simp only [hirr, arrI0, arrI1, arrI2, d0, d1, d2, hz, b1, rowI hj, fldA_rptr, hf5, h1, lit1, e, obs, oms, bin_add, bin_sub, bin_lss, bin_leq, bin_gtr, bin_geq, bin_eql, bin_neq, bin_eqlB, bin_neqB, un_not, cond_B, gd_B, gd_undef, gdH_B, gdH_undef, pickA_B, extractA_tup, lenA_sl, lenA_row, fldA_fp, fldA_ptr, fldA_rptr, List.getElem?_cons_zero, List.getElem?_cons_succ, decide_true, decide_false, if_true, if_false, Bool.true_eq_false, Bool.false_eq_true, Bool.not_true, Bool.not_false]
          exact hend

def heads (hot : Int) (cs : List C3) : List Int × List Hd := cs.foldl (fun s c => (s.1 ++ [(hstep hot s.2 c).2], (hstep hot s.2 c).1)) ([], [])

theorem ent60 (h0 : 1 ≤ hot ∧ hot ≤ 1000) (hn : cs.length ≤ 300) : ∃ n1 t1 n2 t2, O.ent 60 [I hot, Rw enc3 nl tg cs] [] [] = some ([V n1 t1 (heads hot cs).1, Rw encH n2 t2 (heads hot cs).2], []) ∧ Srt (heads hot cs).2 ∧ (∀ x ∈ (heads hot cs).2, GH x) := by
  have hC : Cx [] [] [oL (.p nilS) [], hL (.p nilS) []] := ((Cx.nil []).newNil 6).newNil 1
  obtain ⟨n1, t1, n2, t2, out', l', e, e2, hs, hg⟩ := loop10 (nl := nl) (tg := tg) h0 hn cs.length 0 [] [] (.p nilS) (.p nilS) [] (by omega) (by omega) (by simp) (.inl ⟨rfl, rfl⟩) .nil (fun _ h => by cases h) (by simp) hC
  rw [List.drop_zero] at e2
  have e3 : (out', l') = heads hot cs := e2
  have e4 : out' = (heads hot cs).1 := congrArg Prod.fst e3
  have e5 : l' = (heads hot cs).2 := congrArg Prod.snd e3
  subst e4 e5
  refine ⟨n1, t1, n2, t2, ?_, hs, hg⟩
  rw [f60_eq]
  simp only [lenA_sl, obs]
  exact e
end
end Ht
end Go.Proofs.Ytkhbbjfdbbnojaa
