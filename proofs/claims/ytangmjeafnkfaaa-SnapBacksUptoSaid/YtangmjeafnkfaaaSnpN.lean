import Derived.Test.YtangmjeafnkfaaaSnpO
set_option linter.unusedVariables false
set_option linter.unusedSimpArgs false
namespace Go.Proofs.Ytangmjeafnkfaaa
open Go Go.AM
namespace Snp

/-! ### A state's own numbers are fit to be read -/
theorem F_fv (p : Int × Int) : two (fv p) := ⟨[p.1], [p.2], rfl, ⟨_, rfl⟩, ⟨_, rfl⟩⟩
theorem F_fl {α : Type} {f : α → List Int} {F : List Int → Prop} (h : ∀ x, F (f x)) (l : DL α) : FS F (fl l f) := by
  refine ⟨l.2.map f, ?_, fun v hv => ?_⟩
  · unfold fl; rw [List.length_map, List.flatMap_def]
  · obtain ⟨x, _, rfl⟩ := List.mem_map.mp hv; exact h x
theorem F_ff (p : A_Frame) : FFrame (ff p) :=
  ⟨_, fts p.2.2.2.2.2.2, rfl, ⟨_, fvs p.2.2.2.2.2.1, rfl, ⟨_, fv p.2.2.2.2.1, rfl, ⟨[p.1, p.2.1], [p.2.2.1, p.2.2.2.1], rfl, F_fv (p.1, p.2.1), F_fv (p.2.2.1, p.2.2.2.1)⟩, F_fv _⟩, F_fl F_fv _⟩, F_fl F_fv _⟩
theorem F_fc (p : A_Cell) : FCell (fc p) := ⟨_, ffs p.2.2.2, rfl, ⟨[p.1, p.2.1], fvs p.2.2.1, rfl, F_fv (p.1, p.2.1), F_fl F_fv _⟩, F_fl F_ff _⟩
theorem F_ftx (s : ByteArray) : FS byt (ftx s) := by
  refine ⟨s.data.toList.map fun b => [(b.toNat : Int)], ?_, fun v hv => ?_⟩
  · unfold ftx
    have : (s.data.toList.map fun b => [(b.toNat : Int)]).flatten = s.data.toList.map fun b => (b.toNat : Int) := by
      induction s.data.toList with
      | nil => rfl
      | cons b l ih => rw [List.map_cons, List.flatten_cons, ih]; rfl
    rw [this, List.length_map, Array.length_toList]
    rfl
  · obtain ⟨b, _, rfl⟩ := List.mem_map.mp hv; exact ⟨b, rfl⟩
theorem F_fth (p : A_Thread) : FThread (fth p) := ⟨_, fv p.2.2.2, rfl, ⟨ffs p.1, [p.2.1, p.2.2.1], rfl, F_fl F_ff _, F_fv (p.2.1, p.2.2.1)⟩, F_fv _⟩
theorem F_fe (p : A_End) : FEnd (fe p) := ⟨[p.1], fv p.2, rfl, ⟨_, rfl⟩, F_fv _⟩
abbrev FState : List Int → Prop := Seq (Seq (Seq (Seq (Seq (Seq (FS FCell) (FS two)) (FS (FS byt))) (FS FThread)) (FS FEnd)) (FS two)) two
theorem F_flat (s : A_State) : FState (flat s) :=
  ⟨_, [s.2.2.2.2.2.2.1, s.2.2.2.2.2.2.2], rfl, ⟨_, fvs s.2.2.2.2.2.1, rfl, ⟨_, fl s.2.2.2.2.1 fe, rfl, ⟨_, fl s.2.2.2.1 fth, rfl, ⟨_, fl s.2.2.1 ftx, rfl, ⟨fl s.1 fc, fl s.2.1 fsh, rfl, F_fl F_fc _, F_fl F_fv _⟩, F_fl F_ftx _⟩, F_fl F_fth _⟩, F_fl F_fe _⟩, F_fl F_fv _⟩, F_fv (s.2.2.2.2.2.2.1, s.2.2.2.2.2.2.2)⟩

theorem LvS.frz {H : Heap} : ∀ {N : Nat} {ys : List AV} {cs : List PV}, LvS H N ys cs → ∃ H', frzLeaves H ys = some (cs.map .p, H') ∧ H'.length = H.length ∧ ∀ j, j < N → H'[j]? = H[j]? := by
  intro N ys
  induction ys generalizing N H with
  | nil => intro cs h; cases cs with | nil => exact ⟨H, rfl, rfl, fun _ _ => rfl⟩ | cons c cs => exact h.elim
  | cons y ys ih =>
    intro cs h
    cases cs with
    | nil => exact h.elim
    | cons c cs =>
      obtain ⟨rfl, h⟩ | ⟨id, g, sz, m, xs, rfl, h1, h2, h3, rfl, h⟩ := h
      · obtain ⟨H', e, hl, hk⟩ := ih h
        exact ⟨H', by simp only [frzLeaves, frzLeaf, obs, e, oms, List.map_cons], hl, hk⟩
      · have hlt := getElem?_lt h2
        obtain ⟨H', e, hl, hk⟩ := ih (h.mono (H' := H.set id (.row (g + 1) sz [])) (Nat.le_refl _) fun j hj => by rw [List.getElem?_set_ne (by omega)])
        refine ⟨H', ?_, by rw [hl, List.length_set], fun j hj => by rw [hk j (by omega), List.getElem?_set_ne (by omega)]⟩
        have e1 : toPV H (.row id g 0 m) = some (.sl (if 0 < m then some false else none) false m xs, H.set id (.row (g + 1) sz [])) := by
          simp only [toPV, h2, Nat.zero_add, h3, Nat.le_refl, and_self, if_true]
          rw [List.drop_zero, List.take_of_length_le (by omega)]
        simp only [frzLeaves, frzLeaf, e1, obs, e, oms, List.map_cons]

theorem ltd_p (l d : Nat) (cs : List PV) : (cs.map AV.p).all (AV.lt l (d + 1)) = true := by
  simp only [List.all_eq_true, List.mem_map]
  rintro _ ⟨x, _, rfl⟩
  rfl

/-- Leaving with a struct and a number. -/
theorem leave2 {H0 H : Heap} {ys : List AV} {cs : List PV} {e : Int} {lo : List Nat} (h : LvS H H0.length ys cs) (hl : H0.length ≤ H.length) (hk : ∀ j, j < H0.length → H[j]? = H0[j]?) : leave 2 (H0.length :: lo) [.agg ys, I e] H = some ([.agg (cs.map .p), I e], H0) := by
  obtain ⟨H', e1, hl', hk'⟩ := h.frz
  have ht : H'.take H0.length = H0 := by
    apply List.ext_getElem?
    intro j
    rw [List.getElem?_take]
    split
    · rename_i hj; rw [hk' j hj, hk j hj]
    · rename_i hj; rw [List.getElem?_eq_none (by omega)]
  have hltd : [AV.agg (cs.map AV.p), I e].all (AV.ltd H0.length) = true := by
    have h5 := ltd_p H0.length 4 cs
    show ((cs.map AV.p).all (AV.lt H0.length 5) && (true && true)) = true
    rw [h5]
    rfl
  simp only [leave, frzAll, frzA, e1, obs, oms, frzLeaf, hltd, if_true, ht]

def zero : A_State := (((some true, true), []), ((some true, true), []), ((some true, true), []), ((some true, true), []), ((some true, true), []), ((some true, true), []), 0, 0)
theorem ok_zero : ok_State zero := by
  refine ⟨⟨?_, ?_⟩, ?_, ⟨?_, ?_⟩, ⟨?_, ?_⟩, ?_, ?_⟩ <;> first | (show (0 : Nat) < 2 ^ 63; omega) | (intro x hx; cases hx)

abbrev Zs : List AV := [.p nilS, .p nilS, .p nilS, .p nilS, .p nilS, .p nilS, I 0, I 0]

/-! ### Back -/
theorem call48 {x : AV} {H : Heap} {zs : List Int} (hx : SrcO x H zs) (hM : AV.ltd H.length x = true) (hz : zs.length ≤ RLIM) :
    ∃ (s : A_State) (e : Int), callA cfg O 48 [x] [] H = some (.tup [.agg ((enc_State s).map .p), I e], H) ∧ ((e = 0 ∧ zs = flat s) ∨ (e = 3 ∧ s = zero)) ∧ ok_State s ∧ ∀ s', zs = flat s' → e = 0 := by
  have z8 : ∀ H : Heap, boxO [] [.p nilS, .p nilS, .p nilS, .p nilS, .p nilS, .p nilS, I 0, I 0] H = some (.ptr H.length 0, H ++ [AObj.box Zs]) := fun H => boxO_p [nilS, nilS, nilS, nilS, nilS, nilS, Ia 0, Ia 0] H
  have hlf := hx.leaf
  have bu : buildA [.p nilS, B false] [(0, 1, x)] = some (.agg [x, B false]) := by
    simp only [buildA, hlf.1, List.length_singleton, List.all_cons, List.all_nil, hlf.2, Bool.and_true]
    rw [if_pos (by simp)]
    rfl
  have b3 : boxO [] (AV.cells (.agg [x, B false])) (H ++ [AObj.box Zs]) = some (.ptr (H ++ [AObj.box Zs]).length 0, H ++ [AObj.box Zs] ++ [AObj.box [x, B false]]) := by
    show boxO [] [x, B false] _ = _
    have : [x, B false].all AV.leaf = true := by simp [hlf.2]; rfl
    simp [boxO, this, boxA]
  have hr : (H ++ [AObj.box Zs]).length = H.length + 1 := by simp
  have hR0 : Rd (H ++ [AObj.box Zs]).length H.length [H.length] (H ++ [AObj.box Zs] ++ [AObj.box [x, B false]]) zs false := by
    refine ⟨x, by simp, ?_, hM, by simp, fun l hl => ?_⟩
    · refine hx.keep fun id g off n e => ?_
      have := SrcO.id_lt hM id g off n e
      rw [List.append_assoc, List.getElem?_append_left this]
    · obtain rfl := List.mem_singleton.mp hl
      exact ⟨Nat.le_refl _, by simp⟩
  generalize hrr : (H ++ [AObj.box Zs]).length = r at *
  generalize hHb : H ++ [AObj.box Zs] ++ [AObj.box [x, B false]] = Hb at *
  have hHbl : Hb.length = H.length + 2 := by rw [← hHb]; simp
  have hHbk : ∀ j, j < H.length → Hb[j]? = H[j]? := fun j hj => by rw [← hHb, List.append_assoc, List.getElem?_append_left hj]
  have hHbz : Hb[H.length]? = some (.box Zs) := by rw [← hHb]; simp
  have h0 := LB.new hR0 Zs
  obtain ⟨o1, H1, z1, b1, w1, e1, h1, t1, ⟨l1, L1, N1, lt1, n1, k1, q1⟩, _, le1⟩ := h0.call someCell hz
  obtain ⟨g1, g1'⟩ := lst_leaf L1
  obtain ⟨H1', s1, h1', p1, m1⟩ := h1.step (off := 0) (n := 1) (y := o1) (ys := [o1, .p nilS, .p nilS, .p nilS, .p nilS, .p nilS, I 0, I 0]) (by rw [g1]; rfl) (by rw [g1]; simp [g1']) (by simp [Zs]) (by simp [Zs]) (by rw [g1]; rfl)
  obtain ⟨o2, H2, z2, b2, w2, e2, h2, t2, ⟨l2, L2, N2, lt2, n2, k2, q2⟩, c2, le2⟩ := h1'.call someShape le1
  obtain ⟨g2, g2'⟩ := lst_leaf L2
  have L1a := h1'.keepL c2 (p1 _ _ _ _ L1)
  obtain ⟨H2', s2, h2', p2, m2⟩ := h2.step (off := 1) (n := 1) (y := o2) (ys := [o1, o2, .p nilS, .p nilS, .p nilS, .p nilS, I 0, I 0]) (by rw [g2]; rfl) (by rw [g2]; simp [g2']) (by simp) (by simp) (by rw [g2]; rfl)
  obtain ⟨o3, H3, z3, b3', w3, e3, h3, t3, ⟨l3, L3, N3, lt3, n3, k3, q3⟩, c3, le3⟩ := h2'.call someText le2
  obtain ⟨g3, g3'⟩ := lst_leaf L3
  have L1b := h2'.keepL c3 (p2 _ _ _ _ L1a)
  have L2b := h2'.keepL c3 (p2 _ _ _ _ L2)
  obtain ⟨H3', s3, h3', p3, m3⟩ := h3.step (off := 2) (n := 1) (y := o3) (ys := [o1, o2, o3, .p nilS, .p nilS, .p nilS, I 0, I 0]) (by rw [g3]; rfl) (by rw [g3]; simp [g3']) (by simp) (by simp) (by rw [g3]; rfl)
  obtain ⟨o4, H4, z4, b4, w4, e4, h4, t4, ⟨l4, L4, N4, lt4, n4, k4, q4⟩, c4, le4⟩ := h3'.call someThread le3
  obtain ⟨g4, g4'⟩ := lst_leaf L4
  have L1c := h3'.keepL c4 (p3 _ _ _ _ L1b)
  have L2c := h3'.keepL c4 (p3 _ _ _ _ L2b)
  have L3c := h3'.keepL c4 (p3 _ _ _ _ L3)
  obtain ⟨H4', s4, h4', p4, m4⟩ := h4.step (off := 3) (n := 1) (y := o4) (ys := [o1, o2, o3, o4, .p nilS, .p nilS, I 0, I 0]) (by rw [g4]; rfl) (by rw [g4]; simp [g4']) (by simp) (by simp) (by rw [g4]; rfl)
  obtain ⟨o5, H5, z5, b5, w5, e5, h5, t5, ⟨l5, L5, N5, lt5, n5, k5, q5⟩, c5, le5⟩ := h4'.call someEnd le4
  obtain ⟨g5, g5'⟩ := lst_leaf L5
  have L1d := h4'.keepL c5 (p4 _ _ _ _ L1c)
  have L2d := h4'.keepL c5 (p4 _ _ _ _ L2c)
  have L3d := h4'.keepL c5 (p4 _ _ _ _ L3c)
  have L4d := h4'.keepL c5 (p4 _ _ _ _ L4)
  obtain ⟨H5', s5, h5', p5, m5⟩ := h5.step (off := 4) (n := 1) (y := o5) (ys := [o1, o2, o3, o4, o5, .p nilS, I 0, I 0]) (by rw [g5]; rfl) (by rw [g5]; simp [g5']) (by simp) (by simp) (by rw [g5]; rfl)
  obtain ⟨o6, H6, z6, b6, w6, e6, h6, t6, ⟨l6, L6, N6, lt6, n6, k6, q6⟩, c6, le6⟩ := h5'.call someVal le5
  obtain ⟨g6, g6'⟩ := lst_leaf L6
  have L1e := h5'.keepL c6 (p5 _ _ _ _ L1d)
  have L2e := h5'.keepL c6 (p5 _ _ _ _ L2d)
  have L3e := h5'.keepL c6 (p5 _ _ _ _ L3d)
  have L4e := h5'.keepL c6 (p5 _ _ _ _ L4d)
  have L5e := h5'.keepL c6 (p5 _ _ _ _ L5)
  obtain ⟨H6', s6, h6', p6, m6⟩ := h6.step (off := 5) (n := 1) (y := o6) (ys := [o1, o2, o3, o4, o5, o6, I 0, I 0]) (by rw [g6]; rfl) (by rw [g6]; simp [g6']) (by simp) (by simp) (by rw [g6]; rfl)
  obtain ⟨a, b, H7, H8, z8', b8, e7, e8, h8, t8, le8, c8⟩ := pair h6' le6
  obtain ⟨H9, s9, h9, p9, m9⟩ := h8.step (off := 6) (n := 1) (y := I a) (ys := [o1, o2, o3, o4, o5, o6, I a, I 0]) rfl rfl (by simp) (by simp) rfl
  obtain ⟨Hf, sf, hf, pf, mf⟩ := h9.step (off := 7) (n := 1) (y := I b) (ys := [o1, o2, o3, o4, o5, o6, I a, I b]) rfl rfl (by simp) (by simp) rfl
  have hT := (((((t1.comp t2).comp t3).comp t4).comp t5).comp t6).comp t8
  obtain ⟨x', hx1, hx2, hx3⟩ := hf.rd
  have hkr := hf.kr
  have hkeep : ∀ j, j < H.length → Hf[j]? = H[j]? := fun j hj => by rw [hkr.2 j (by omega) (by omega), hHbk j hj]
  have hz0 : Hf[H.length]? = some (.box Zs) := by rw [hkr.2 _ (by omega) (by omega)]; exact hHbz
  have hHfl : H.length ≤ Hf.length := by have := hkr.1; omega
  have hnc : nilCheckA (.ptr r 0) = some (.ptr r 0) := rfl
  have hb1 := z8 H
  have hb4 := z8 Hb
  have start : ∀ K : Heap → Res, True := fun _ => trivial
  by_cases hbad : b8 = true ∨ 0 < z8'.length
  · refine ⟨zero, 3, ?_, .inr ⟨rfl, rfl⟩, ok_zero, fun s' hs' => ?_⟩
    · have hlv : LvS (Hf.set H.length (.box Zs)) H.length Zs (enc_State zero) := .inl ⟨rfl, .inl ⟨rfl, .inl ⟨rfl, .inl ⟨rfl, .inl ⟨rfl, .inl ⟨rfl, .inl ⟨rfl, .inl ⟨rfl, trivial⟩⟩⟩⟩⟩⟩⟩⟩
      have hlv2 := leave2 (H0 := H) (e := 3) (lo := []) hlv (by rw [List.length_set]; exact hHfl) (fun j hj => by rw [List.getElem?_set_ne (by omega)]; exact hkeep j hj)
      have bz : buildA [.p nilS, .p nilS, .p nilS, .p nilS, .p nilS, .p nilS, I 0, I 0] [] = some (.agg Zs) := rfl
      have sz : stA 8 (.ptr H.length 0) (.agg Zs) [H.length] Hf = some (Hf.set H.length (.box Zs)) := stA_box hz0 rfl (by simp [Zs]) rfl (okLo (fun l hl => by obtain rfl := List.mem_singleton.mp hl; exact Nat.le_refl _) _) (by simp [Zs])
      have lz : ld true 8 (.ptr H.length 0) (Hf.set H.length (.box Zs)) = some (.agg Zs) := by
        rw [ldAgg_box (xs := Zs) (List.getElem?_set_self (getElem?_lt hz0)) (by simp [Zs]) (by simp [Zs])]; rfl
      have tail : O.ent 48 [x] [] H = leave 2 (H.length :: []) [.agg Zs, I 3] (Hf.set H.length (.box Zs)) := by
        rw [f48_eq]
        simp only [hb1, obs, bu]
        rw [b3]
        simp only [obs, hb4, e1, e2, e3, e4, e5, e6, e7, e8, fldA_ptr, Nat.zero_add, s1, s2, s3, s4, s5, s6, s9, sf, oms, hnc]
        cases b8 with
        | true =>
          simp only [ldR1 hx1, obs, oms, bin_add, bin_sub, bin_lss, bin_leq, bin_gtr, bin_geq, bin_eql, bin_neq, bin_eqlB, bin_neqB, un_not, cond_B, gd_B, gd_undef, gdH_B, gdH_undef, pickA_B, extractA_tup, lenA_sl, lenA_row, fldA_fp, fldA_ptr, fldA_rptr, List.getElem?_cons_zero, List.getElem?_cons_succ, decide_true, decide_false, if_true, if_false, Bool.true_eq_false, Bool.false_eq_true, Bool.not_true, Bool.not_false, bz, sz, lz]
        | false =>
          have hlt : (0 : Int) < (z8'.length : Int) := by
            rcases hbad with e | e
            · cases e
            · omega
          simp only [hnc, ldR1 hx1, ldR0 hx1, obs, oms, bin_add, bin_sub, bin_lss, bin_leq, bin_gtr, bin_geq, bin_eql, bin_neq, bin_eqlB, bin_neqB, un_not, cond_B, gd_B, gd_undef, gdH_B, gdH_undef, pickA_B, extractA_tup, lenA_sl, lenA_row, fldA_fp, fldA_ptr, fldA_rptr, List.getElem?_cons_zero, List.getElem?_cons_succ, decide_true, decide_false, if_true, if_false, Bool.true_eq_false, Bool.false_eq_true, Bool.not_true, Bool.not_false, hx2.len, hlt, bz, sz, lz]
      show (O.ent 48 [x] [] H).map _ = _
      rw [tail, hlv2]
      rfl
    · obtain ⟨f1, f2⟩ := hT.cmp rfl (flat s') [] (F_flat s') (by rw [hs', List.append_nil])
      rcases hbad with e | e
      · rw [f1] at e; cases e
      · rw [f2] at e; simp at e
  · have hb8 : b8 = false := by
      cases b8 with
      | true => exact (hbad (.inl rfl)).elim
      | false => rfl
    have hz8 : z8' = [] := List.length_eq_zero_iff.mp (by omega)
    subst hb8 hz8
    obtain ⟨_, hzs⟩ := hT.snd rfl
    have keepAll : ∀ {sz m : Nat} {o : AV} {cs : List PV}, Lst sz o H6 m cs → Lst sz o Hf m cs := fun h => pf _ _ _ _ (p9 _ _ _ _ (h6'.keepL c8 (p6 _ _ _ _ h)))
    have v8 : LvS (Hf.set H.length (.box [o1, o2, o3, o4, o5, o6, I a, I b])) H6.length [I a, I b] [Ia a, Ia b] := .inl ⟨rfl, .inl ⟨rfl, trivial⟩⟩
    have ks : ∀ {sz m : Nat} {o : AV} {cs : List PV}, Lst sz o H6 m cs → Lst sz o (Hf.set H.length (.box [o1, o2, o3, o4, o5, o6, I a, I b])) m cs := fun h => lst_set (keepAll h) hz0
    obtain ⟨nt6, v6⟩ := LvS.lst (N := H5'.length) (M := H6.length) (ks L6) N6 (lst_row_lt L6) c6.1 v8
    obtain ⟨nt5, v5⟩ := LvS.lst (N := H4'.length) (M := H5'.length) (ks L5e) N5 (by rw [m5]; exact lst_row_lt L5) (by rw [m5]; exact c5.1) v6
    obtain ⟨nt4, v4⟩ := LvS.lst (N := H3'.length) (M := H4'.length) (ks L4e) N4 (by rw [m4]; exact lst_row_lt L4) (by rw [m4]; exact c4.1) v5
    obtain ⟨nt3, v3⟩ := LvS.lst (N := H2'.length) (M := H3'.length) (ks L3e) N3 (by rw [m3]; exact lst_row_lt L3) (by rw [m3]; exact c3.1) v4
    obtain ⟨nt2, v2⟩ := LvS.lst (N := H1'.length) (M := H2'.length) (ks L2e) N2 (by rw [m2]; exact lst_row_lt L2) (by rw [m2]; exact c2.1) v3
    have hle1 := h1'.kr.1
    obtain ⟨nt1, v1⟩ := LvS.lst (N := H.length) (M := H1'.length) (ks L1e) (N1.mono (by rw [List.length_append]; omega)) (by rw [m1]; exact lst_row_lt L1) (by omega) v2
    refine ⟨((nt1, l1), (nt2, l2), (nt3, l3), (nt4, l4), (nt5, l5), (nt6, l6), a, b), 0, ?_, .inl ⟨rfl, ?_⟩, ⟨⟨ok63 n1, k1⟩, ok63 n2, ⟨ok63 n3, k3⟩, ⟨ok63 n4, k4⟩, ok63 n5, ok63 n6⟩, fun _ _ => rfl⟩
    · have hlv2 := leave2 (H0 := H) (e := 0) (lo := []) v1 (by rw [List.length_set]; exact hHfl) (fun j hj => by rw [List.getElem?_set_ne (by omega)]; exact hkeep j hj)
      have hall : (AV.agg [o1, o2, o3, o4, o5, o6, I a, I b]).cells.all AV.leaf = true := by
        show ([o1, o2, o3, o4, o5, o6, I a, I b] : List AV).all AV.leaf = true
        simp only [List.all_cons, g1', g2', g3', g4', g5', g6', List.all_nil, Bool.and_true, Bool.true_and]
        rfl
      have l8 := hf.ld (n := 8) rfl (by simp)
      have sz : stA 8 (.ptr H.length 0) (.agg [o1, o2, o3, o4, o5, o6, I a, I b]) [H.length] Hf = some (Hf.set H.length (.box [o1, o2, o3, o4, o5, o6, I a, I b])) := stA_box hz0 rfl (by simp [Zs]) hall (okLo (fun l hl => by obtain rfl := List.mem_singleton.mp hl; exact Nat.le_refl _) _) (by simp [Zs])
      have lz : ld true 8 (.ptr H.length 0) (Hf.set H.length (.box [o1, o2, o3, o4, o5, o6, I a, I b])) = some (.agg [o1, o2, o3, o4, o5, o6, I a, I b]) := by
        rw [ldAgg_box (xs := [o1, o2, o3, o4, o5, o6, I a, I b]) (List.getElem?_set_self (getElem?_lt hz0)) (by simp) (by simp)]; rfl
      have tail : O.ent 48 [x] [] H = leave 2 (H.length :: []) [.agg [o1, o2, o3, o4, o5, o6, I a, I b], I 0] (Hf.set H.length (.box [o1, o2, o3, o4, o5, o6, I a, I b])) := by
        rw [f48_eq]
        simp only [hb1, obs, bu]
        rw [b3]
        simp only [obs, hb4, e1, e2, e3, e4, e5, e6, e7, e8, fldA_ptr, Nat.zero_add, s1, s2, s3, s4, s5, s6, s9, sf, oms, hnc]
        simp only [hnc, ldR1 hx1, ldR0 hx1, obs, oms, bin_add, bin_sub, bin_lss, bin_leq, bin_gtr, bin_geq, bin_eql, bin_neq, bin_eqlB, bin_neqB, un_not, cond_B, gd_B, gd_undef, gdH_B, gdH_undef, pickA_B, extractA_tup, lenA_sl, lenA_row, fldA_fp, fldA_ptr, fldA_rptr, List.getElem?_cons_zero, List.getElem?_cons_succ, decide_true, decide_false, if_true, if_false, Bool.true_eq_false, Bool.false_eq_true, Bool.not_true, Bool.not_false, hx2.len, List.length_nil, l8, sz, lz]
        rfl
      show (O.ent 48 [x] [] H).map _ = _
      rw [tail, hlv2]
      rfl
    · rw [List.append_nil] at hzs
      rw [hzs, q1, q2, q3, q4, q5, q6]
      simp [flat, fl, fvs]
end Snp
end Go.Proofs.Ytangmjeafnkfaaa
