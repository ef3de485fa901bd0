import Derived.Test.YtkhbbjfdbbnojaaClW
set_option linter.unusedVariables false
set_option linter.unusedSimpArgs false
namespace Go.Proofs.Ytkhbbjfdbbnojaa
open Go Go.AM
namespace Cl

/-! ### Two pairs compared -/
def cmp1 (a b : Int) : Int := if a < b then -1 else if b < a then 1 else 0
def cmpP (x y : P2) : Int := if cmp1 x.2 y.2 = 0 then cmp1 x.1 y.1 else cmp1 x.2 y.2

theorem call119 (a b : Int) (lo : List Nat) (H : Heap) : callA cfg O 119 [I a, I b] lo H = some (I (cmp1 a b), H) := by
  have n1 : ∀ c : Int, callA cfg O 150 [I c] [] [] = some (B false, []) := fun c => by
    refine callA_pure (xs := [Ia c]) (H' := []) (rs := [B false]) rfl ?_ rfl
    show O.ent 150 [I c] [] [] = _
    rw [f150_eq]
    simp only [obs, oms, bin_add, bin_sub, bin_lss, bin_leq, bin_gtr, bin_geq, bin_eql, bin_neq, bin_eqlB, bin_neqB, un_not, cond_B, gd_B, gd_undef, gdH_B, gdH_undef, pickA_B, extractA_tup, lenA_sl, lenA_row, fldA_fp, fldA_ptr, fldA_rptr, List.getElem?_cons_zero, List.getElem?_cons_succ, decide_true, decide_false, if_true, if_false, Bool.true_eq_false, Bool.false_eq_true, Bool.not_true, Bool.not_false]
    rfl
  refine callA_pure (xs := [Ia a, Ia b]) (H' := []) (rs := [I (cmp1 a b)]) rfl ?_ rfl
  show O.ent 119 [I a, I b] [] [] = _
  rw [f119_eq]
  unfold cmp1
  simp only [n1, obs, oms, bin_add, bin_sub, bin_lss, bin_leq, bin_gtr, bin_geq, bin_eql, bin_neq, bin_eqlB, bin_neqB, un_not, cond_B, gd_B, gd_undef, gdH_B, gdH_undef, pickA_B, extractA_tup, lenA_sl, lenA_row, fldA_fp, fldA_ptr, fldA_rptr, List.getElem?_cons_zero, List.getElem?_cons_succ, decide_true, decide_false, if_true, if_false, Bool.true_eq_false, Bool.false_eq_true, Bool.not_true, Bool.not_false]
  by_cases h1 : a < b
  · simp only [h1, obs, oms, bin_add, bin_sub, bin_lss, bin_leq, bin_gtr, bin_geq, bin_eql, bin_neq, bin_eqlB, bin_neqB, un_not, cond_B, gd_B, gd_undef, gdH_B, gdH_undef, pickA_B, extractA_tup, lenA_sl, lenA_row, fldA_fp, fldA_ptr, fldA_rptr, List.getElem?_cons_zero, List.getElem?_cons_succ, decide_true, decide_false, if_true, if_false, Bool.true_eq_false, Bool.false_eq_true, Bool.not_true, Bool.not_false]; rfl
  · by_cases h2 : b < a
    · simp only [h1, h2, obs, oms, bin_add, bin_sub, bin_lss, bin_leq, bin_gtr, bin_geq, bin_eql, bin_neq, bin_eqlB, bin_neqB, un_not, cond_B, gd_B, gd_undef, gdH_B, gdH_undef, pickA_B, extractA_tup, lenA_sl, lenA_row, fldA_fp, fldA_ptr, fldA_rptr, List.getElem?_cons_zero, List.getElem?_cons_succ, decide_true, decide_false, if_true, if_false, Bool.true_eq_false, Bool.false_eq_true, Bool.not_true, Bool.not_false]; rfl
    · simp only [h1, h2, obs, oms, bin_add, bin_sub, bin_lss, bin_leq, bin_gtr, bin_geq, bin_eql, bin_neq, bin_eqlB, bin_neqB, un_not, cond_B, gd_B, gd_undef, gdH_B, gdH_undef, pickA_B, extractA_tup, lenA_sl, lenA_row, fldA_fp, fldA_ptr, fldA_rptr, List.getElem?_cons_zero, List.getElem?_cons_succ, decide_true, decide_false, if_true, if_false, Bool.true_eq_false, Bool.false_eq_true, Bool.not_true, Bool.not_false]; rfl

theorem call118 (a b : Int) (nl : Option Bool) (tg : Bool) (lo : List Nat) (H : Heap) : callA cfg O 118 [.p (.sl nl tg 2 [Ia a, Ia b])] lo H = some (I (if a = 0 then b else a), H) := by
  refine callA_pure (xs := [.sl nl tg 2 [Ia a, Ia b]]) (H' := []) (rs := [I (if a = 0 then b else a)]) rfl ?_ rfl
  show O.ent 118 [V nl tg [a, b]] [] [] = _
  have i0 := idxV (nl := nl) (tg := tg) (zs := [a, b]) (k := 0) (by simp)
  have i1 := idxV (nl := nl) (tg := tg) (zs := [a, b]) (k := 1) (by simp)
  have l0 := fun H => ldV (zs := [a, b]) (k := 0) (by simp) H
  have l1 := fun H => ldV (zs := [a, b]) (k := 1) (by simp) H
  rw [f118_eq]
  have h1 : (0 : Int) < (([a, b] : List Int).length : Nat) := by simp
  have h2 : (1 : Int) < (([a, b] : List Int).length : Nat) := by simp
  have h3 : ¬ (2 : Int) < (([a, b] : List Int).length : Nat) := by simp
  have w1 : IntKind.i64.wrap (0 + 1) = 1 := rfl
  have w2 : IntKind.i64.wrap (1 + 1) = 2 := rfl
  rw [show ((0 : Nat) : Int) = 0 from rfl] at i0
  rw [show ((1 : Nat) : Int) = 1 from rfl] at i1
  simp only [lenA_sl, obs]
  rw [L118_8_eq]
  by_cases ha : a = 0
  · subst ha
    simp only [h1, i0, l0, w1, List.getElem_cons_zero, obs, oms, bin_add, bin_sub, bin_lss, bin_leq, bin_gtr, bin_geq, bin_eql, bin_neq, bin_eqlB, bin_neqB, un_not, cond_B, gd_B, gd_undef, gdH_B, gdH_undef, pickA_B, extractA_tup, lenA_sl, lenA_row, fldA_fp, fldA_ptr, fldA_rptr, List.getElem?_cons_zero, List.getElem?_cons_succ, decide_true, decide_false, if_true, if_false, Bool.true_eq_false, Bool.false_eq_true, Bool.not_true, Bool.not_false]
    rw [L118_8_eq]
    by_cases hb : b = 0
    · subst hb
      simp only [h2, i1, l1, w2, List.getElem_cons_zero, List.getElem_cons_succ, obs, oms, bin_add, bin_sub, bin_lss, bin_leq, bin_gtr, bin_geq, bin_eql, bin_neq, bin_eqlB, bin_neqB, un_not, cond_B, gd_B, gd_undef, gdH_B, gdH_undef, pickA_B, extractA_tup, lenA_sl, lenA_row, fldA_fp, fldA_ptr, fldA_rptr, List.getElem?_cons_zero, List.getElem?_cons_succ, decide_true, decide_false, if_true, if_false, Bool.true_eq_false, Bool.false_eq_true, Bool.not_true, Bool.not_false]
      rw [L118_8_eq]
      simp only [h3, obs, oms, bin_add, bin_sub, bin_lss, bin_leq, bin_gtr, bin_geq, bin_eql, bin_neq, bin_eqlB, bin_neqB, un_not, cond_B, gd_B, gd_undef, gdH_B, gdH_undef, pickA_B, extractA_tup, lenA_sl, lenA_row, fldA_fp, fldA_ptr, fldA_rptr, List.getElem?_cons_zero, List.getElem?_cons_succ, decide_true, decide_false, if_true, if_false, Bool.true_eq_false, Bool.false_eq_true, Bool.not_true, Bool.not_false]
      rfl
    · simp only [h2, i1, l1, List.getElem_cons_zero, List.getElem_cons_succ, hb, obs, oms, bin_add, bin_sub, bin_lss, bin_leq, bin_gtr, bin_geq, bin_eql, bin_neq, bin_eqlB, bin_neqB, un_not, cond_B, gd_B, gd_undef, gdH_B, gdH_undef, pickA_B, extractA_tup, lenA_sl, lenA_row, fldA_fp, fldA_ptr, fldA_rptr, List.getElem?_cons_zero, List.getElem?_cons_succ, decide_true, decide_false, if_true, if_false, Bool.true_eq_false, Bool.false_eq_true, Bool.not_true, Bool.not_false]
      rfl
  · simp only [h1, i0, l0, List.getElem_cons_zero, ha, obs, oms, bin_add, bin_sub, bin_lss, bin_leq, bin_gtr, bin_geq, bin_eql, bin_neq, bin_eqlB, bin_neqB, un_not, cond_B, gd_B, gd_undef, gdH_B, gdH_undef, pickA_B, extractA_tup, lenA_sl, lenA_row, fldA_fp, fldA_ptr, fldA_rptr, List.getElem?_cons_zero, List.getElem?_cons_succ, decide_true, decide_false, if_true, if_false, Bool.true_eq_false, Bool.false_eq_true, Bool.not_true, Bool.not_false]
    rfl

theorem pureLs (H : Heap) : ∀ xs : List PV, pureLeaves H (xs.map .p) = some (xs.map .p, false) := by
  intro xs
  induction xs with
  | nil => rfl
  | cons x xs ih => simp [pureLeaves, pureLeaf, ih]

theorem callCmp (x y : P2) (lo : List Nat) (H : Heap) : callV cfg O (.fn 157 [] []) [avP x, avP y] lo H = some (I (cmpP x y), H) := by
  show callA cfg O 157 [avP x, avP y] lo H = _
  refine callA_args (H' := []) (rs := [I (cmpP x y)]) rfl ?_ ?_ rfl
  · simp only [pureArgs, pureArg, avP, pureLs, oms, obs, Bool.or_false]
  · rw [f157_eq]
    have b1 : boxO [] (AV.cells (avP x)) [] = some (.ptr 0 0, [.box ((encP x).map .p)]) := boxO_p _ []
    have b2 : boxO [] (AV.cells (avP y)) [.box ((encP x).map .p)] = some (.ptr 1 0, [.box ((encP x).map .p), .box ((encP y).map .p)]) := boxO_p _ _
    have l1 : ld false 1 (.ptr 0 (0 + 0)) [.box ((encP x).map .p), .box ((encP y).map .p)] = some (I x.1) := by rw [ld_box (xs := (encP x).map .p) rfl]; rfl
    have l2 : ld false 1 (.ptr 1 (0 + 0)) [.box ((encP x).map .p), .box ((encP y).map .p)] = some (I y.1) := by rw [ld_box (xs := (encP y).map .p) rfl]; rfl
    have l3 : ld false 1 (.ptr 0 (0 + 1)) [.box ((encP x).map .p), .box ((encP y).map .p)] = some (I x.2) := by rw [ld_box (xs := (encP x).map .p) rfl]; rfl
    have l4 : ld false 1 (.ptr 1 (0 + 1)) [.box ((encP x).map .p), .box ((encP y).map .p)] = some (I y.2) := by rw [ld_box (xs := (encP y).map .p) rfl]; rfl
    have hlit : ∀ (a b : Int) (H : Heap), litA false 1 [I a, I b] H = some (.p (.sl (some false) true 2 [Ia a, Ia b]), H) := fun _ _ _ => rfl
    simp only [b1, b2, l1, l2, l3, l4, call119, hlit, call118, obs, oms, bin_add, bin_sub, bin_lss, bin_leq, bin_gtr, bin_geq, bin_eql, bin_neq, bin_eqlB, bin_neqB, un_not, cond_B, gd_B, gd_undef, gdH_B, gdH_undef, pickA_B, extractA_tup, lenA_sl, lenA_row, fldA_fp, fldA_ptr, fldA_rptr, List.getElem?_cons_zero, List.getElem?_cons_succ, decide_true, decide_false, if_true, if_false, Bool.true_eq_false, Bool.false_eq_true, Bool.not_true, Bool.not_false]
    rfl

theorem cmp1_neg (a b : Int) : cmp1 a b < 0 ↔ a < b := by
  unfold cmp1
  by_cases h1 : a < b
  · simp [h1]
  · by_cases h2 : b < a <;> simp [h1, h2]
theorem cmp1_zero (a b : Int) : cmp1 a b = 0 ↔ a = b := by
  unfold cmp1
  by_cases h1 : a < b
  · simp [h1]; omega
  · by_cases h2 : b < a
    · simp [h1, h2]; omega
    · simp [h1, h2]; omega
theorem cmpP_neg (x y : P2) : cmpP x y < 0 ↔ plt x y := by
  unfold cmpP plt
  by_cases h : x.2 = y.2
  · rw [if_pos ((cmp1_zero _ _).mpr h), cmp1_neg]
    simp only [h, Int.lt_irrefl, false_or, true_and]
  · rw [if_neg (fun e => h ((cmp1_zero _ _).mp e)), cmp1_neg]
    simp only [h, false_and, or_false]

open Go.Sort in
theorem swoP : SWO fun x y : P2 => decide (cmpP x y < 0) := by
  refine ⟨fun x => ?_, fun x y z h1 h2 => ?_, fun x y z h1 h2 => ?_⟩
  · simp only [decide_eq_false_iff_not, cmpP_neg]
    exact plt_irr x
  · simp only [decide_eq_true_eq, cmpP_neg] at *
    exact plt_trans h1 h2
  · simp only [decide_eq_false_iff_not, cmpP_neg] at *
    unfold plt at *
    omega

theorem ent122 (cl : AV) (o : AV) (lo : List Nat) (G : Heap) : O.ent 122 [o, cl] lo G = extRun cfg O (.sort true 2) [o, cl] G := by
  rw [O_ent]
  rfl

section
variable {l : List E} {nl : Option Bool} {tg : Bool}

/-! ### All edges -/
def MemE (l : List E) (S : List P2) : Prop := ∀ p : P2, p ∈ S ↔ ∃ i y : Nat, p = ((i : Int), (y : Int)) ∧ y < l.length ∧ ED l i y

theorem ent128 (hl : l.length ≤ 200) : ∃ n2 t2 S, O.ent 128 [Rw enc nl tg l] [] [] = some ([Rw encP n2 t2 S], []) ∧ S.Pairwise plt ∧ MemE l S ∧ S.length ≤ 100000 := by
  have h0 : WS [] ([mI [] 0, mI [] 0, mI [] 0, mI [] 0] ++ [.box [.mp 0, .mp 1, .mp 2, .mp 3, .p nilS]]) (.p nilS) [] [] 0 [] 0 [] 0 [] 0 := by
    refine ⟨?_, .nil, .nil, .nil, .nil, fun q hq => (by cases hq), .inl ⟨rfl, rfl⟩⟩
    refine ⟨fun q hq => ?_, fun q hq => ?_, by simp [llE]⟩
    · simp only [List.mem_cons, List.not_mem_nil, or_false] at hq
      rcases hq with e | e | e | e | e <;> subst e <;> exact ⟨rfl, rfl⟩
    · simp only [llE, List.map_nil, List.append_nil, List.mem_singleton] at hq
      subst hq
      exact Lst.nil 2 _
  have hi0 : IV l 0 (fun _ => none) (fun _ => none) [] [] [] := ⟨fun t => .zero _, fun t => .zero _, fun t => rfl, fun t => rfl, fun p => ⟨fun h => (by cases h), fun ⟨_, _, _, h, _⟩ => by omega⟩, by simp⟩
  obtain ⟨X, H, o, out, k0, c0, sp, c1, k2, c2, fr, c3, e, h, hm, hlen⟩ := loop128 (nl := nl) (tg := tg) hl l.length 0 [] _ _ _ [] 0 [] 0 [] 0 [] 0 _ _ rfl (by omega) h0 (fun t => rfl) (fun t => rfl) hi0
  have hb : boxO [] [.mp 0, .mp 1, .mp 2, .mp 3, .p nilS] [mI [] 0, mI [] 0, mI [] 0, mI [] 0] = some (.ptr 4 0, [mI [] 0, mI [] 0, mI [] 0, mI [] 0] ++ [.box [.mp 0, .mp 1, .mp 2, .mp 3, .p nilS]]) := rfl
  have hstart : O.ent 128 [Rw enc nl tg l] [] [] = L128_8 [.ptr 4 0, Rw enc nl tg l, I l.length, I ((0 : Nat) : Int)] [] ([mI [] 0, mI [] 0, mI [] 0, mI [] 0] ++ [.box [.mp 0, .mp 1, .mp 2, .mp 3, .p nilS]]) := by
    rw [f128_eq]
    have hbd : buildA [(.p (.v (.map none))), (.p (.v (.map none))), (.p (.v (.map none))), (.p (.v (.map none))), (.p nilS)] [(0, 1, .mp 0), (1, 1, .mp 1), (2, 1, .mp 2), (3, 1, .mp 3)] = some (.agg [.mp 0, .mp 1, .mp 2, .mp 3, .p nilS]) := rfl
    have mk : mkMap [] = (.mp 0, [mI [] 0]) := rfl
    have mk1 : mkMap [mI [] 0] = (.mp 1, [mI [] 0, mI [] 0]) := rfl
    have mk2 : mkMap [mI [] 0, mI [] 0] = (.mp 2, [mI [] 0, mI [] 0, mI [] 0]) := rfl
    have mk3 : mkMap [mI [] 0, mI [] 0, mI [] 0] = (.mp 3, [mI [] 0, mI [] 0, mI [] 0, mI [] 0]) := rfl
    simp only [mk, mk1, mk2, mk3, hbd, AV.cells, hb, obs, lenA_sl]
    rfl
  rw [hstart, e, L128_8_eq]
  obtain ⟨a0, a1, a2, a3, a4⟩ := h.ldm
  have m122 : cfg.mode 122 = 1 := rfl
  have m124 : cfg.mode 124 = 1 := rfl
  rcases h.ro with ⟨rfl, rfl⟩ | ⟨id, g, rfl, hpos⟩
  · have c122 : callA cfg O 122 [.p nilS, .fn 157 [] []] [] H = some (.tup [], H) := callA_keep m122 (rs := []) (H' := H) (by rw [ent122]; rfl)
    have c124 : callA cfg O 124 [.p nilS] [] H = some (.p nilS, H) := callA_keep m124 (rs := [.p nilS]) (H' := H) (by rw [f124_eq]; rfl)
    refine ⟨some true, true, [], ?_, .nil, fun p => ?_, by simp⟩
    · simp only [Int.lt_irrefl, nilP4, a4, c122, c124, obs, oms, bin_add, bin_sub, bin_lss, bin_leq, bin_gtr, bin_geq, bin_eql, bin_neq, bin_eqlB, bin_neqB, un_not, cond_B, gd_B, gd_undef, gdH_B, gdH_undef, pickA_B, extractA_tup, lenA_sl, lenA_row, fldA_fp, fldA_ptr, fldA_rptr, List.getElem?_cons_zero, List.getElem?_cons_succ, decide_true, decide_false, if_true, if_false, Bool.true_eq_false, Bool.false_eq_true, Bool.not_true, Bool.not_false]
      rfl
    · exact hm p
  · have hro : H[id]? = some (rP out g) := by
      have := (h.cx.lst (oP (.row id g 0 out.length) out) (by simp)).at
      exact this
    obtain ⟨l', hp', hs', he⟩ := sort_run (cfg := cfg) (O := O) (enc := encP) (k := 2) (by omega) len2 (cm := 157) (cap := []) rfl (cf := cmpP) (id := id) (g := g) (H := H) (l := out) (by omega) hpos hro (fun x _ y _ => by
      unfold cmpOne
      have := callCmp x y [] []
      unfold avP at this
      rw [this]
      rfl) swoP
    have hs2 : l'.Pairwise fun x y => ¬ plt y x := hs'.imp fun h e => h ((cmpP_neg _ _).mpr e)
    have hl' : l'.length = out.length := hp'.length_eq
    have c122 : callA cfg O 122 [.row id g 0 out.length, .fn 157 [] []] [] H = some (.tup [], H.set id (rP l' g)) := callA_keep m122 (rs := []) (by rw [ent122]; exact he)
    obtain ⟨H2, e2, cs, g1, g2, g3⟩ := ent124 (l := l') (id := id) (g := g) (H := H.set id (rP l' g)) (by omega) (by omega) (setAt hro) []
    rw [hl'] at e2
    have c124 : callA cfg O 124 [.row id g 0 out.length] [] (H.set id (rP l' g)) = some (.row id g 0 (dd l').length, H2) := callA_keep m124 e2
    have hid : id ≠ 4 := fun e => by
      have hb4 : H[4]? = some (.box [.mp 0, .mp 1, .mp 2, .mp 3, .row id g 0 out.length]) := h.cx.at (by simp)
      rw [e] at hro
      rw [hro] at hb4
      cases hb4
    have a5 : ld false 1 (.ptr 4 (0 + 4)) (H.set id (rP l' g)) = some (.row id g 0 out.length) := by
      have hb4 : H[4]? = some (.box [.mp 0, .mp 1, .mp 2, .mp 3, .row id g 0 out.length]) := h.cx.at (by simp)
      rw [ld_box (xs := [.mp 0, .mp 1, .mp 2, .mp 3, .row id g 0 out.length]) (by rw [List.getElem?_set_ne hid]; exact hb4)]
      rfl
    have hfr : frzA H2 (.row id g 0 (dd l').length) = some (.p (.sl (if 0 < (dd l').length then some false else none) false (dd l').length ((dd l').flatMap encP)), H2.set id (.row (g + 1) 2 [])) := by
      simp only [frzA, frzLeaf, toPV, g1, Nat.zero_add]
      rw [if_pos ⟨trivial, g3⟩, List.drop_zero, g2]
      rfl
    refine ⟨if 0 < (dd l').length then some false else none, false, dd l', ?_, dd_sorted hs2, fun p => ?_, ?_⟩
    · simp only [Int.lt_irrefl, nilP4, a4, c122, a5, c124, obs, oms, bin_add, bin_sub, bin_lss, bin_leq, bin_gtr, bin_geq, bin_eql, bin_neq, bin_eqlB, bin_neqB, un_not, cond_B, gd_B, gd_undef, gdH_B, gdH_undef, pickA_B, extractA_tup, lenA_sl, lenA_row, fldA_fp, fldA_ptr, fldA_rptr, List.getElem?_cons_zero, List.getElem?_cons_succ, decide_true, decide_false, if_true, if_false, Bool.true_eq_false, Bool.false_eq_true, Bool.not_true, Bool.not_false]
      exact leave0_all (ps := [.sl (if 0 < (dd l').length then some false else none) false (dd l').length ((dd l').flatMap encP)]) (by simp only [frzAll, hfr, obs, oms]; rfl)
    · rw [mem_dd, hp'.mem_iff]; exact hm p
    · have hdl : ∀ (r : List P2) (p : P2), (ddf p r).length ≤ r.length := by
        intro r
        induction r with
        | nil => intro p; exact Nat.le_refl _
        | cons y r ih => intro p; unfold ddf; split
                         · have := ih y; simp; omega
                         · have := ih y; simp; omega
      have : (dd l').length ≤ l'.length := by
        cases l' with
        | nil => exact Nat.le_refl _
        | cons x r => have := hdl r x; simp [dd]; omega
      omega
end
end Cl
end Go.Proofs.Ytkhbbjfdbbnojaa
