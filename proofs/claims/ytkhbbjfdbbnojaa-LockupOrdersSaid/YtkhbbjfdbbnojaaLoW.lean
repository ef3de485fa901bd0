import Derived.Test.YtkhbbjfdbbnojaaLoV
set_option linter.unusedVariables false
set_option linter.unusedSimpArgs false
namespace Go.Proofs.Ytkhbbjfdbbnojaa
open Go Go.AM
namespace Lo

section
variable {l : List E} {nl : Option Bool} {tg : Bool}

theorem bests_min (x y : Int) : bests false (I x) [I y] = some (I (min x y)) := by
  simp only [bests, best, if_true, Option.bind_some, Bool.false_eq_true, if_false]
  congr 4
  split <;> omega

theorem call64 (k : Nat) (hk : k < 2 ^ 40) (lo : List Nat) (H : Heap) : ∃ t', callA cfg O 64 [Rw enc nl tg l, I k] lo H = some (Rw enc nl t' (l.take k), H) := by
  have hm : min (l.length : Int) k = ((min l.length k : Nat) : Int) := by omega
  have hln : (l.take k).length = min l.length k := by simp [Nat.min_comm]
  have e : O.ent 64 [Rw enc nl tg l, I k] [] [] = some ([Rw enc nl (tg && decide (((min l.length k : Nat) : Int) = l.length)) (l.take k)], []) := by
    rw [f64_eq]
    simp only [lenA_sl, bests_min, hm, obs]
    rw [cutA_hi (by omega)]
    simp only [obs, Int.toNat_natCast]
    have hx : (l.flatMap enc).take (min l.length k * 12) = (l.take k).flatMap enc := by
      rw [← hln]
      have h2 : l.flatMap enc = (l.take k).flatMap enc ++ (l.drop k).flatMap enc := by rw [← List.flatMap_append, List.take_append_drop]
      rw [h2, List.take_append_of_le_length (by rw [rows_length hE]; omega), List.take_of_length_le (by rw [rows_length hE]; omega)]
    rw [hx, ← hln]
    rfl
  exact ⟨_, callA_pure (xs := [.sl nl tg l.length (l.flatMap enc), Ia k]) (rs := [Rw enc nl (tg && decide (((min l.length k : Nat) : Int) = l.length)) (l.take k)]) rfl e rfl⟩


theorem loop65 (hl : l.length ≤ 200) : ∀ (c' j : Nat) (X : List (Nat × AObj)) (H : Heap) (o : AV) (es : List (En Int)) (c : Nat), l.length - j = c' → j ≤ l.length → WO X H o (outL l j) es c → (∀ t, cont es t = hasL l j t) →
    ∃ X' H' o' es' c', L65_14 [.mp 0, o, Rw enc nl tg l, I l.length, I j] [] H = L65_14 [.mp 0, o', Rw enc nl tg l, I l.length, I l.length] [] H' ∧ WO X' H' o' (outL l l.length) es' c' := by
  intro c'
  induction c' with
  | zero =>
    intro j X H o es c hc hj h hcont
    have : j = l.length := by omega
    subst this
    exact ⟨X, H, o, es, c, rfl, h⟩
  | succ c' ih =>
    intro j X H o es c hc hj h hcont
    obtain ⟨X1, H1, o1, es1, c1, e1, h1, k1⟩ := step65 (nl := nl) (tg := tg) (show j < l.length by omega) hl h hcont
    obtain ⟨X2, H2, o2, es2, c2, e2, h2⟩ := ih (j + 1) X1 H1 o1 es1 c1 (by omega) (by omega) h1 k1
    exact ⟨X2, H2, o2, es2, c2, e1.trans e2, h2⟩

theorem ddf_len : ∀ (r : List P2) (p : P2), (ddf p r).length ≤ r.length := by
  intro r
  induction r with
  | nil => intro p; exact Nat.le_refl _
  | cons y r ih => intro p; unfold ddf; split
                   · have := ih y; simp; omega
                   · have := ih y; simp; omega
theorem dd_len (l : List P2) : (dd l).length ≤ l.length := by
  cases l with
  | nil => exact Nat.le_refl _
  | cons x r => have := ddf_len r x; simp [dd]; omega

theorem ent65 (hl : l.length ≤ 200) : ∃ H' n2 t2 S, O.ent 65 [Rw enc nl tg l] [] [] = some ([Rw encP n2 t2 S, I 0], H') ∧ S.Pairwise plt ∧ (∀ p : P2, p ∈ S ↔ LO l p.1 p.2) ∧ S.length ≤ 100000 := by
  have h0 : WO [] [mI [] 0] (.p nilS) (outL l 0) [] 0 := by
    refine ⟨?_, .nil, fun e he => (by cases he), fun q hq => (by cases hq), .inl ⟨rfl, rfl⟩⟩
    refine ⟨fun q hq => ?_, fun q hq => ?_, by simp [llE]⟩
    · simp only [List.mem_singleton] at hq
      subst hq; exact ⟨rfl, rfl⟩
    · simp only [llE, List.map_nil, List.append_nil, List.mem_singleton] at hq
      subst hq
      exact Lst.nil 2 _
  obtain ⟨X, H, o, es, c, e, h⟩ := loop65 (nl := nl) (tg := tg) hl l.length 0 [] _ _ [] 0 rfl (by omega) h0 (fun t => rfl)
  have hgt : ¬ (200 : Int) < l.length := by omega
  have mk : mkMap [] = (.mp 0, [mI [] 0]) := rfl
  have hol := out_len (l := l) l.length hl
  have hm := fun p => out_LO (l := l) p
  have hstart : O.ent 65 [Rw enc nl tg l] [] [] = L65_14 [.mp 0, o, Rw enc nl tg l, I l.length, I l.length] [] H := by
    rw [← e, f65_eq]
    simp only [hgt, mk, obs, oms, bin_add, bin_sub, bin_lss, bin_leq, bin_gtr, bin_geq, bin_eql, bin_neq, bin_eqlB, bin_neqB, un_not, cond_B, gd_B, gd_undef, gdH_B, gdH_undef, pickA_B, extractA_tup, lenA_sl, lenA_row, fldA_fp, fldA_ptr, fldA_rptr, List.getElem?_cons_zero, List.getElem?_cons_succ, decide_true, decide_false, if_true, if_false, Bool.true_eq_false, Bool.false_eq_true, Bool.not_true, Bool.not_false]
    rfl
  rw [hstart, L65_14_eq]
  have m122 : cfg.mode 122 = 1 := rfl
  have m124 : cfg.mode 124 = 1 := rfl
  generalize houtL : outL l l.length = out at h hol hm
  rcases h.ro with ⟨rfl, rfl⟩ | ⟨id, g, rfl, hpos⟩
  · have c122 : callA cfg O 122 [.p nilS, .fn 123 [] []] [] H = some (.tup [], H) := callA_keep m122 (rs := []) (H' := H) (by rw [ent122]; rfl)
    have c124 : callA cfg O 124 [.p nilS] [] H = some (.p nilS, H) := callA_keep m124 (rs := [.p nilS]) (H' := H) (by rw [f124_eq]; rfl)
    refine ⟨[], some true, true, [], ?_, .nil, hm, by simp⟩
    simp only [Int.lt_irrefl, c122, c124, obs, oms, bin_add, bin_sub, bin_lss, bin_leq, bin_gtr, bin_geq, bin_eql, bin_neq, bin_eqlB, bin_neqB, un_not, cond_B, gd_B, gd_undef, gdH_B, gdH_undef, pickA_B, extractA_tup, lenA_sl, lenA_row, fldA_fp, fldA_ptr, fldA_rptr, List.getElem?_cons_zero, List.getElem?_cons_succ, decide_true, decide_false, if_true, if_false, Bool.true_eq_false, Bool.false_eq_true, Bool.not_true, Bool.not_false]
    rfl
  · have hro : H[id]? = some (rP out g) := by
      have := (h.cx.lst (oP (.row id g 0 out.length) out) (by simp)).at
      exact this
    obtain ⟨l', hp', hs', he⟩ := sort_run (cfg := cfg) (O := O) (enc := encP) (k := 2) (by omega) len2 (cm := 123) (cap := []) rfl (cf := cmpP) (id := id) (g := g) (H := H) (l := out) (by omega) hpos hro (fun x _ y _ => by
      unfold cmpOne
      have := callCmp x y [] []
      unfold avP at this
      rw [this]
      rfl) swoP
    have hs2 : l'.Pairwise fun x y => ¬ plt y x := hs'.imp fun h e => h ((cmpP_neg _ _).mpr e)
    have hl' : l'.length = out.length := hp'.length_eq
    have c122 : callA cfg O 122 [.row id g 0 out.length, .fn 123 [] []] [] H = some (.tup [], H.set id (rP l' g)) := callA_keep m122 (rs := []) (by rw [ent122]; exact he)
    obtain ⟨H2, e2, cs, g1, g2, g3⟩ := ent124 (l := l') (id := id) (g := g) (H := H.set id (rP l' g)) (by omega) (by omega) (setAt hro) []
    rw [hl'] at e2
    have c124 : callA cfg O 124 [.row id g 0 out.length] [] (H.set id (rP l' g)) = some (.row id g 0 (dd l').length, H2) := callA_keep m124 e2
    have hfr : frzA H2 (.row id g 0 (dd l').length) = some (.p (.sl (if 0 < (dd l').length then some false else none) false (dd l').length ((dd l').flatMap encP)), H2.set id (.row (g + 1) 2 [])) := by
      simp only [frzA, frzLeaf, toPV, g1, Nat.zero_add]
      rw [if_pos ⟨trivial, g3⟩, List.drop_zero, g2]
      rfl
    refine ⟨[], if 0 < (dd l').length then some false else none, false, dd l', ?_, dd_sorted hs2, fun p => ?_, ?_⟩
    · simp only [Int.lt_irrefl, c122, c124, obs, oms, bin_add, bin_sub, bin_lss, bin_leq, bin_gtr, bin_geq, bin_eql, bin_neq, bin_eqlB, bin_neqB, un_not, cond_B, gd_B, gd_undef, gdH_B, gdH_undef, pickA_B, extractA_tup, lenA_sl, lenA_row, fldA_fp, fldA_ptr, fldA_rptr, List.getElem?_cons_zero, List.getElem?_cons_succ, decide_true, decide_false, if_true, if_false, Bool.true_eq_false, Bool.false_eq_true, Bool.not_true, Bool.not_false]
      exact leave0_all (ps := [.sl (if 0 < (dd l').length then some false else none) false (dd l').length ((dd l').flatMap encP), .v (.int .i64 0)]) (by simp only [frzAll, hfr, frzA_p, obs, oms]; rfl)
    · rw [mem_dd, hp'.mem_iff]; exact hm p
    · have := dd_len l'
      omega
theorem call65 (hl : l.length ≤ 200) (lo : List Nat) (H : Heap) : ∃ n2 t2 S, callA cfg O 65 [Rw enc nl tg l] lo H = some (.tup [Rw encP n2 t2 S, I 0], H) ∧ S.Pairwise plt ∧ (∀ p : P2, p ∈ S ↔ LO l p.1 p.2) ∧ S.length ≤ 100000 := by
  obtain ⟨H', n2, t2, S, e, r⟩ := ent65 (nl := nl) (tg := tg) hl
  exact ⟨n2, t2, S, callA_pure (xs := [.sl nl tg l.length (l.flatMap enc)]) (rs := [Rw encP n2 t2 S, I 0]) rfl e rfl, r⟩

/-! ### The reference -/
theorem loop125 (hl : l.length < 2 ^ 40) (t a : Int) {m : Nat} (hm : m ≤ l.length) : ∀ (c i : Nat), m - i = c → i ≤ m → L125_8 [Rw enc nl tg l, I t, I a, I m, B (lh l t a i), I i] [] [] = some ([B (lh l t a m)], []) := by
  intro c
  induction c with
  | zero =>
    intro i hc hi
    have : i = m := by omega
    subst this
    rw [L125_8_eq]
    simp only [Int.lt_irrefl, obs, oms, bin_add, bin_sub, bin_lss, bin_leq, bin_gtr, bin_geq, bin_eql, bin_neq, bin_eqlB, bin_neqB, un_not, cond_B, gd_B, gd_undef, gdH_B, gdH_undef, pickA_B, extractA_tup, lenA_sl, lenA_row, fldA_fp, fldA_ptr, fldA_rptr, List.getElem?_cons_zero, List.getElem?_cons_succ, decide_true, decide_false, if_true, if_false, Bool.true_eq_false, Bool.false_eq_true, Bool.not_true, Bool.not_false]
    rfl
  | succ c ih =>
    intro i hc hi
    have hi' : i < l.length := by omega
    have hlt : (i : Int) < m := by omega
    have w : IntKind.i64.wrap ((i : Int) + 1) = ((i + 1 : Nat) : Int) := by rw [wrap_id (by omega), nxt]
    have fin := ih (i + 1) (by omega) (by omega)
    have e17 : ∀ b : Bool, L125_17 [Rw enc nl tg l, I t, I a, I m, B b, I i] [] [] = L125_8 [Rw enc nl tg l, I t, I a, I m, B (if Th l i = t ∧ Ea l i = a ∧ Kn l i = 14 then false else b), I ((i + 1 : Nat) : Int)] [] [] := by
      intro b
      rw [L125_17_eq]
      by_cases h1 : Th l i = t
      · by_cases h2 : Ea l i = a
        · by_cases h3 : Kn l i = 14
          · rw [if_pos ⟨h1, h2, h3⟩]
            simp only [idxE hi', fT hi', fA hi', fK hi', h1, h2, h3, L125_11_eq, w, obs, oms, bin_add, bin_sub, bin_lss, bin_leq, bin_gtr, bin_geq, bin_eql, bin_neq, bin_eqlB, bin_neqB, un_not, cond_B, gd_B, gd_undef, gdH_B, gdH_undef, pickA_B, extractA_tup, lenA_sl, lenA_row, fldA_fp, fldA_ptr, fldA_rptr, List.getElem?_cons_zero, List.getElem?_cons_succ, decide_true, decide_false, if_true, if_false, Bool.true_eq_false, Bool.false_eq_true, Bool.not_true, Bool.not_false]
          · rw [if_neg (fun h => h3 h.2.2)]
            simp only [idxE hi', fT hi', fA hi', fK hi', h1, h2, h3, L125_11_eq, w, obs, oms, bin_add, bin_sub, bin_lss, bin_leq, bin_gtr, bin_geq, bin_eql, bin_neq, bin_eqlB, bin_neqB, un_not, cond_B, gd_B, gd_undef, gdH_B, gdH_undef, pickA_B, extractA_tup, lenA_sl, lenA_row, fldA_fp, fldA_ptr, fldA_rptr, List.getElem?_cons_zero, List.getElem?_cons_succ, decide_true, decide_false, if_true, if_false, Bool.true_eq_false, Bool.false_eq_true, Bool.not_true, Bool.not_false]
        · rw [if_neg (fun h => h2 h.2.1)]
          simp only [idxE hi', fT hi', fA hi', h1, h2, L125_11_eq, w, obs, oms, bin_add, bin_sub, bin_lss, bin_leq, bin_gtr, bin_geq, bin_eql, bin_neq, bin_eqlB, bin_neqB, un_not, cond_B, gd_B, gd_undef, gdH_B, gdH_undef, pickA_B, extractA_tup, lenA_sl, lenA_row, fldA_fp, fldA_ptr, fldA_rptr, List.getElem?_cons_zero, List.getElem?_cons_succ, decide_true, decide_false, if_true, if_false, Bool.true_eq_false, Bool.false_eq_true, Bool.not_true, Bool.not_false]
      · rw [if_neg (fun h => h1 h.1)]
        simp only [idxE hi', fT hi', h1, L125_11_eq, w, obs, oms, bin_add, bin_sub, bin_lss, bin_leq, bin_gtr, bin_geq, bin_eql, bin_neq, bin_eqlB, bin_neqB, un_not, cond_B, gd_B, gd_undef, gdH_B, gdH_undef, pickA_B, extractA_tup, lenA_sl, lenA_row, fldA_fp, fldA_ptr, fldA_rptr, List.getElem?_cons_zero, List.getElem?_cons_succ, decide_true, decide_false, if_true, if_false, Bool.true_eq_false, Bool.false_eq_true, Bool.not_true, Bool.not_false]
    have e8 : L125_8 [Rw enc nl tg l, I t, I a, I m, B (lh l t a i), I i] [] [] = L125_17 [Rw enc nl tg l, I t, I a, I m, B (if Th l i = t ∧ Ea l i = a ∧ Kn l i = 13 then true else lh l t a i), I i] [] [] := by
      rw [L125_8_eq]
      by_cases h1 : Th l i = t
      · by_cases h2 : Ea l i = a
        · by_cases h3 : Kn l i = 13
          · rw [if_pos ⟨h1, h2, h3⟩]
            simp only [hlt, idxE hi', fT hi', fA hi', fK hi', h1, h2, h3, obs, oms, bin_add, bin_sub, bin_lss, bin_leq, bin_gtr, bin_geq, bin_eql, bin_neq, bin_eqlB, bin_neqB, un_not, cond_B, gd_B, gd_undef, gdH_B, gdH_undef, pickA_B, extractA_tup, lenA_sl, lenA_row, fldA_fp, fldA_ptr, fldA_rptr, List.getElem?_cons_zero, List.getElem?_cons_succ, decide_true, decide_false, if_true, if_false, Bool.true_eq_false, Bool.false_eq_true, Bool.not_true, Bool.not_false]
          · rw [if_neg (fun h => h3 h.2.2)]
            simp only [hlt, idxE hi', fT hi', fA hi', fK hi', h1, h2, h3, obs, oms, bin_add, bin_sub, bin_lss, bin_leq, bin_gtr, bin_geq, bin_eql, bin_neq, bin_eqlB, bin_neqB, un_not, cond_B, gd_B, gd_undef, gdH_B, gdH_undef, pickA_B, extractA_tup, lenA_sl, lenA_row, fldA_fp, fldA_ptr, fldA_rptr, List.getElem?_cons_zero, List.getElem?_cons_succ, decide_true, decide_false, if_true, if_false, Bool.true_eq_false, Bool.false_eq_true, Bool.not_true, Bool.not_false]
        · rw [if_neg (fun h => h2 h.2.1)]
          simp only [hlt, idxE hi', fT hi', fA hi', h1, h2, obs, oms, bin_add, bin_sub, bin_lss, bin_leq, bin_gtr, bin_geq, bin_eql, bin_neq, bin_eqlB, bin_neqB, un_not, cond_B, gd_B, gd_undef, gdH_B, gdH_undef, pickA_B, extractA_tup, lenA_sl, lenA_row, fldA_fp, fldA_ptr, fldA_rptr, List.getElem?_cons_zero, List.getElem?_cons_succ, decide_true, decide_false, if_true, if_false, Bool.true_eq_false, Bool.false_eq_true, Bool.not_true, Bool.not_false]
      · rw [if_neg (fun h => h1 h.1)]
        simp only [hlt, idxE hi', fT hi', h1, obs, oms, bin_add, bin_sub, bin_lss, bin_leq, bin_gtr, bin_geq, bin_eql, bin_neq, bin_eqlB, bin_neqB, un_not, cond_B, gd_B, gd_undef, gdH_B, gdH_undef, pickA_B, extractA_tup, lenA_sl, lenA_row, fldA_fp, fldA_ptr, fldA_rptr, List.getElem?_cons_zero, List.getElem?_cons_succ, decide_true, decide_false, if_true, if_false, Bool.true_eq_false, Bool.false_eq_true, Bool.not_true, Bool.not_false]
    rw [e8, e17]
    exact fin
theorem call125 (hl : l.length < 2 ^ 40) (t a : Int) {m : Nat} (hm : m ≤ l.length) (lo : List Nat) (H : Heap) : callA cfg O 125 [Rw enc nl tg l, I t, I a, I m] lo H = some (B (lh l t a m), H) := by
  refine callA_pure (xs := [.sl nl tg l.length (l.flatMap enc), Ia t, Ia a, Ia m]) (H' := []) (rs := [B (lh l t a m)]) rfl ?_ rfl
  show O.ent 125 [Rw enc nl tg l, I t, I a, I m] [] [] = _
  rw [f125_eq]
  exact loop125 hl t a hm m 0 rfl (by omega)

def LOf (l : List E) (a b : Int) (m : Nat) : Prop := ∃ i, m ≤ i ∧ i < l.length ∧ Kn l i = 13 ∧ Ea l i = b ∧ a ≠ b ∧ lh l (Th l i) a i = true
theorem loop66 (hl : l.length < 2 ^ 40) (a b : Int) : ∀ (c i : Nat), l.length - i = c → i ≤ l.length → L66_6 [Rw enc nl tg l, I a, I b, I i] [] [] = some ([B (dec (LOf l a b i))], []) := by
  intro c
  induction c with
  | zero =>
    intro i hc hi
    have : i = l.length := by omega
    subst this
    rw [L66_6_eq, dec_f fun ⟨k, h1, h2, _⟩ => by omega]
    simp only [Int.lt_irrefl, obs, oms, bin_add, bin_sub, bin_lss, bin_leq, bin_gtr, bin_geq, bin_eql, bin_neq, bin_eqlB, bin_neqB, un_not, cond_B, gd_B, gd_undef, gdH_B, gdH_undef, pickA_B, extractA_tup, lenA_sl, lenA_row, fldA_fp, fldA_ptr, fldA_rptr, List.getElem?_cons_zero, List.getElem?_cons_succ, decide_true, decide_false, if_true, if_false, Bool.true_eq_false, Bool.false_eq_true, Bool.not_true, Bool.not_false]
    rfl
  | succ c ih =>
    intro i hc hi
    have hi' : i < l.length := by omega
    have hlt : (i : Int) < l.length := by omega
    have w : IntKind.i64.wrap ((i : Int) + 1) = ((i + 1 : Nat) : Int) := by rw [wrap_id (by omega), nxt]
    have fin := ih (i + 1) (by omega) (by omega)
    have hst : ¬ (Kn l i = 13 ∧ Ea l i = b ∧ a ≠ b ∧ lh l (Th l i) a i = true) → dec (LOf l a b (i + 1)) = dec (LOf l a b i) := fun hno => dec_congr ⟨fun ⟨k, h1, h2⟩ => ⟨k, by omega, h2⟩, fun ⟨k, h1, h2, h3⟩ => ⟨k, by
      have : k ≠ i := fun e => hno (e ▸ h3)
      omega, h2, h3⟩⟩
    have c125 := call125 (nl := nl) (tg := tg) hl (Th l i) a (m := i) (by omega) []
    rw [L66_6_eq]
    by_cases h1 : Kn l i = 13
    · by_cases h2 : Ea l i = b
      · by_cases h3 : a = b
        · rw [hst (fun h => h.2.2.1 h3)] at fin
          simp only [hlt, idxE hi', fK hi', fA hi', h1, h2, h3, w, obs, oms, bin_add, bin_sub, bin_lss, bin_leq, bin_gtr, bin_geq, bin_eql, bin_neq, bin_eqlB, bin_neqB, un_not, cond_B, gd_B, gd_undef, gdH_B, gdH_undef, pickA_B, extractA_tup, lenA_sl, lenA_row, fldA_fp, fldA_ptr, fldA_rptr, List.getElem?_cons_zero, List.getElem?_cons_succ, decide_true, decide_false, if_true, if_false, Bool.true_eq_false, Bool.false_eq_true, Bool.not_true, Bool.not_false]
          rw [h3] at fin
          exact fin
        · cases h4 : lh l (Th l i) a i with
          | true =>
            rw [dec_iff.mpr ⟨i, Nat.le_refl _, hi', h1, h2, h3, h4⟩]
            rw [h4] at c125
            simp only [hlt, idxE hi', fK hi', fA hi', fT hi', h1, h2, h3, c125, obs, oms, bin_add, bin_sub, bin_lss, bin_leq, bin_gtr, bin_geq, bin_eql, bin_neq, bin_eqlB, bin_neqB, un_not, cond_B, gd_B, gd_undef, gdH_B, gdH_undef, pickA_B, extractA_tup, lenA_sl, lenA_row, fldA_fp, fldA_ptr, fldA_rptr, List.getElem?_cons_zero, List.getElem?_cons_succ, decide_true, decide_false, if_true, if_false, Bool.true_eq_false, Bool.false_eq_true, Bool.not_true, Bool.not_false]
            rfl
          | false =>
            rw [hst (fun h => by rw [h.2.2.2] at h4; cases h4)] at fin
            rw [h4] at c125
            simp only [hlt, idxE hi', fK hi', fA hi', fT hi', h1, h2, h3, c125, w, obs, oms, bin_add, bin_sub, bin_lss, bin_leq, bin_gtr, bin_geq, bin_eql, bin_neq, bin_eqlB, bin_neqB, un_not, cond_B, gd_B, gd_undef, gdH_B, gdH_undef, pickA_B, extractA_tup, lenA_sl, lenA_row, fldA_fp, fldA_ptr, fldA_rptr, List.getElem?_cons_zero, List.getElem?_cons_succ, decide_true, decide_false, if_true, if_false, Bool.true_eq_false, Bool.false_eq_true, Bool.not_true, Bool.not_false]
            exact fin
      · rw [hst (fun h => h2 h.2.1)] at fin
        simp only [hlt, idxE hi', fK hi', fA hi', h1, h2, w, obs, oms, bin_add, bin_sub, bin_lss, bin_leq, bin_gtr, bin_geq, bin_eql, bin_neq, bin_eqlB, bin_neqB, un_not, cond_B, gd_B, gd_undef, gdH_B, gdH_undef, pickA_B, extractA_tup, lenA_sl, lenA_row, fldA_fp, fldA_ptr, fldA_rptr, List.getElem?_cons_zero, List.getElem?_cons_succ, decide_true, decide_false, if_true, if_false, Bool.true_eq_false, Bool.false_eq_true, Bool.not_true, Bool.not_false]
        exact fin
    · rw [hst (fun h => h1 h.1)] at fin
      simp only [hlt, idxE hi', fK hi', h1, w, obs, oms, bin_add, bin_sub, bin_lss, bin_leq, bin_gtr, bin_geq, bin_eql, bin_neq, bin_eqlB, bin_neqB, un_not, cond_B, gd_B, gd_undef, gdH_B, gdH_undef, pickA_B, extractA_tup, lenA_sl, lenA_row, fldA_fp, fldA_ptr, fldA_rptr, List.getElem?_cons_zero, List.getElem?_cons_succ, decide_true, decide_false, if_true, if_false, Bool.true_eq_false, Bool.false_eq_true, Bool.not_true, Bool.not_false]
      exact fin
theorem call66 (hl : l.length < 2 ^ 40) (a b : Int) (lo : List Nat) (H : Heap) : callA cfg O 66 [Rw enc nl tg l, I a, I b] lo H = some (B (dec (LO l a b)), H) := by
  have e := loop66 (nl := nl) (tg := tg) hl a b l.length 0 rfl (by omega)
  have e2 : dec (LOf l a b 0) = dec (LO l a b) := dec_congr ⟨fun ⟨i, _, h⟩ => ⟨i, h⟩, fun ⟨i, h⟩ => ⟨i, Nat.zero_le _, h⟩⟩
  rw [e2] at e
  refine callA_pure (xs := [.sl nl tg l.length (l.flatMap enc), Ia a, Ia b]) (H' := []) (rs := [B (dec (LO l a b))]) rfl ?_ rfl
  show O.ent 66 [Rw enc nl tg l, I a, I b] [] [] = _
  rw [f66_eq]
  exact e

/-! ### The law -/
variable {n2 : Option Bool} {t2 : Bool} {S : List P2}
theorem loop16 (hl : l.length < 2 ^ 40) (hs : S.Pairwise plt) (hm : ∀ p : P2, p ∈ S ↔ LO l p.1 p.2) (hSl : S.length ≤ 100000) : ∀ (c n : Nat), S.length - n = c → n ≤ S.length →
    L10_16 [Rw enc nl tg l, Rw encP n2 t2 S, I 0, I n] [] [] = L10_26 [Rw enc nl tg l, Rw encP n2 t2 S, I 0, I 0] [] [] := by
  intro c
  induction c with
  | zero =>
    intro n hc hn
    have : n = S.length := by omega
    subst this
    rw [L10_16_eq]
    simp only [Int.lt_irrefl, obs, oms, bin_add, bin_sub, bin_lss, bin_leq, bin_gtr, bin_geq, bin_eql, bin_neq, bin_eqlB, bin_neqB, un_not, cond_B, gd_B, gd_undef, gdH_B, gdH_undef, pickA_B, extractA_tup, lenA_sl, lenA_row, fldA_fp, fldA_ptr, fldA_rptr, List.getElem?_cons_zero, List.getElem?_cons_succ, decide_true, decide_false, if_true, if_false, Bool.true_eq_false, Bool.false_eq_true, Bool.not_true, Bool.not_false]
  | succ c ih =>
    intro n hc hn
    have hn' : n < S.length := by omega
    have hlt : (n : Int) < S.length := by omega
    have w : IntKind.i64.wrap ((n : Int) + 1) = ((n + 1 : Nat) : Int) := by rw [wrap_id (by omega), nxt]
    have fin := ih (n + 1) (by omega) (by omega)
    have i1 : idxA 2 (Rw encP n2 t2 S) (I n) = some (.fp (S.flatMap encP) (n * 2)) := idxR hn'
    have f0 : ∀ {n : Nat} (hn : n < S.length), ld false 1 (.fp (S.flatMap encP) (n * 2 + 0)) [] = some (I S[n].1) := fun hn => by rw [fldR len2 hn (by omega)]; rfl
    have f1 : ∀ {n : Nat} (hn : n < S.length), ld false 1 (.fp (S.flatMap encP) (n * 2 + 1)) [] = some (I S[n].2) := fun hn => by rw [fldR len2 hn (by omega)]; rfl
    have c66 := call66 (nl := nl) (tg := tg) hl S[n].1 S[n].2 [] []
    rw [dec_iff.mpr ((hm S[n]).mp (List.getElem_mem _))] at c66
    rw [L10_16_eq]
    by_cases h0 : n = 0
    · subst h0
      have hgt : ¬ (0 : Int) < ((0 : Nat) : Int) := by omega
      simp only [hlt, hgt, i1, f0 hn', f1 hn', c66, w, obs, oms, bin_add, bin_sub, bin_lss, bin_leq, bin_gtr, bin_geq, bin_eql, bin_neq, bin_eqlB, bin_neqB, un_not, cond_B, gd_B, gd_undef, gdH_B, gdH_undef, pickA_B, extractA_tup, lenA_sl, lenA_row, fldA_fp, fldA_ptr, fldA_rptr, List.getElem?_cons_zero, List.getElem?_cons_succ, decide_true, decide_false, if_true, if_false, Bool.true_eq_false, Bool.false_eq_true, Bool.not_true, Bool.not_false]
      exact fin
    · have hgt : (0 : Int) < n := by omega
      have hp : n - 1 < S.length := by omega
      have w2 : IntKind.i64.wrap ((n : Int) - 1) = ((n - 1 : Nat) : Int) := by rw [wrap_id (by omega)]; omega
      have i2 : idxA 2 (Rw encP n2 t2 S) (I ((n - 1 : Nat) : Int)) = some (.fp (S.flatMap encP) ((n - 1) * 2)) := idxR hp
      have hlt2 : plt S[n - 1] S[n] := List.pairwise_iff_getElem.mp hs (n - 1) n hp hn' (by omega)
      unfold plt at hlt2
      have g1 : ¬ S[n].1 < S[n - 1].1 := by omega
      by_cases g2 : S[n].1 = S[n - 1].1
      · have g3 : ¬ S[n].2 ≤ S[n - 1].2 := by omega
        rw [g2] at c66
        simp only [hlt, hgt, i1, i2, f0 hn', f1 hn', f0 hp, f1 hp, w2, g2, Int.lt_irrefl, g3, c66, w, obs, oms, bin_add, bin_sub, bin_lss, bin_leq, bin_gtr, bin_geq, bin_eql, bin_neq, bin_eqlB, bin_neqB, un_not, cond_B, gd_B, gd_undef, gdH_B, gdH_undef, pickA_B, extractA_tup, lenA_sl, lenA_row, fldA_fp, fldA_ptr, fldA_rptr, List.getElem?_cons_zero, List.getElem?_cons_succ, decide_true, decide_false, if_true, if_false, Bool.true_eq_false, Bool.false_eq_true, Bool.not_true, Bool.not_false]
        exact fin
      · simp only [hlt, hgt, i1, i2, f0 hn', f1 hn', f0 hp, f1 hp, w2, g1, g2, c66, w, obs, oms, bin_add, bin_sub, bin_lss, bin_leq, bin_gtr, bin_geq, bin_eql, bin_neq, bin_eqlB, bin_neqB, un_not, cond_B, gd_B, gd_undef, gdH_B, gdH_undef, pickA_B, extractA_tup, lenA_sl, lenA_row, fldA_fp, fldA_ptr, fldA_rptr, List.getElem?_cons_zero, List.getElem?_cons_succ, decide_true, decide_false, if_true, if_false, Bool.true_eq_false, Bool.false_eq_true, Bool.not_true, Bool.not_false]
        exact fin

theorem loop42 {i k : Nat} (hi : i < l.length) (hk : k < l.length) (hSl : S.length ≤ 100000) : ∀ (c n : Nat) (b : Bool), S.length - n = c → n ≤ S.length →
    L10_42 [Rw enc nl tg l, Rw encP n2 t2 S, I 0, I i, I k, B b, I n] [] [] = L10_42 [Rw enc nl tg l, Rw encP n2 t2 S, I 0, I i, I k, B (b || decide ((Ea l k, Ea l i) ∈ S.drop n)), I S.length] [] [] := by
  intro c
  induction c with
  | zero =>
    intro n b hc hn
    have : n = S.length := by omega
    subst this
    simp
  | succ c ih =>
    intro n b hc hn
    have hn' : n < S.length := by omega
    have hlt : (n : Int) < S.length := by omega
    have w : IntKind.i64.wrap ((n : Int) + 1) = ((n + 1 : Nat) : Int) := by rw [wrap_id (by omega), nxt]
    have i1 : idxA 2 (Rw encP n2 t2 S) (I n) = some (.fp (S.flatMap encP) (n * 2)) := idxR hn'
    have l1 : ld true 2 (.fp (S.flatMap encP) (n * 2)) [] = some (avP S[n]) := by rw [ldR len2 hn']; rfl
    have hbd : buildA [(I 0), (I 0)] [(0, 1, I (Ea l k)), (1, 1, I (Ea l i))] = some (avP (Ea l k, Ea l i)) := rfl
    have hd : decide ((Ea l k, Ea l i) ∈ S.drop n) = (decide (S[n] = (Ea l k, Ea l i)) || decide ((Ea l k, Ea l i) ∈ S.drop (n + 1))) := by
      rw [Bool.eq_iff_iff, List.drop_eq_getElem_cons hn']
      simp only [List.mem_cons, Bool.or_eq_true, decide_eq_true_eq]
      exact or_congr ⟨Eq.symm, Eq.symm⟩ Iff.rfl
    have fin := ih (n + 1) (b || decide (S[n] = (Ea l k, Ea l i))) (by omega) (by omega)
    rw [hd, ← Bool.or_assoc, ← fin]
    conv => lhs; rw [L10_42_eq]
    cases b with
    | true =>
      simp only [hlt, w, Bool.true_or, obs, oms, bin_add, bin_sub, bin_lss, bin_leq, bin_gtr, bin_geq, bin_eql, bin_neq, bin_eqlB, bin_neqB, un_not, cond_B, gd_B, gd_undef, gdH_B, gdH_undef, pickA_B, extractA_tup, lenA_sl, lenA_row, fldA_fp, fldA_ptr, fldA_rptr, List.getElem?_cons_zero, List.getElem?_cons_succ, decide_true, decide_false, if_true, if_false, Bool.true_eq_false, Bool.false_eq_true, Bool.not_true, Bool.not_false]
    | false =>
      simp only [hlt, i1, l1, idxE hk, idxE hi, fA hk, fA hi, hbd, eqP, w, Bool.false_or, obs, oms, bin_add, bin_sub, bin_lss, bin_leq, bin_gtr, bin_geq, bin_eql, bin_neq, bin_eqlB, bin_neqB, un_not, cond_B, gd_B, gd_undef, gdH_B, gdH_undef, pickA_B, extractA_tup, lenA_sl, lenA_row, fldA_fp, fldA_ptr, fldA_rptr, List.getElem?_cons_zero, List.getElem?_cons_succ, decide_true, decide_false, if_true, if_false, Bool.true_eq_false, Bool.false_eq_true, Bool.not_true, Bool.not_false]

theorem loop32 (hl : l.length < 2 ^ 40) (hm : ∀ p : P2, p ∈ S ↔ LO l p.1 p.2) (hSl : S.length ≤ 100000) {i : Nat} (hi : i < l.length) : ∀ (c k : Nat), i - k = c → k ≤ i →
    L10_32 [Rw enc nl tg l, Rw encP n2 t2 S, I 0, I i, I k] [] [] = L10_26 [Rw enc nl tg l, Rw encP n2 t2 S, I 0, I ((i + 1 : Nat) : Int)] [] [] := by
  intro c
  induction c with
  | zero =>
    intro k hc hk
    have : k = i := by omega
    subst this
    rw [L10_32_eq]
    simp only [Int.lt_irrefl, obs, oms, bin_add, bin_sub, bin_lss, bin_leq, bin_gtr, bin_geq, bin_eql, bin_neq, bin_eqlB, bin_neqB, un_not, cond_B, gd_B, gd_undef, gdH_B, gdH_undef, pickA_B, extractA_tup, lenA_sl, lenA_row, fldA_fp, fldA_ptr, fldA_rptr, List.getElem?_cons_zero, List.getElem?_cons_succ, decide_true, decide_false, if_true, if_false, Bool.true_eq_false, Bool.false_eq_true, Bool.not_true, Bool.not_false]
    rw [wrap_id (by omega), nxt]
  | succ c ih =>
    intro k hc hk
    have hk' : k < l.length := by omega
    have hlt : (k : Int) < i := by omega
    have w : IntKind.i64.wrap ((k : Int) + 1) = ((k + 1 : Nat) : Int) := by rw [wrap_id (by omega), nxt]
    have fin := ih (k + 1) (by omega) (by omega)
    have c66 := call66 (nl := nl) (tg := tg) hl (Ea l k) (Ea l i) [] []
    have i13 : ∀ h : Kn l i = 13, True := fun _ => trivial
    rw [L10_32_eq]
    by_cases h1 : Kn l i = 13
    · by_cases h2 : Kn l k = 13
      · by_cases h3 : LO l (Ea l k) (Ea l i)
        · rw [dec_iff.mpr h3] at c66
          have hin : (Ea l k, Ea l i) ∈ S := (hm (Ea l k, Ea l i)).mpr h3
          have l42 := loop42 (nl := nl) (tg := tg) (n2 := n2) (t2 := t2) hi hk' hSl S.length 0 false rfl (by omega)
          rw [List.drop_zero, decide_eq_true hin, Bool.or_true, show ((0 : Nat) : Int) = 0 from rfl] at l42
          simp only [hlt, idxE hk', idxE hi, fK hk', fK hi, fA hk', fA hi, h1, h2, c66, obs, oms, bin_add, bin_sub, bin_lss, bin_leq, bin_gtr, bin_geq, bin_eql, bin_neq, bin_eqlB, bin_neqB, un_not, cond_B, gd_B, gd_undef, gdH_B, gdH_undef, pickA_B, extractA_tup, lenA_sl, lenA_row, fldA_fp, fldA_ptr, fldA_rptr, List.getElem?_cons_zero, List.getElem?_cons_succ, decide_true, decide_false, if_true, if_false, Bool.true_eq_false, Bool.false_eq_true, Bool.not_true, Bool.not_false]
          rw [l42, L10_42_eq]
          simp only [Int.lt_irrefl, L10_35_eq, w, obs, oms, bin_add, bin_sub, bin_lss, bin_leq, bin_gtr, bin_geq, bin_eql, bin_neq, bin_eqlB, bin_neqB, un_not, cond_B, gd_B, gd_undef, gdH_B, gdH_undef, pickA_B, extractA_tup, lenA_sl, lenA_row, fldA_fp, fldA_ptr, fldA_rptr, List.getElem?_cons_zero, List.getElem?_cons_succ, decide_true, decide_false, if_true, if_false, Bool.true_eq_false, Bool.false_eq_true, Bool.not_true, Bool.not_false]
          exact fin
        · rw [dec_f h3] at c66
          simp only [hlt, idxE hk', idxE hi, fK hk', fK hi, fA hk', fA hi, h1, h2, c66, L10_35_eq, w, obs, oms, bin_add, bin_sub, bin_lss, bin_leq, bin_gtr, bin_geq, bin_eql, bin_neq, bin_eqlB, bin_neqB, un_not, cond_B, gd_B, gd_undef, gdH_B, gdH_undef, pickA_B, extractA_tup, lenA_sl, lenA_row, fldA_fp, fldA_ptr, fldA_rptr, List.getElem?_cons_zero, List.getElem?_cons_succ, decide_true, decide_false, if_true, if_false, Bool.true_eq_false, Bool.false_eq_true, Bool.not_true, Bool.not_false]
          exact fin
      · simp only [hlt, idxE hk', idxE hi, fK hk', fK hi, h1, h2, L10_35_eq, w, obs, oms, bin_add, bin_sub, bin_lss, bin_leq, bin_gtr, bin_geq, bin_eql, bin_neq, bin_eqlB, bin_neqB, un_not, cond_B, gd_B, gd_undef, gdH_B, gdH_undef, pickA_B, extractA_tup, lenA_sl, lenA_row, fldA_fp, fldA_ptr, fldA_rptr, List.getElem?_cons_zero, List.getElem?_cons_succ, decide_true, decide_false, if_true, if_false, Bool.true_eq_false, Bool.false_eq_true, Bool.not_true, Bool.not_false]
        exact fin
    · simp only [hlt, idxE hk', idxE hi, fK hk', fK hi, h1, L10_35_eq, w, obs, oms, bin_add, bin_sub, bin_lss, bin_leq, bin_gtr, bin_geq, bin_eql, bin_neq, bin_eqlB, bin_neqB, un_not, cond_B, gd_B, gd_undef, gdH_B, gdH_undef, pickA_B, extractA_tup, lenA_sl, lenA_row, fldA_fp, fldA_ptr, fldA_rptr, List.getElem?_cons_zero, List.getElem?_cons_succ, decide_true, decide_false, if_true, if_false, Bool.true_eq_false, Bool.false_eq_true, Bool.not_true, Bool.not_false]
      exact fin

theorem loop26' (hl : l.length < 2 ^ 40) (hm : ∀ p : P2, p ∈ S ↔ LO l p.1 p.2) (hSl : S.length ≤ 100000) : ∀ (c i : Nat), l.length - i = c → i ≤ l.length →
    L10_26 [Rw enc nl tg l, Rw encP n2 t2 S, I 0, I i] [] [] = some ([B true], []) := by
  intro c
  induction c with
  | zero =>
    intro i hc hi
    have : i = l.length := by omega
    subst this
    rw [L10_26_eq]
    simp only [Int.lt_irrefl, obs, oms, bin_add, bin_sub, bin_lss, bin_leq, bin_gtr, bin_geq, bin_eql, bin_neq, bin_eqlB, bin_neqB, un_not, cond_B, gd_B, gd_undef, gdH_B, gdH_undef, pickA_B, extractA_tup, lenA_sl, lenA_row, fldA_fp, fldA_ptr, fldA_rptr, List.getElem?_cons_zero, List.getElem?_cons_succ, decide_true, decide_false, if_true, if_false, Bool.true_eq_false, Bool.false_eq_true, Bool.not_true, Bool.not_false]
    rfl
  | succ c ih =>
    intro i hc hi
    have hlt : (i : Int) < l.length := by omega
    have e := loop32 (nl := nl) (tg := tg) (n2 := n2) (t2 := t2) hl hm hSl (show i < l.length by omega) i 0 rfl (by omega)
    rw [L10_26_eq]
    simp only [hlt, obs, oms, bin_add, bin_sub, bin_lss, bin_leq, bin_gtr, bin_geq, bin_eql, bin_neq, bin_eqlB, bin_neqB, un_not, cond_B, gd_B, gd_undef, gdH_B, gdH_undef, pickA_B, extractA_tup, lenA_sl, lenA_row, fldA_fp, fldA_ptr, fldA_rptr, List.getElem?_cons_zero, List.getElem?_cons_succ, decide_true, decide_false, if_true, if_false, Bool.true_eq_false, Bool.false_eq_true, Bool.not_true, Bool.not_false]
    rw [show (0 : Int) = ((0 : Nat) : Int) from rfl] at *
    exact e.trans (ih (i + 1) (by omega) (by omega))

theorem ex0 (a b : AV) : extractA (.tup [a, b]) 0 = some a := _root_.id rfl
theorem ex1 (a b : AV) : extractA (.tup [a, b]) 1 = some b := _root_.id rfl

theorem law : O.ent 10 [Rw enc nl tg l] [] [] = some ([B true], []) := by
  rw [f10_eq]
  by_cases h : l.length ≤ 200
  · have h' : (l.length : Int) ≤ 200 := by omega
    obtain ⟨t', e64⟩ := call64 (l := l) (nl := nl) (tg := tg) 60 (by omega) [] []
    have e64' : callA cfg O 64 [Rw enc nl tg l, I 60] [] [] = _ := e64
    generalize hl2 : l.take 60 = m at *
    have hml : m.length ≤ 60 := by rw [← hl2]; simp; omega
    obtain ⟨n2, t2, S, e, r1, r2, r3⟩ := call65 (l := m) (nl := nl) (tg := t') (by omega) [] []
    have hgt : ¬ (200 : Int) < m.length := by omega
    have hz : ((0 : Nat) : Int) = 0 := rfl
    have k1 := loop16 (nl := nl) (tg := t') (n2 := n2) (t2 := t2) (show m.length < 2 ^ 40 by omega) r1 r2 r3 S.length 0 rfl (by omega)
    have k2 := loop26' (nl := nl) (tg := t') (n2 := n2) (t2 := t2) (show m.length < 2 ^ 40 by omega) r2 r3 m.length 0 rfl (by omega)
    rw [hz] at k1 k2
    simp only [h', e64', obs, oms, bin_add, bin_sub, bin_lss, bin_leq, bin_gtr, bin_geq, bin_eql, bin_neq, bin_eqlB, bin_neqB, un_not, cond_B, gd_B, gd_undef, gdH_B, gdH_undef, pickA_B, extractA_tup, lenA_sl, lenA_row, fldA_fp, fldA_ptr, fldA_rptr, List.getElem?_cons_zero, List.getElem?_cons_succ, decide_true, decide_false, if_true, if_false, Bool.true_eq_false, Bool.false_eq_true, Bool.not_true, Bool.not_false]
    rw [L10_9_eq]
    simp only [e, ex0, ex1, hgt, k1, obs, oms, bin_add, bin_sub, bin_lss, bin_leq, bin_gtr, bin_geq, bin_eql, bin_neq, bin_eqlB, bin_neqB, un_not, cond_B, gd_B, gd_undef, gdH_B, gdH_undef, pickA_B, extractA_tup, lenA_sl, lenA_row, fldA_fp, fldA_ptr, fldA_rptr, List.getElem?_cons_zero, List.getElem?_cons_succ, decide_true, decide_false, if_true, if_false, Bool.true_eq_false, Bool.false_eq_true, Bool.not_true, Bool.not_false]
    exact k2
  · have h' : ¬ (l.length : Int) ≤ 200 := by omega
    have hgt : (200 : Int) < l.length := by omega
    have e65 : callA cfg O 65 [Rw enc nl tg l] [] [] = some (.tup [.p nilS, I 2], []) := callA_pure (xs := [.sl nl tg l.length (l.flatMap enc)]) (H' := []) (rs := [.p nilS, I 2]) rfl (by
      show O.ent 65 [Rw enc nl tg l] [] [] = _
      rw [f65_eq]
      simp only [hgt, obs, oms, bin_add, bin_sub, bin_lss, bin_leq, bin_gtr, bin_geq, bin_eql, bin_neq, bin_eqlB, bin_neqB, un_not, cond_B, gd_B, gd_undef, gdH_B, gdH_undef, pickA_B, extractA_tup, lenA_sl, lenA_row, fldA_fp, fldA_ptr, fldA_rptr, List.getElem?_cons_zero, List.getElem?_cons_succ, decide_true, decide_false, if_true, if_false, Bool.true_eq_false, Bool.false_eq_true, Bool.not_true, Bool.not_false]
      rfl) rfl
    simp only [h', obs, oms, bin_add, bin_sub, bin_lss, bin_leq, bin_gtr, bin_geq, bin_eql, bin_neq, bin_eqlB, bin_neqB, un_not, cond_B, gd_B, gd_undef, gdH_B, gdH_undef, pickA_B, extractA_tup, lenA_sl, lenA_row, fldA_fp, fldA_ptr, fldA_rptr, List.getElem?_cons_zero, List.getElem?_cons_succ, decide_true, decide_false, if_true, if_false, Bool.true_eq_false, Bool.false_eq_true, Bool.not_true, Bool.not_false]
    rw [L10_9_eq]
    simp only [e65, ex0, ex1, hgt, obs, oms, bin_add, bin_sub, bin_lss, bin_leq, bin_gtr, bin_geq, bin_eql, bin_neq, bin_eqlB, bin_neqB, un_not, cond_B, gd_B, gd_undef, gdH_B, gdH_undef, pickA_B, extractA_tup, lenA_sl, lenA_row, fldA_fp, fldA_ptr, fldA_rptr, List.getElem?_cons_zero, List.getElem?_cons_succ, decide_true, decide_false, if_true, if_false, Bool.true_eq_false, Bool.false_eq_true, Bool.not_true, Bool.not_false]
    rfl
end
end Lo
end Go.Proofs.Ytkhbbjfdbbnojaa
