import Derived.Test.YtangmjeafnkfaaaLinT
set_option linter.unusedVariables false
set_option linter.unusedSimpArgs false
namespace Go.Proofs.Ytangmjeafnkfaaa
open Go Go.AM
namespace Lin
section
variable {nl : Option Bool} {tg : Bool} {l : List Dl}

theorem low_uses : low (uses l) := fun i x hx => uses_lt x hx
theorem uses_two (i : Nat) : (uses l i).length ≤ 2 := by
  unfold uses
  have h : ∀ n, (oN (lastI l i n)).length ≤ 1 := by intro n; cases lastI l i n <;> simp [oN]
  split
  · have h1 := h (l.getD i dd).2.2.1
    have h2 := h (l.getD i dd).2.2.2
    rw [List.length_append]; omega
  · simp

/-- The lines up to a place that are hung on, from so many ahead of it on. -/
def idxs (l : List Dl) (a c : Nat) : List Nat := ((List.range (a + 1)).drop (a + 1 - c)).filter fun j => mk (uses l) a c j
theorem idxs_zero (a : Nat) : idxs l a 0 = [] := by
  unfold idxs
  rw [List.drop_eq_nil_of_le (by simp)]
  rfl
theorem idxs_succ {a c : Nat} (h : c ≤ a) : idxs l a (c + 1) = (if mk (uses l) a c (a - c) = true then [a - c] else []) ++ idxs l a c := by
  unfold idxs
  have e : (List.range (a + 1)).drop (a + 1 - (c + 1)) = (a - c) :: (List.range (a + 1)).drop (a + 1 - c) := by
    rw [show a + 1 - (c + 1) = a - c by omega, List.drop_eq_getElem_cons (by simp; omega), List.getElem_range, show a - c + 1 = a + 1 - c by omega]
  rw [e, List.filter_cons, mk_keep low_uses (Nat.le_refl _)]
  have : ((List.range (a + 1)).drop (a + 1 - c)).filter (fun j => mk (uses l) a (c + 1) j) = ((List.range (a + 1)).drop (a + 1 - c)).filter (fun j => mk (uses l) a c j) := by
    refine List.filter_congr fun j hj => ?_
    obtain ⟨i, hi, rfl⟩ := List.mem_iff_getElem.mp hj
    rw [List.getElem_drop, List.getElem_range]
    exact mk_keep low_uses (by omega)
  rw [this]
  cases mk (uses l) a c (a - c) <;> simp
theorem idxs_len {a c : Nat} : (idxs l a c).length ≤ a + 1 := by
  unfold idxs
  have h1 := List.length_filter_le (fun j => mk (uses l) a c j) ((List.range (a + 1)).drop (a + 1 - c))
  simp at h1 ⊢
  omega
theorem idxs_full {a n : Nat} (h : a < n) : idxs l a (a + 1) = (List.range n).filter fun j => mk (uses l) a (a + 1) j := by
  unfold idxs
  rw [Nat.sub_self, List.drop_zero]
  have e : List.range n = List.range (a + 1) ++ (List.range (n - (a + 1))).map (a + 1 + ·) := by
    rw [← List.range_add]; congr 1; omega
  rw [e, List.filter_append]
  have : ((List.range (n - (a + 1))).map (a + 1 + ·)).filter (fun j => mk (uses l) a (a + 1) j) = [] := by
    rw [List.filter_eq_nil_iff]
    intro j hj
    obtain ⟨i, _, rfl⟩ := List.mem_map.mp hj
    rw [mk_high low_uses _ _ (by omega)]
    simp
  rw [this, List.append_nil]

theorem litE (e : Dl) (H : Heap) : litA false 4 [ag e] H = some (.p (.sl (some false) true 1 (enc_DLet e)), H) := rfl
theorem cellsE (e : Dl) (H : Heap) : cellsA 4 (.p (.sl (some false) true 1 (enc_DLet e))) H = some (1, enc_DLet e) := by simp [cellsA, len_DLet]

/-! ### The program's lines -/
theorem loop53 (hl : l.length ≤ 200) {p : Nat → Bool} {n2 : Option Bool} {t2 : Bool} (lo : List Nat) : ∀ (r i : Nat) (o : AV) (H : Heap), l.length - i = r → i ≤ l.length →
    Cx H [] [(o, 4, ((List.range i).filter p).length, sel l ((List.range i).filter p))] →
    ∃ n t H', L53_14 [L nl tg l, o, .p (.sl n2 t2 l.length (((List.range l.length).map p).map Bc)), I l.length, I i] lo H = some ([.p (.sl n t ((List.range l.length).filter p).length (sel l ((List.range l.length).filter p))), I 0], H') := by
  intro r
  induction r with
  | zero =>
    intro i o H hr hi h
    have : i = l.length := by omega
    subst this
    obtain ⟨n, t, H', e⟩ := h.hd.leave2 lo (Ia 0)
    refine ⟨n, t, H', ?_⟩
    rw [L53_14_eq]
    simp only [bin_lss, Int.lt_irrefl, obs, oms, bin_add, bin_sub, bin_lss, bin_leq, bin_gtr, bin_geq, bin_eql, bin_neq, bin_eqlB, bin_neqB, un_not, cond_B, gd_B, gd_undef, gdH_B, gdH_undef, pickA_B, extractA_tup, lenA_sl, lenA_row, fldA_fp, fldA_ptr, fldA_rptr, List.getElem?_cons_zero, List.getElem?_cons_succ, decide_true, decide_false, if_true, if_false, Bool.true_eq_false, Bool.false_eq_true, Bool.not_true, Bool.not_false]
    exact e
  | succ r ih =>
    intro i o H hr hi h
    have hi' : i < l.length := by omega
    have hlt : (i : Int) < l.length := by omega
    have hix : idxA 1 (.p (.sl n2 t2 l.length (((List.range l.length).map p).map Bc))) (I i) = some (.fp (((List.range l.length).map p).map Bc) i) := by
      have := idxA_sl (sz := 1) (n := l.length) (nl := n2) (t := t2) (xs := ((List.range l.length).map p).map Bc) (j := (i : Int)) (by omega)
      simpa using this
    have hld : ld false 1 (.fp (((List.range l.length).map p).map Bc) i) H = some (B (p i)) := by
      rw [ld_fp]; simp [hi']
    have nx : ∀ o H, L53_23 [L nl tg l, o, .p (.sl n2 t2 l.length (((List.range l.length).map p).map Bc)), I l.length, I i] lo H = L53_14 [L nl tg l, o, .p (.sl n2 t2 l.length (((List.range l.length).map p).map Bc)), I l.length, I (i + 1 : Nat)] lo H := by
      intro o H
      rw [L53_23_eq]
      simp only [bin_add, obs]
      rw [wrap_id (by omega), nxt]
    have hs : (List.range (i + 1)).filter p = (List.range i).filter p ++ if p i = true then [i] else [] := by
      rw [List.range_succ, List.filter_append]
      cases hp : p i <;> simp [hp]
    rw [L53_14_eq]
    simp only [bin_lss, hlt, hix, hld, obs, oms, bin_add, bin_sub, bin_lss, bin_leq, bin_gtr, bin_geq, bin_eql, bin_neq, bin_eqlB, bin_neqB, un_not, cond_B, gd_B, gd_undef, gdH_B, gdH_undef, pickA_B, extractA_tup, lenA_sl, lenA_row, fldA_fp, fldA_ptr, fldA_rptr, List.getElem?_cons_zero, List.getElem?_cons_succ, decide_true, decide_false, if_true, if_false, Bool.true_eq_false, Bool.false_eq_true, Bool.not_true, Bool.not_false]
    cases hp : p i with
    | false =>
      simp only [obs, oms, bin_add, bin_sub, bin_lss, bin_leq, bin_gtr, bin_geq, bin_eql, bin_neq, bin_eqlB, bin_neqB, un_not, cond_B, gd_B, gd_undef, gdH_B, gdH_undef, pickA_B, extractA_tup, lenA_sl, lenA_row, fldA_fp, fldA_ptr, fldA_rptr, List.getElem?_cons_zero, List.getElem?_cons_succ, decide_true, decide_false, if_true, if_false, Bool.true_eq_false, Bool.false_eq_true, Bool.not_true, Bool.not_false, nx]
      rw [hp] at hs
      simp only [Bool.false_eq_true, if_false, List.append_nil] at hs
      rw [← hs] at h
      exact ih (i + 1) o H (by omega) (by omega) h
    | true =>
      have hlen := List.length_filter_le p (List.range i)
      simp at hlen
      obtain ⟨o', H', e, c, _⟩ := Cx.app (bytes := 32) (y := .p (.sl (some false) true 1 (enc_DLet l[i]))) [] h (cellsE _ _) (len_DLet _) (by omega) (by simp only [room]; omega)
      simp only [idxD hi', ldE hi', litE, e, obs, oms, bin_add, bin_sub, bin_lss, bin_leq, bin_gtr, bin_geq, bin_eql, bin_neq, bin_eqlB, bin_neqB, un_not, cond_B, gd_B, gd_undef, gdH_B, gdH_undef, pickA_B, extractA_tup, lenA_sl, lenA_row, fldA_fp, fldA_ptr, fldA_rptr, List.getElem?_cons_zero, List.getElem?_cons_succ, decide_true, decide_false, if_true, if_false, Bool.true_eq_false, Bool.false_eq_true, Bool.not_true, Bool.not_false, nx]
      refine ih (i + 1) o' H' (by omega) (by omega) ?_
      rw [hs, hp]
      have : l.getD i dd = l[i] := by simp [List.getD, hi']
      simp only [if_true, List.length_append, List.length_singleton, sel, List.flatMap_append, List.flatMap_cons, List.flatMap_nil, List.append_nil, this]
      exact c

def alone (l : List Dl) (a : Int) : List Nat := if errD l a = 0 then idxs l a.toNat (a.toNat + 1) else []
theorem call53 (a : Int) (hl2 : l.length < 2 ^ 63) (lo : List Nat) (H : Heap) : ∃ n t, callA cfg O 53 [L nl tg l, I a] lo H = some (.tup [.p (.sl n t (alone l a).length (sel l (alone l a))), I (errD l a)], H) := by
  unfold alone
  by_cases he : errD l a = 0
  · obtain ⟨h1, h2, m, rfl, hm⟩ := errD_zero he
    rw [if_pos he]
    obtain ⟨t, ds, q1, q2⟩ := call120 (nl := nl) (tg := tg) (l := l) h1 (by omega) [] []
    have hds : ds.length = l.length := by have := congrArg List.length q2; simpa [ints] using this
    obtain ⟨n3, t3, q3⟩ := call99 (n1 := some false) (t1 := t) (ds := ds) (us := uses l) low_uses (by rw [q2, hds]) (by omega) uses_two (a := m) (by omega) [] []
    rw [hds] at q3
    obtain ⟨n, t4, H', e⟩ := loop53 (nl := nl) (tg := tg) (l := l) h1 (p := mk (uses l) m (m + 1)) (n2 := n3) (t2 := t3) [] _ 0 (.p nilS) [] rfl (by omega) ((Cx.nil []).newNil 4)
    refine ⟨n, t4, callA_args (H' := H') (rs := [_, _]) rfl rfl ?_ rfl⟩
    rw [f53_eq]
    simp only [call118 (nl := nl) (tg := tg) (l := l) m hl2, he, q1, q3, bin_neq, obs, oms, bin_add, bin_sub, bin_lss, bin_leq, bin_gtr, bin_geq, bin_eql, bin_neq, bin_eqlB, bin_neqB, un_not, cond_B, gd_B, gd_undef, gdH_B, gdH_undef, pickA_B, extractA_tup, lenA_sl, lenA_row, fldA_fp, fldA_ptr, fldA_rptr, List.getElem?_cons_zero, List.getElem?_cons_succ, decide_true, decide_false, if_true, if_false, Bool.true_eq_false, Bool.false_eq_true, Bool.not_true, Bool.not_false, Int.toNat_natCast, idxs_full hm]
    exact e
  · rw [if_neg he]
    refine ⟨some true, true, callA_args (H' := []) (rs := [_, _]) rfl rfl ?_ rfl⟩
    rw [f53_eq]
    simp only [call118 (nl := nl) (tg := tg) (l := l) a hl2, he, bin_neq, obs, oms, bin_add, bin_sub, bin_lss, bin_leq, bin_gtr, bin_geq, bin_eql, bin_neq, bin_eqlB, bin_neqB, un_not, cond_B, gd_B, gd_undef, gdH_B, gdH_undef, pickA_B, extractA_tup, lenA_sl, lenA_row, fldA_fp, fldA_ptr, fldA_rptr, List.getElem?_cons_zero, List.getElem?_cons_succ, decide_true, decide_false, if_true, if_false, Bool.true_eq_false, Bool.false_eq_true, Bool.not_true, Bool.not_false]
    rfl

/-! ### The document's -/
theorem loop56 (hv : l.any opBad = false) (hl : l.length ≤ 200) {a : Nat} (ha : a < l.length) {id g : Nat} (lo : List Nat) : ∀ (r c : Nat) (o : AV) (H : Heap), a + 1 - c = r → c ≤ a + 1 →
    Cx H [] [(o, 4, (idxs l a c).length, sel l (idxs l a c)), (.row id g 0 (a + 1), 1, a + 1, (bl (uses l) a (a + 1) c).map Bc)] →
    ∃ n t H', L56_12 [L nl tg l, .row id g 0 (a + 1), o, I ((a : Int) - c)] lo H = some ([.p (.sl n t (idxs l a (a + 1)).length (sel l (idxs l a (a + 1))))], H') := by
  intro r
  induction r with
  | zero =>
    intro c o H hr hc h
    have : c = a + 1 := by omega
    subst this
    obtain ⟨n, t, H', e⟩ := h.hd.leave1 lo
    refine ⟨n, t, H', ?_⟩
    have g1 : ¬ (0 : Int) ≤ (a : Int) - (a + 1 : Nat) := by omega
    rw [L56_12_eq]
    simp only [bin_geq, g1, obs, oms, bin_add, bin_sub, bin_lss, bin_leq, bin_gtr, bin_geq, bin_eql, bin_neq, bin_eqlB, bin_neqB, un_not, cond_B, gd_B, gd_undef, gdH_B, gdH_undef, pickA_B, extractA_tup, lenA_sl, lenA_row, fldA_fp, fldA_ptr, fldA_rptr, List.getElem?_cons_zero, List.getElem?_cons_succ, decide_true, decide_false, if_true, if_false, Bool.true_eq_false, Bool.false_eq_true, Bool.not_true, Bool.not_false]
    exact e
  | succ r ih =>
    intro c o H hr hc h
    have hac : a - c < a + 1 := by omega
    have hil : a - c < l.length := by omega
    have g1 : (0 : Int) ≤ (a : Int) - c := by omega
    have gi : (a : Int) - c = ((a - c : Nat) : Int) := by omega
    obtain ⟨e1, e2, _, _⟩ := Cx.cell [_] h hac
    rw [bl_get (uses l) a hac] at e2
    have e2' : ld false 1 (.rptr id g (a - c)) H = some (B (mk (uses l) a c (a - c))) := e2
    have nx : ∀ o H, L56_15 [L nl tg l, .row id g 0 (a + 1), o, I (a - c : Nat)] lo H = L56_12 [L nl tg l, .row id g 0 (a + 1), o, I ((a : Int) - (c + 1 : Nat))] lo H := by
      intro o H
      rw [L56_15_eq]
      simp only [bin_sub, obs]
      rw [wrap_id (by omega), show ((a - c : Nat) : Int) - 1 = (a : Int) - (c + 1 : Nat) by omega]
    have hsu := idxs_succ (l := l) (a := a) (c := c) (by omega)
    rw [L56_12_eq]
    simp only [bin_geq, g1, gi, e1, e2', un_not, obs, oms, bin_add, bin_sub, bin_lss, bin_leq, bin_gtr, bin_geq, bin_eql, bin_neq, bin_eqlB, bin_neqB, un_not, cond_B, gd_B, gd_undef, gdH_B, gdH_undef, pickA_B, extractA_tup, lenA_sl, lenA_row, fldA_fp, fldA_ptr, fldA_rptr, List.getElem?_cons_zero, List.getElem?_cons_succ, decide_true, decide_false, if_true, if_false, Bool.true_eq_false, Bool.false_eq_true, Bool.not_true, Bool.not_false]
    cases hm : mk (uses l) a c (a - c) with
    | false =>
      rw [hm] at hsu
      simp only [Bool.false_eq_true, if_false, List.nil_append] at hsu
      rw [bl_skip (uses l) hm, ← hsu] at h
      simp only [obs, oms, bin_add, bin_sub, bin_lss, bin_leq, bin_gtr, bin_geq, bin_eql, bin_neq, bin_eqlB, bin_neqB, un_not, cond_B, gd_B, gd_undef, gdH_B, gdH_undef, pickA_B, extractA_tup, lenA_sl, lenA_row, fldA_fp, fldA_ptr, fldA_rptr, List.getElem?_cons_zero, List.getElem?_cons_succ, decide_true, decide_false, if_true, if_false, Bool.true_eq_false, Bool.false_eq_true, Bool.not_true, Bool.not_false, nx]
      exact ih (c + 1) o H (by omega) (by omega) h
    | true =>
      rw [hm] at hsu
      simp only [if_true, List.singleton_append] at hsu
      have hlen := idxs_len (l := l) (a := a) (c := c)
      obtain ⟨o', H1, q1, c1⟩ := Cx.prep (bytes := 32) (e := enc_DLet l[a - c]) h (len_DLet _) (by simp only [room]; omega)
      have hgd : l.getD (a - c) dd = l[a - c] := by simp [List.getD, hil]
      have hsel : enc_DLet l[a - c] ++ sel l (idxs l a c) = sel l (idxs l a (c + 1)) := by
        rw [hsu]
        simp only [sel, List.flatMap_cons, hgd]
      have hln : (idxs l a c).length + 1 = (idxs l a (c + 1)).length := by rw [hsu]; rfl
      rw [hsel, hln] at c1
      have hus := uses_eq (l := l) hil
      have hop : opBad l[a - c] = false := by
        rw [List.any_eq_false] at hv
        simpa using hv _ (List.getElem_mem hil)
      unfold opBad at hop
      simp only [Bool.or_eq_false_iff, decide_eq_false_iff_not] at hop
      have fin : ∀ H2, Cx H2 [] [(o', 4, (idxs l a (c + 1)).length, sel l (idxs l a (c + 1))), (.row id g 0 (a + 1), 1, a + 1, (blp (uses l) a (a + 1) c (uses l (a - c))).map Bc)] →
          ∃ n t H', L56_15 [L nl tg l, .row id g 0 (a + 1), o', I (a - c : Nat)] lo H2 = some ([.p (.sl n t (idxs l a (a + 1)).length (sel l (idxs l a (a + 1))))], H') := by
        intro H2 h2
        rw [blp_next (uses l) hm] at h2
        rw [nx]
        exact ih (c + 1) o' H2 (by omega) (by omega) h2
      have c1' : Cx H1 [] [(o', 4, (idxs l a (c + 1)).length, sel l (idxs l a (c + 1))), (.row id g 0 (a + 1), 1, a + 1, (blp (uses l) a (a + 1) c []).map Bc)] := by
        rw [blp_nil]; exact c1
      have mark : ∀ (xs : List Int) (n : Int) (H2 : Heap), Cx H2 [] [(o', 4, (idxs l a (c + 1)).length, sel l (idxs l a (c + 1))), (.row id g 0 (a + 1), 1, a + 1, (blp (uses l) a (a + 1) c xs).map Bc)] →
          (if 0 ≤ lv (lastI l (a - c) n) then ∃ k H3, idxA 1 (.row id g 0 (a + 1)) (I (lv (lastI l (a - c) n))) = some (.rptr id g k) ∧ stA 1 (.rptr id g k) (B true) lo H2 = some H3 ∧
            Cx H3 [] [(o', 4, (idxs l a (c + 1)).length, sel l (idxs l a (c + 1))), (.row id g 0 (a + 1), 1, a + 1, (blp (uses l) a (a + 1) c (xs ++ oN (lastI l (a - c) n))).map Bc)] else oN (lastI l (a - c) n) = []) := by
        intro xs n H2 h2
        cases hk : lastI l (a - c) n with
        | none => rfl
        | some k =>
          have hlt := lastI_lt _ n k hk
          obtain ⟨q1, _, _, q4⟩ := Cx.cell [_] h2 (j := k) (by omega)
          obtain ⟨s1, s2⟩ := q4 (Bc true) lo
          rw [blp_set] at s1 s2
          have : (0 : Int) ≤ lv (some k) := by simp [lv]
          rw [if_pos this]
          exact ⟨k, _, q1, s1, s2⟩
      simp only [idxD hil, ldE hil, litE, q1, fldA_fp, f1 hil, bin_eql, obs, oms, bin_add, bin_sub, bin_lss, bin_leq, bin_gtr, bin_geq, bin_eql, bin_neq, bin_eqlB, bin_neqB, un_not, cond_B, gd_B, gd_undef, gdH_B, gdH_undef, pickA_B, extractA_tup, lenA_sl, lenA_row, fldA_fp, fldA_ptr, fldA_rptr, List.getElem?_cons_zero, List.getElem?_cons_succ, decide_true, decide_false, if_true, if_false, Bool.true_eq_false, Bool.false_eq_true, Bool.not_true, Bool.not_false]
      by_cases g3 : l[a - c].2.1 = 3
      · have : ¬ l[a - c].2.1 < 3 := by omega
        rw [if_neg this] at hus
        simp only [g3, obs, oms, bin_add, bin_sub, bin_lss, bin_leq, bin_gtr, bin_geq, bin_eql, bin_neq, bin_eqlB, bin_neqB, un_not, cond_B, gd_B, gd_undef, gdH_B, gdH_undef, pickA_B, extractA_tup, lenA_sl, lenA_row, fldA_fp, fldA_ptr, fldA_rptr, List.getElem?_cons_zero, List.getElem?_cons_succ, decide_true, decide_false, if_true, if_false, Bool.true_eq_false, Bool.false_eq_true, Bool.not_true, Bool.not_false]
        exact fin H1 (by rw [hus]; exact c1')
      · have g4 : l[a - c].2.1 < 3 := by omega
        rw [if_pos g4] at hus
        simp only [g3, f2 hil, call121 (nl := nl) (tg := tg) (l := l) (i := a - c) (by omega) (by omega), bin_geq, obs, oms, bin_add, bin_sub, bin_lss, bin_leq, bin_gtr, bin_geq, bin_eql, bin_neq, bin_eqlB, bin_neqB, un_not, cond_B, gd_B, gd_undef, gdH_B, gdH_undef, pickA_B, extractA_tup, lenA_sl, lenA_row, fldA_fp, fldA_ptr, fldA_rptr, List.getElem?_cons_zero, List.getElem?_cons_succ, decide_true, decide_false, if_true, if_false, Bool.true_eq_false, Bool.false_eq_true, Bool.not_true, Bool.not_false]
        have t29 : ∀ H2, Cx H2 [] [(o', 4, (idxs l a (c + 1)).length, sel l (idxs l a (c + 1))), (.row id g 0 (a + 1), 1, a + 1, (blp (uses l) a (a + 1) c (oN (lastI l (a - c) l[a - c].2.2.1))).map Bc)] →
            ∃ n t H', L56_29 [L nl tg l, .row id g 0 (a + 1), o', I (a - c : Nat)] lo H2 = some ([.p (.sl n t (idxs l a (a + 1)).length (sel l (idxs l a (a + 1))))], H') := by
          intro H2 h2
          have hk := mark _ l[a - c].2.2.2 H2 h2
          rw [L56_29_eq]
          simp only [idxD hil, fldA_fp, f3 hil, call121 (nl := nl) (tg := tg) (l := l) (i := a - c) (by omega) (by omega), bin_geq, obs, oms, bin_add, bin_sub, bin_lss, bin_leq, bin_gtr, bin_geq, bin_eql, bin_neq, bin_eqlB, bin_neqB, un_not, cond_B, gd_B, gd_undef, gdH_B, gdH_undef, pickA_B, extractA_tup, lenA_sl, lenA_row, fldA_fp, fldA_ptr, fldA_rptr, List.getElem?_cons_zero, List.getElem?_cons_succ, decide_true, decide_false, if_true, if_false, Bool.true_eq_false, Bool.false_eq_true, Bool.not_true, Bool.not_false]
          by_cases g : 0 ≤ lv (lastI l (a - c) l[a - c].2.2.2)
          · rw [if_pos g] at hk
            obtain ⟨k, H3, r1, r2, r3⟩ := hk
            simp only [g, r1, r2, obs, oms, bin_add, bin_sub, bin_lss, bin_leq, bin_gtr, bin_geq, bin_eql, bin_neq, bin_eqlB, bin_neqB, un_not, cond_B, gd_B, gd_undef, gdH_B, gdH_undef, pickA_B, extractA_tup, lenA_sl, lenA_row, fldA_fp, fldA_ptr, fldA_rptr, List.getElem?_cons_zero, List.getElem?_cons_succ, decide_true, decide_false, if_true, if_false, Bool.true_eq_false, Bool.false_eq_true, Bool.not_true, Bool.not_false]
            exact fin H3 (by rw [hus]; exact r3)
          · rw [if_neg g] at hk
            simp only [g, obs, oms, bin_add, bin_sub, bin_lss, bin_leq, bin_gtr, bin_geq, bin_eql, bin_neq, bin_eqlB, bin_neqB, un_not, cond_B, gd_B, gd_undef, gdH_B, gdH_undef, pickA_B, extractA_tup, lenA_sl, lenA_row, fldA_fp, fldA_ptr, fldA_rptr, List.getElem?_cons_zero, List.getElem?_cons_succ, decide_true, decide_false, if_true, if_false, Bool.true_eq_false, Bool.false_eq_true, Bool.not_true, Bool.not_false]
            exact fin H2 (by rw [hus, hk, List.append_nil]; exact h2)
        have hk := mark [] l[a - c].2.2.1 H1 c1'
        by_cases g : 0 ≤ lv (lastI l (a - c) l[a - c].2.2.1)
        · rw [if_pos g] at hk
          obtain ⟨k, H3, r1, r2, r3⟩ := hk
          simp only [g, r1, r2, obs, oms, bin_add, bin_sub, bin_lss, bin_leq, bin_gtr, bin_geq, bin_eql, bin_neq, bin_eqlB, bin_neqB, un_not, cond_B, gd_B, gd_undef, gdH_B, gdH_undef, pickA_B, extractA_tup, lenA_sl, lenA_row, fldA_fp, fldA_ptr, fldA_rptr, List.getElem?_cons_zero, List.getElem?_cons_succ, decide_true, decide_false, if_true, if_false, Bool.true_eq_false, Bool.false_eq_true, Bool.not_true, Bool.not_false]
          exact t29 H3 r3
        · rw [if_neg g] at hk
          simp only [g, obs, oms, bin_add, bin_sub, bin_lss, bin_leq, bin_gtr, bin_geq, bin_eql, bin_neq, bin_eqlB, bin_neqB, un_not, cond_B, gd_B, gd_undef, gdH_B, gdH_undef, pickA_B, extractA_tup, lenA_sl, lenA_row, fldA_fp, fldA_ptr, fldA_rptr, List.getElem?_cons_zero, List.getElem?_cons_succ, decide_true, decide_false, if_true, if_false, Bool.true_eq_false, Bool.false_eq_true, Bool.not_true, Bool.not_false]
          exact t29 H1 (by rw [hk]; exact c1')

theorem call56 (hv : l.any opBad = false) (hl : l.length ≤ 200) {a : Nat} (ha : a < l.length) (lo : List Nat) (H : Heap) : ∃ n t, callA cfg O 56 [L nl tg l, I a] lo H = some (.p (.sl n t (idxs l a (a + 1)).length (sel l (idxs l a (a + 1)))), H) := by
  have hC : Cx ([] ++ [.row 0 1 (List.replicate (a + 1) (Bc false))]) [] [(.row 0 0 0 (a + 1), 1, a + 1, List.replicate (a + 1) (Bc false))] := (Cx.nil []).newRow (sz := 1) (m := a + 1) (by simp)
  obtain ⟨e1, e2, _, e4⟩ := Cx.cell [] hC (j := a) (by omega)
  obtain ⟨s1, s2⟩ := e4 (Bc true) []
  rw [bl_first (uses l)] at s1 s2
  have s3 := s2.newNil 4
  obtain ⟨n, t, H', e⟩ := loop56 (nl := nl) (tg := tg) (l := l) hv hl ha [] _ 0 (.p nilS) _ rfl (by omega) (by rw [idxs_zero]; exact s3)
  refine ⟨n, t, callA_args (H' := H') (rs := [_]) rfl rfl ?_ rfl⟩
  rw [f56_eq]
  have hm : mkRow 1 1 [(.v (.bool false))] (I (a + 1 : Nat)) (I (a + 1 : Nat)) [] = some (.row 0 0 0 (a + 1), [] ++ [.row 0 1 (List.replicate (a + 1) (Bc false))]) := by
    simp only [mkRow, asI, obs]
    rw [if_pos ⟨by omega, by omega, by simp only [room]; omega⟩]
    simp [zeros_one]
  simp only [bin_add, obs]
  rw [wrap_id (by omega), nxt]
  simp only [hm, e1, s1, oms, obs]
  rw [show ((a : Int) - (0 : Nat)) = a by omega] at e
  exact e

/-! ### The law -/
theorem neqE (e : Dl) : bin .neq (.agg 4 [(0, .int), (1, .int), (2, .int), (3, .int)]) (ag e) (ag e) = some (B false) := by
  have h : leavesEq [I e.1, I e.2.1, I e.2.2.1, I e.2.2.2] [I e.1, I e.2.1, I e.2.2.1, I e.2.2.2] [(0, .int), (1, .int), (2, .int), (3, .int)] = some true := by
    simp [leavesEq, leafEq]
  simp only [bin, ag, enc_DLet, List.map_cons, List.map_nil, List.length_cons, List.length_nil, and_self, if_true]
  rw [h]
  rfl

theorem loop13 {is : List Nat} (hi : is.length < 2 ^ 63) {n1 n2 : Option Bool} {t1 t2 : Bool} {x y : Int} (lo : List Nat) (H : Heap) : ∀ (r i : Nat), is.length - i = r → i ≤ is.length →
    L13_24 [I x, I y, .p (.sl n1 t1 is.length (sel l is)), I y, I y, I x, .p (.sl n2 t2 is.length (sel l is)), I i] lo H = some ([B true], H) := by
  intro r
  induction r with
  | zero =>
    intro i hr hi
    have : i = is.length := by omega
    subst this
    rw [L13_24_eq]
    simp only [bin_lss, Int.lt_irrefl, bin_eql, leave0_B, obs, oms, bin_add, bin_sub, bin_lss, bin_leq, bin_gtr, bin_geq, bin_eql, bin_neq, bin_eqlB, bin_neqB, un_not, cond_B, gd_B, gd_undef, gdH_B, gdH_undef, pickA_B, extractA_tup, lenA_sl, lenA_row, fldA_fp, fldA_ptr, fldA_rptr, List.getElem?_cons_zero, List.getElem?_cons_succ, decide_true, decide_false, if_true, if_false, Bool.true_eq_false, Bool.false_eq_true, Bool.not_true, Bool.not_false]
  | succ r ih =>
    intro i hr hi
    have hi' : i < is.length := by omega
    have hlt : (i : Int) < is.length := by omega
    have hm : (is.map fun i => l.getD i dd).length = is.length := by simp
    have hs : sel l is = (is.map fun i => l.getD i dd).flatMap enc_DLet := by simp [sel, List.flatMap_map]
    have a1 : ∀ n t, idxA 4 (.p (.sl n t is.length (sel l is))) (I i) = some (.fp (sel l is) (i * 4)) := by
      intro n t
      have := idxA_sl (sz := 4) (n := is.length) (nl := n) (t := t) (xs := sel l is) (j := (i : Int)) (by omega)
      simpa using this
    have a2 : ld true 4 (.fp (sel l is) (i * 4)) H = some (ag (l.getD is[i] dd)) := by
      rw [hs]
      have := ldE (l := is.map fun i => l.getD i dd) (k := i) (by omega) H
      rw [this]
      simp
    rw [L13_24_eq]
    simp only [bin_lss, hlt, a1, a2, neqE, bin_add, obs, oms, bin_add, bin_sub, bin_lss, bin_leq, bin_gtr, bin_geq, bin_eql, bin_neq, bin_eqlB, bin_neqB, un_not, cond_B, gd_B, gd_undef, gdH_B, gdH_undef, pickA_B, extractA_tup, lenA_sl, lenA_row, fldA_fp, fldA_ptr, fldA_rptr, List.getElem?_cons_zero, List.getElem?_cons_succ, decide_true, decide_false, if_true, if_false, Bool.true_eq_false, Bool.false_eq_true, Bool.not_true, Bool.not_false]
    rw [wrap_id (by omega), nxt]
    exact ih (i + 1) (by omega) (by omega)

theorem law' (a : Int) (hl2 : l.length < 2 ^ 63) : ∃ H', O.ent 13 [L nl tg l, I a] [] [] = some ([B true], H') := by
  have e1 := call52 (nl := nl) (tg := tg) (l := l) a hl2 [] []
  obtain ⟨n1, t1, e2⟩ := call53 (nl := nl) (tg := tg) (l := l) a hl2 [] []
  have e3 := call54 (nl := nl) (tg := tg) (l := l) a [] []
  rw [f13_eq]
  simp only [e1, e2, e3, bin_eql, obs, oms, bin_add, bin_sub, bin_lss, bin_leq, bin_gtr, bin_geq, bin_eql, bin_neq, bin_eqlB, bin_neqB, un_not, cond_B, gd_B, gd_undef, gdH_B, gdH_undef, pickA_B, extractA_tup, lenA_sl, lenA_row, fldA_fp, fldA_ptr, fldA_rptr, List.getElem?_cons_zero, List.getElem?_cons_succ, decide_true, decide_false, if_true, if_false, Bool.true_eq_false, Bool.false_eq_true, Bool.not_true, Bool.not_false]
  have hal : (alone l a).length < 2 ^ 63 := by
    unfold alone
    split
    · rename_i h
      obtain ⟨h1, _, m, rfl, hm⟩ := errD_zero h
      have := idxs_len (l := l) (a := m) (c := m + 1)
      simp only [Int.toNat_natCast]
      omega
    · simp
  by_cases he : errD l a = 0
  · obtain ⟨h1, h2, m, rfl, hm⟩ := errD_zero he
    have e4 := call55 (nl := nl) (tg := tg) (l := l) hm h1 [] []
    obtain ⟨n2, t2, e5⟩ := call56 (nl := nl) (tg := tg) (l := l) h2 h1 hm [] []
    have hr : runV l m = (vals l (m + 1)).getD m 0 := by unfold runV; rw [if_pos he]; rfl
    have ha : alone l m = idxs l m (m + 1) := by unfold alone; rw [if_pos he]; rfl
    simp only [he, e4, e5, hr, ha, obs, oms, bin_add, bin_sub, bin_lss, bin_leq, bin_gtr, bin_geq, bin_eql, bin_neq, bin_eqlB, bin_neqB, un_not, cond_B, gd_B, gd_undef, gdH_B, gdH_undef, pickA_B, extractA_tup, lenA_sl, lenA_row, fldA_fp, fldA_ptr, fldA_rptr, List.getElem?_cons_zero, List.getElem?_cons_succ, decide_true, decide_false, if_true, if_false, Bool.true_eq_false, Bool.false_eq_true, Bool.not_true, Bool.not_false]
    rw [ha] at hal
    refine ⟨[], ?_⟩
    rw [L13_19_eq]
    simp only [bin_neq, obs, oms, bin_add, bin_sub, bin_lss, bin_leq, bin_gtr, bin_geq, bin_eql, bin_neq, bin_eqlB, bin_neqB, un_not, cond_B, gd_B, gd_undef, gdH_B, gdH_undef, pickA_B, extractA_tup, lenA_sl, lenA_row, fldA_fp, fldA_ptr, fldA_rptr, List.getElem?_cons_zero, List.getElem?_cons_succ, decide_true, decide_false, if_true, if_false, Bool.true_eq_false, Bool.false_eq_true, Bool.not_true, Bool.not_false]
    exact loop13 hal [] [] _ 0 rfl (by omega)
  · have hr : runV l a = 0 := by unfold runV; rw [if_neg he]
    have ha : alone l a = [] := by unfold alone; rw [if_neg he]
    simp only [he, hr, ha, obs, oms, bin_add, bin_sub, bin_lss, bin_leq, bin_gtr, bin_geq, bin_eql, bin_neq, bin_eqlB, bin_neqB, un_not, cond_B, gd_B, gd_undef, gdH_B, gdH_undef, pickA_B, extractA_tup, lenA_sl, lenA_row, fldA_fp, fldA_ptr, fldA_rptr, List.getElem?_cons_zero, List.getElem?_cons_succ, decide_true, decide_false, if_true, if_false, Bool.true_eq_false, Bool.false_eq_true, Bool.not_true, Bool.not_false]
    refine ⟨[], ?_⟩
    rw [L13_19_eq]
    simp only [bin_neq, List.length_nil, obs, oms, bin_add, bin_sub, bin_lss, bin_leq, bin_gtr, bin_geq, bin_eql, bin_neq, bin_eqlB, bin_neqB, un_not, cond_B, gd_B, gd_undef, gdH_B, gdH_undef, pickA_B, extractA_tup, lenA_sl, lenA_row, fldA_fp, fldA_ptr, fldA_rptr, List.getElem?_cons_zero, List.getElem?_cons_succ, decide_true, decide_false, if_true, if_false, Bool.true_eq_false, Bool.false_eq_true, Bool.not_true, Bool.not_false]
    exact loop13 (l := l) (is := []) (by simp) [] [] _ 0 rfl (by simp)

end
end Lin
end Go.Proofs.Ytangmjeafnkfaaa
