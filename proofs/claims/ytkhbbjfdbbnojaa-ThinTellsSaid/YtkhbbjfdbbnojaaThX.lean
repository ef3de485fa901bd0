import Derived.Test.YtkhbbjfdbbnojaaThW
set_option linter.unusedVariables false
set_option linter.unusedSimpArgs false
namespace Go.Proofs.Ytkhbbjfdbbnojaa
open Go Go.AM
namespace Th

section
variable {nl : Option Bool} {tg : Bool} {l : List Int} {n at_ : Int}

/-- The end: all is as it must be. -/
theorem law67 {na nb nc nd ne : Option Bool} {ta tb tc td te : Bool} {a b g : List Int} {o : AV} {H : Heap} (ha : a.length < 2 ^ 63) (hb : b.length < 2 ^ 63) (hg : g.length < 2 ^ 63) (w v k u : Int) (ho : Lst 1 o H g.length (g.map Ia)) :
    L11_67 [V na ta a, I w, V nb tb b, V nc tc g, I v, I k, I u, I w, I v, I u, V nd td a, V ne te b, o, I k] [] H = some ([B true], []) := by
  have c1 := call23 (n1 := na) (t1 := ta) (n2 := nd) (t2 := td) (b := a) ha [] H
  have c2 := call23 (n1 := nb) (t1 := tb) (n2 := ne) (t2 := te) (b := b) hb [] H
  have c3 := call23o (n1 := nc) (t1 := tc) hg ho []
  rw [dec_iff.mpr rfl] at c1 c2 c3
  rw [L11_67_eq]
  simp only [c1, c2, c3, obs, oms, bin_add, bin_sub, bin_lss, bin_leq, bin_gtr, bin_geq, bin_eql, bin_neq, bin_eqlB, bin_neqB, un_not, cond_B, gd_B, gd_undef, gdH_B, gdH_undef, pickA_B, extractA_tup, lenA_sl, lenA_row, fldA_fp, fldA_ptr, fldA_rptr, List.getElem?_cons_zero, List.getElem?_cons_succ, decide_true, decide_false, if_true, if_false, Bool.true_eq_false, Bool.false_eq_true, Bool.not_true, Bool.not_false]
  rfl

theorem loop46 {na nb nc nd ne : Option Bool} {ta tb tc td te : Bool} {a b g : List Int} {o : AV} {H : Heap} (ha : a.length < 2 ^ 63) (hb : b.length < 2 ^ 63) (hg : g.length < 2 ^ 63) (w v : Int) (ho : Lst 1 o H g.length (g.map Ia)) (hl : l.length < 2 ^ 63) : ∀ (c i : Nat), l.length - i = c → i ≤ l.length → okL (l.take i) →
    L11_46 [V nl tg l, I at_, V na ta a, I w, V nb tb b, V nc tc g, I v, I (frK l at_), I (frC l at_), I w, I v, I 0, V nd td a, V ne te b, o, I ((lastLe at_ (l.take i)).getD 0), B (lastLe at_ (l.take i)).isSome, I i] [] H = some ([B true], []) := by
  intro c
  have fin := fun k u => law67 (na := na) (nb := nb) (nc := nc) (nd := nd) (ne := ne) (ta := ta) (tb := tb) (tc := tc) (td := td) (te := te) ha hb hg w v k u ho
  induction c with
  | zero =>
    intro i hc hi hok
    have : i = l.length := by omega
    subst this
    rw [List.take_length] at hok ⊢
    have hd : dec (okL l) = true := dec_iff.mpr hok
    rw [L11_46_eq]
    cases hll : lastLe at_ l with
    | none =>
      have e1 : frK l at_ = 0 := by unfold frK; rw [hd, if_pos rfl, hll]; rfl
      have e2 : frC l at_ = 5 := by unfold frC; rw [hd, if_pos rfl, hll]; rfl
      rw [e1, e2]
      simp only [Int.lt_irrefl, Option.isSome_none, Option.getD_none, L11_63_eq, obs, oms, bin_add, bin_sub, bin_lss, bin_leq, bin_gtr, bin_geq, bin_eql, bin_neq, bin_eqlB, bin_neqB, un_not, cond_B, gd_B, gd_undef, gdH_B, gdH_undef, pickA_B, extractA_tup, lenA_sl, lenA_row, fldA_fp, fldA_ptr, fldA_rptr, List.getElem?_cons_zero, List.getElem?_cons_succ, decide_true, decide_false, if_true, if_false, Bool.true_eq_false, Bool.false_eq_true, Bool.not_true, Bool.not_false]
      have h5 : ¬ (5 : Int) = 0 := by omega
      simp only [h5, obs, oms, bin_add, bin_sub, bin_lss, bin_leq, bin_gtr, bin_geq, bin_eql, bin_neq, bin_eqlB, bin_neqB, un_not, cond_B, gd_B, gd_undef, gdH_B, gdH_undef, pickA_B, extractA_tup, lenA_sl, lenA_row, fldA_fp, fldA_ptr, fldA_rptr, List.getElem?_cons_zero, List.getElem?_cons_succ, decide_true, decide_false, if_true, if_false, Bool.true_eq_false, Bool.false_eq_true, Bool.not_true, Bool.not_false]
      exact fin 0 5
    | some y =>
      have e1 : frK l at_ = y := by unfold frK; rw [hd, if_pos rfl, hll]; rfl
      have e2 : frC l at_ = 0 := by unfold frC; rw [hd, if_pos rfl, hll]; rfl
      rw [e1, e2]
      simp only [Int.lt_irrefl, Option.isSome_some, Option.getD_some, L11_63_eq, obs, oms, bin_add, bin_sub, bin_lss, bin_leq, bin_gtr, bin_geq, bin_eql, bin_neq, bin_eqlB, bin_neqB, un_not, cond_B, gd_B, gd_undef, gdH_B, gdH_undef, pickA_B, extractA_tup, lenA_sl, lenA_row, fldA_fp, fldA_ptr, fldA_rptr, List.getElem?_cons_zero, List.getElem?_cons_succ, decide_true, decide_false, if_true, if_false, Bool.true_eq_false, Bool.false_eq_true, Bool.not_true, Bool.not_false]
      exact fin y 0
  | succ c ih =>
    intro i hc hi hok
    have hi' : i < l.length := by omega
    have hlt : (i : Int) < l.length := by omega
    have wi : IntKind.i64.wrap ((i : Int) + 1) = ((i + 1 : Nat) : Int) := by rw [wrap_id (by omega), nxt]
    have hst := okL_step hi'
    have hbad : ¬ okL (l.take (i + 1)) → frK l at_ = 0 ∧ frC l at_ = 3 := fun h => by
      have hno : ¬ okL l := fun h2 => h (List.Pairwise.sublist (List.Sublist.cons_cons _ (List.take_sublist _ _)) h2)
      constructor
      · unfold frK; rw [dec_f hno, if_neg (by simp)]
      · unfold frC; rw [dec_f hno, if_neg (by simp)]
    have err : ∀ (k : Int) (bb : Bool) (j : Nat), L11_46 [V nl tg l, I at_, V na ta a, I w, V nb tb b, V nc tc g, I v, I 0, I 3, I w, I v, I 3, V nd td a, V ne te b, o, I k, B bb, I j] [] H = some ([B true], []) := by
      intro k bb j
      rw [L11_46_eq]
      have h3 : ¬ (3 : Int) = 0 := by omega
      by_cases hj : (j : Int) < l.length
      · simp only [hj, h3, L11_63_eq, obs, oms, bin_add, bin_sub, bin_lss, bin_leq, bin_gtr, bin_geq, bin_eql, bin_neq, bin_eqlB, bin_neqB, un_not, cond_B, gd_B, gd_undef, gdH_B, gdH_undef, pickA_B, extractA_tup, lenA_sl, lenA_row, fldA_fp, fldA_ptr, fldA_rptr, List.getElem?_cons_zero, List.getElem?_cons_succ, decide_true, decide_false, if_true, if_false, Bool.true_eq_false, Bool.false_eq_true, Bool.not_true, Bool.not_false]
        exact fin 0 3
      · simp only [hj, h3, L11_63_eq, obs, oms, bin_add, bin_sub, bin_lss, bin_leq, bin_gtr, bin_geq, bin_eql, bin_neq, bin_eqlB, bin_neqB, un_not, cond_B, gd_B, gd_undef, gdH_B, gdH_undef, pickA_B, extractA_tup, lenA_sl, lenA_row, fldA_fp, fldA_ptr, fldA_rptr, List.getElem?_cons_zero, List.getElem?_cons_succ, decide_true, decide_false, if_true, if_false, Bool.true_eq_false, Bool.false_eq_true, Bool.not_true, Bool.not_false]
        exact fin 0 3
    haveI : Decidable (okL (l.take (i + 1))) := Classical.propDecidable _
    -- the check
    have step : ∀ (k : Int) (bb : Bool), L11_46 [V nl tg l, I at_, V na ta a, I w, V nb tb b, V nc tc g, I v, I (frK l at_), I (frC l at_), I w, I v, I 0, V nd td a, V ne te b, o, I k, B bb, I i] [] H =
        if okL (l.take (i + 1)) then L11_46 [V nl tg l, I at_, V na ta a, I w, V nb tb b, V nc tc g, I v, I (frK l at_), I (frC l at_), I w, I v, I 0, V nd td a, V ne te b, o, I (if l[i] ≤ at_ then l[i] else k), B (if l[i] ≤ at_ then true else bb), I ((i + 1 : Nat) : Int)] [] H
        else L11_46 [V nl tg l, I at_, V na ta a, I w, V nb tb b, V nc tc g, I v, I (frK l at_), I (frC l at_), I w, I v, I 3, V nd td a, V ne te b, o, I k, B bb, I ((i + 1 : Nat) : Int)] [] H := by
      intro k bb
      conv => lhs; rw [L11_46_eq]
      by_cases h1 : l[i] < 0
      · have hno : ¬ okL (l.take (i + 1)) := fun h => by
          have h2 : (-1 : Int) < l[i] := (List.pairwise_cons.mp h).1 _ (List.mem_of_getElem? (i := i) (by rw [List.getElem?_take, if_pos (by omega), List.getElem?_eq_getElem hi']))
          omega
        rw [if_neg hno]
        simp only [hlt, idxV hi', ldV hi', h1, L11_49_eq, wi, obs, oms, bin_add, bin_sub, bin_lss, bin_leq, bin_gtr, bin_geq, bin_eql, bin_neq, bin_eqlB, bin_neqB, un_not, cond_B, gd_B, gd_undef, gdH_B, gdH_undef, pickA_B, extractA_tup, lenA_sl, lenA_row, fldA_fp, fldA_ptr, fldA_rptr, List.getElem?_cons_zero, List.getElem?_cons_succ, decide_true, decide_false, if_true, if_false, Bool.true_eq_false, Bool.false_eq_true, Bool.not_true, Bool.not_false]
      · by_cases h2 : i = 0
        · subst h2
          have hok1 : okL (l.take (0 + 1)) := hst.mpr ⟨hok, by show (-1 : Int) < l[0]; omega⟩
          have hgt : ¬ (0 : Int) < ((0 : Nat) : Int) := by omega
          rw [if_pos hok1]
          by_cases h3 : l[0] ≤ at_
          · simp only [hlt, idxV hi', ldV hi', h1, hgt, h3, L11_49_eq, wi, obs, oms, bin_add, bin_sub, bin_lss, bin_leq, bin_gtr, bin_geq, bin_eql, bin_neq, bin_eqlB, bin_neqB, un_not, cond_B, gd_B, gd_undef, gdH_B, gdH_undef, pickA_B, extractA_tup, lenA_sl, lenA_row, fldA_fp, fldA_ptr, fldA_rptr, List.getElem?_cons_zero, List.getElem?_cons_succ, decide_true, decide_false, if_true, if_false, Bool.true_eq_false, Bool.false_eq_true, Bool.not_true, Bool.not_false]
          · simp only [hlt, idxV hi', ldV hi', h1, hgt, h3, L11_49_eq, wi, obs, oms, bin_add, bin_sub, bin_lss, bin_leq, bin_gtr, bin_geq, bin_eql, bin_neq, bin_eqlB, bin_neqB, un_not, cond_B, gd_B, gd_undef, gdH_B, gdH_undef, pickA_B, extractA_tup, lenA_sl, lenA_row, fldA_fp, fldA_ptr, fldA_rptr, List.getElem?_cons_zero, List.getElem?_cons_succ, decide_true, decide_false, if_true, if_false, Bool.true_eq_false, Bool.false_eq_true, Bool.not_true, Bool.not_false]
        · have hgt : (0 : Int) < i := by omega
          have him : i - 1 < l.length := by omega
          have w2 : IntKind.i64.wrap ((i : Int) - 1) = ((i - 1 : Nat) : Int) := by rw [wrap_id (by omega)]; omega
          have hpl : (-1 :: l.take i).getLast (by simp) = l[i - 1] := by
            have := prev_last him
            simp only [show i - 1 + 1 = i by omega] at this
            exact this
          rw [hpl] at hst
          by_cases h4 : l[i] ≤ l[i - 1]
          · have hno : ¬ okL (l.take (i + 1)) := fun h => by have := (hst.mp h).2; omega
            rw [if_neg hno]
            simp only [hlt, idxV hi', ldV hi', idxV him, ldV him, h1, hgt, w2, h4, L11_49_eq, wi, obs, oms, bin_add, bin_sub, bin_lss, bin_leq, bin_gtr, bin_geq, bin_eql, bin_neq, bin_eqlB, bin_neqB, un_not, cond_B, gd_B, gd_undef, gdH_B, gdH_undef, pickA_B, extractA_tup, lenA_sl, lenA_row, fldA_fp, fldA_ptr, fldA_rptr, List.getElem?_cons_zero, List.getElem?_cons_succ, decide_true, decide_false, if_true, if_false, Bool.true_eq_false, Bool.false_eq_true, Bool.not_true, Bool.not_false]
          · have hok1 : okL (l.take (i + 1)) := hst.mpr ⟨hok, by omega⟩
            rw [if_pos hok1]
            by_cases h3 : l[i] ≤ at_
            · simp only [hlt, idxV hi', ldV hi', idxV him, ldV him, h1, hgt, w2, h4, h3, L11_49_eq, wi, obs, oms, bin_add, bin_sub, bin_lss, bin_leq, bin_gtr, bin_geq, bin_eql, bin_neq, bin_eqlB, bin_neqB, un_not, cond_B, gd_B, gd_undef, gdH_B, gdH_undef, pickA_B, extractA_tup, lenA_sl, lenA_row, fldA_fp, fldA_ptr, fldA_rptr, List.getElem?_cons_zero, List.getElem?_cons_succ, decide_true, decide_false, if_true, if_false, Bool.true_eq_false, Bool.false_eq_true, Bool.not_true, Bool.not_false]
            · simp only [hlt, idxV hi', ldV hi', idxV him, ldV him, h1, hgt, w2, h4, h3, L11_49_eq, wi, obs, oms, bin_add, bin_sub, bin_lss, bin_leq, bin_gtr, bin_geq, bin_eql, bin_neq, bin_eqlB, bin_neqB, un_not, cond_B, gd_B, gd_undef, gdH_B, gdH_undef, pickA_B, extractA_tup, lenA_sl, lenA_row, fldA_fp, fldA_ptr, fldA_rptr, List.getElem?_cons_zero, List.getElem?_cons_succ, decide_true, decide_false, if_true, if_false, Bool.true_eq_false, Bool.false_eq_true, Bool.not_true, Bool.not_false]
    rw [step]
    by_cases hok1 : okL (l.take (i + 1))
    · rw [if_pos hok1]
      have fin2 := ih (i + 1) (by omega) (by omega) hok1
      rw [lastLe_step hi'] at fin2
      by_cases h3 : l[i] ≤ at_
      · rw [if_pos h3] at fin2
        rw [if_pos h3, if_pos h3]
        exact fin2
      · rw [if_neg h3] at fin2
        rw [if_neg h3, if_neg h3]
        exact fin2
    · rw [if_neg hok1, (hbad hok1).1, (hbad hok1).2]
      exact err _ _ _

theorem law43 {na nb nc nd ne : Option Bool} {ta tb tc td te : Bool} {a b g : List Int} {o : AV} {H : Heap} (ha : a.length < 2 ^ 63) (hb : b.length < 2 ^ 63) (hg : g.length < 2 ^ 63) (w v : Int) (ho : Lst 1 o H g.length (g.map Ia)) (hl : l.length < 2 ^ 63) :
    L11_43 [V nl tg l, I at_, V na ta a, I w, V nb tb b, V nc tc g, I v, I (frK l at_), I (frC l at_), I w, I v, I 0, V nd td a, V ne te b, o, I 0] [] H = some ([B true], []) := by
  rw [L11_43_eq]
  exact loop46 (l := l) ha hb hg w v ho hl l.length 0 rfl (by omega) (List.pairwise_singleton ..)

theorem loop34 {m : Nat} (hm : m ≤ 4000) (hl : l.length < 2 ^ 40) (hmem : ∀ x, x ∈ l → ∃ k : Nat, x = k ∧ k ≤ m) {na nb nc nd ne : Option Bool} {ta tb tc td te : Bool} {a b : List Int} (ha : a.length < 2 ^ 63) (hb : b.length < 2 ^ 63) (w v : Int) : ∀ (c i : Nat) (H : Heap) (o : AV), l.length - i = c → i ≤ l.length →
    Cx H [] [(o, 1, ((l.take i).filter fun x => !dec (x ∈ kp m)).length, ((l.take i).filter fun x => !dec (x ∈ kp m)).map Ia)] →
    L11_34 [I m, V nl tg l, I at_, V na ta a, I w, V nb tb b, V nc tc (l.filter fun x => !dec (x ∈ kp m)), I v, I (frK l at_), I (frC l at_), I w, I v, I 0, V nd td a, V ne te b, o, I 0, I i] [] H = some ([B true], []) := by
  intro c
  induction c with
  | zero =>
    intro i H o hc hi h
    have : i = l.length := by omega
    subst this
    rw [List.take_length] at h
    have hfl : (l.filter fun x => !dec (x ∈ kp m)).length ≤ l.length := List.length_filter_le _ _
    rw [L11_34_eq]
    simp only [Int.lt_irrefl, obs, oms, bin_add, bin_sub, bin_lss, bin_leq, bin_gtr, bin_geq, bin_eql, bin_neq, bin_eqlB, bin_neqB, un_not, cond_B, gd_B, gd_undef, gdH_B, gdH_undef, pickA_B, extractA_tup, lenA_sl, lenA_row, fldA_fp, fldA_ptr, fldA_rptr, List.getElem?_cons_zero, List.getElem?_cons_succ, decide_true, decide_false, if_true, if_false, Bool.true_eq_false, Bool.false_eq_true, Bool.not_true, Bool.not_false]
    exact law43 ha hb (by omega) w v (h.lst _ (List.mem_singleton.mpr rfl)) (by omega)
  | succ c ih =>
    intro i H o hc hi h
    have hi' : i < l.length := by omega
    have hlt : (i : Int) < l.length := by omega
    have wi : IntKind.i64.wrap ((i : Int) + 1) = ((i + 1 : Nat) : Int) := by rw [wrap_id (by omega), nxt]
    obtain ⟨k, hk, hkm⟩ := hmem l[i] (List.getElem_mem _)
    have c71 := call71 hkm hm []
    have hfl : ((l.take i).filter fun x => !dec (x ∈ kp m)).length ≤ i := Nat.le_trans (List.length_filter_le _ _) (by simp; omega)
    have hdd : dec (isK k m) = dec (l[i] ∈ kp m) := dec_congr (by
      rw [mem_kp, hk]
      constructor
      · intro h; exact ⟨k, rfl, hkm, h⟩
      · rintro ⟨k', e, _, h⟩
        have : k = k' := by omega
        rw [this]; exact h)
    rw [hdd, ← hk] at c71
    have e1 := take_filter (p := fun x => !dec (x ∈ kp m)) hi'
    cases hd : dec (l[i] ∈ kp m) with
    | true =>
      rw [hd, if_neg (by simp), List.append_nil] at e1
      rw [← e1] at h
      have fin := ih (i + 1) H o (by omega) (by omega) h
      rw [hd] at c71
      rw [L11_34_eq]
      simp only [hlt, idxV hi', ldV hi', c71, L11_37_eq, wi, obs, oms, bin_add, bin_sub, bin_lss, bin_leq, bin_gtr, bin_geq, bin_eql, bin_neq, bin_eqlB, bin_neqB, un_not, cond_B, gd_B, gd_undef, gdH_B, gdH_undef, pickA_B, extractA_tup, lenA_sl, lenA_row, fldA_fp, fldA_ptr, fldA_rptr, List.getElem?_cons_zero, List.getElem?_cons_succ, decide_true, decide_false, if_true, if_false, Bool.true_eq_false, Bool.false_eq_true, Bool.not_true, Bool.not_false]
      exact fin
    | false =>
      rw [hd, if_pos (by simp)] at e1
      obtain ⟨o', H1, ea, h1⟩ := app1 l[i] (by omega) h
      rw [← e1] at h1
      have fin := ih (i + 1) H1 o' (by omega) (by omega) h1
      rw [hd] at c71
      rw [L11_34_eq]
      simp only [hlt, idxV hi', ldV hi', c71, lit1, ea, L11_37_eq, wi, obs, oms, bin_add, bin_sub, bin_lss, bin_leq, bin_gtr, bin_geq, bin_eql, bin_neq, bin_eqlB, bin_neqB, un_not, cond_B, gd_B, gd_undef, gdH_B, gdH_undef, pickA_B, extractA_tup, lenA_sl, lenA_row, fldA_fp, fldA_ptr, fldA_rptr, List.getElem?_cons_zero, List.getElem?_cons_succ, decide_true, decide_false, if_true, if_false, Bool.true_eq_false, Bool.false_eq_true, Bool.not_true, Bool.not_false]
      exact fin

theorem ex0 (a b : AV) : extractA (.tup [a, b]) 0 = some a := _root_.id rfl
theorem ex1 (a b : AV) : extractA (.tup [a, b]) 1 = some b := _root_.id rfl

theorem law (hl : l.length < 2 ^ 63) : O.ent 11 [I n, V nl tg l, I at_] [] [] = some ([B true], []) := by
  obtain ⟨n1, t1, zs, c67, hzs⟩ := call67 (n := n) [] []
  obtain ⟨n2, t2, n3, t3, c68⟩ := call68 (nl := nl) (tg := tg) (n := n) hl [] []
  have c69 := call69 (nl := nl) (tg := tg) (at_ := at_) hl [] []
  have nilV : (AV.p nilS) = V (some true) true [] := rfl
  have hnil : ∀ H, Lst 1 (.p nilS) H ([] : List Int).length (([] : List Int).map Ia) := fun H => Lst.nil 1 H
  have z0 : ([] : List Int).length < 2 ^ 63 := by decide
  rw [f11_eq]
  by_cases h : n < 0 ∨ 4000 < n
  · rw [if_pos h] at hzs c67
    subst hzs
    have hc : addC l n = 1 := if_pos (by omega)
    have hA : addA l n = [] := if_neg (by rw [hc]; omega)
    have hB : addB l n = [] := if_neg (by rw [hc]; omega)
    rw [hc, hA, hB] at c68
    have fin := law43 (l := l) (nl := nl) (tg := tg) (at_ := at_) (na := n1) (ta := t1) (nb := n2) (tb := t2) (nc := n3) (tc := t3) (nd := some true) (td := true) (ne := some true) (te := true) z0 z0 z0 1 1 (hnil []) hl
    by_cases h1 : n < 0
    · simp only [c67, c68, c69, h1, obs, oms, bin_add, bin_sub, bin_lss, bin_leq, bin_gtr, bin_geq, bin_eql, bin_neq, bin_eqlB, bin_neqB, un_not, cond_B, gd_B, gd_undef, gdH_B, gdH_undef, pickA_B, extractA_tup, lenA_sl, lenA_row, fldA_fp, fldA_ptr, fldA_rptr, List.getElem?_cons_zero, List.getElem?_cons_succ, decide_true, decide_false, if_true, if_false, Bool.true_eq_false, Bool.false_eq_true, Bool.not_true, Bool.not_false]
      exact fin
    · have h2 : 4000 < n := by omega
      simp only [c67, c68, c69, h1, h2, obs, oms, bin_add, bin_sub, bin_lss, bin_leq, bin_gtr, bin_geq, bin_eql, bin_neq, bin_eqlB, bin_neqB, un_not, cond_B, gd_B, gd_undef, gdH_B, gdH_undef, pickA_B, extractA_tup, lenA_sl, lenA_row, fldA_fp, fldA_ptr, fldA_rptr, List.getElem?_cons_zero, List.getElem?_cons_succ, decide_true, decide_false, if_true, if_false, Bool.true_eq_false, Bool.false_eq_true, Bool.not_true, Bool.not_false]
      exact fin
  · obtain ⟨m, rfl⟩ : ∃ m : Nat, n = m := ⟨n.toNat, by omega⟩
    rw [if_neg h] at hzs c67
    rw [Int.toNat_natCast] at hzs
    subst hzs
    have h1 : ¬ (m : Int) < 0 := by omega
    have h2 : ¬ 4000 < (m : Int) := by omega
    have hm : m ≤ 4000 := by omega
    obtain ⟨n4, t4, c70⟩ := call70 hm
    have kl := kp_len m
    by_cases h3 : m = 0
    · have h3' : (m : Int) = 0 := by omega
      have hc : addC l m = 1 := if_pos (by omega)
      have hA : addA l m = [] := if_neg (by rw [hc]; omega)
      have hB : addB l m = [] := if_neg (by rw [hc]; omega)
      rw [hc, hA, hB] at c68
      have fin := law43 (l := l) (nl := nl) (tg := tg) (at_ := at_) (na := n1) (ta := t1) (nb := n2) (tb := t2) (nc := n3) (tc := t3) (nd := n4) (td := t4) (ne := some true) (te := true) (a := kp m) (by omega) z0 z0 0 1 (hnil []) hl
      subst h3
      have hz0 : ((0 : Nat) : Int) = 0 := rfl
      simp only [hz0] at c67 c68 c70 h1 h2 ⊢
      simp only [c67, c68, c69, c70, h1, h2, obs, oms, bin_add, bin_sub, bin_lss, bin_leq, bin_gtr, bin_geq, bin_eql, bin_neq, bin_eqlB, bin_neqB, un_not, cond_B, gd_B, gd_undef, gdH_B, gdH_undef, pickA_B, extractA_tup, lenA_sl, lenA_row, fldA_fp, fldA_ptr, fldA_rptr, List.getElem?_cons_zero, List.getElem?_cons_succ, decide_true, decide_false, if_true, if_false, Bool.true_eq_false, Bool.false_eq_true, Bool.not_true, Bool.not_false]
      exact fin
    · have h3' : ¬ (m : Int) = 0 := by omega
      have w : IntKind.i64.wrap ((m : Int) - 1) = ((m - 1 : Nat) : Int) := by rw [wrap_id (by omega)]; omega
      have hmt : ((m : Int) - 1).toNat = m - 1 := by omega
      obtain ⟨n5, t5, c70'⟩ := call70 (n := m - 1) (by omega)
      have c23 := call23 (n1 := nl) (t1 := tg) (n2 := n5) (t2 := t5) (b := kp (m - 1)) hl [] []
      have hnb : ¬ ((m : Int) < 1 ∨ 4000 < (m : Int)) := by omega
      cases hd : dec (l = kp (m - 1)) with
      | false =>
        have hc : addC l m = 3 := by unfold addC; rw [if_neg hnb, hmt, hd, if_neg (by simp)]
        have hA : addA l m = [] := if_neg (by rw [hc]; omega)
        have hB : addB l m = [] := if_neg (by rw [hc]; omega)
        rw [hc, hA, hB] at c68
        rw [hd] at c23
        have fin := law43 (l := l) (nl := nl) (tg := tg) (at_ := at_) (na := n1) (ta := t1) (nb := n2) (tb := t2) (nc := n3) (tc := t3) (nd := n4) (td := t4) (ne := some true) (te := true) (a := kp m) (by omega) z0 z0 0 3 (hnil []) hl
        simp only [c67, c68, c69, c70, h1, h2, h3', w, c70', c23, obs, oms, bin_add, bin_sub, bin_lss, bin_leq, bin_gtr, bin_geq, bin_eql, bin_neq, bin_eqlB, bin_neqB, un_not, cond_B, gd_B, gd_undef, gdH_B, gdH_undef, pickA_B, extractA_tup, lenA_sl, lenA_row, fldA_fp, fldA_ptr, fldA_rptr, List.getElem?_cons_zero, List.getElem?_cons_succ, decide_true, decide_false, if_true, if_false, Bool.true_eq_false, Bool.false_eq_true, Bool.not_true, Bool.not_false]
        exact fin
      | true =>
        have hc : addC l m = 0 := by unfold addC; rw [if_neg hnb, hmt, hd, if_pos rfl]
        have hA : addA l m = kp m := by unfold addA; rw [if_pos hc, Int.toNat_natCast]
        have hB : addB l m = l.filter fun x => !dec (x ∈ kp m) := by unfold addB; rw [if_pos hc, Int.toNat_natCast]
        rw [hc, hA, hB] at c68
        rw [hd] at c23
        have hlk : l = kp (m - 1) := dec_iff.mp hd
        have fin := loop34 (l := l) (nl := nl) (tg := tg) (at_ := at_) (na := n1) (ta := t1) (nb := n2) (tb := t2) (nc := n3) (tc := t3) (nd := n4) (td := t4) (ne := n4) (te := t4) (a := kp m) (b := kp m) hm (by have := kp_len (m - 1); rw [hlk]; omega) (fun x hx => by
          rw [hlk, mem_kp] at hx
          obtain ⟨k, e, h4, _⟩ := hx
          exact ⟨k, e, by omega⟩) (by omega) (by omega) 0 0 l.length 0 [] (.p nilS) rfl (by omega) ((Cx.nil []).newNil 1)
        simp only [c67, c68, c69, c70, h1, h2, h3', w, c70', c23, obs, oms, bin_add, bin_sub, bin_lss, bin_leq, bin_gtr, bin_geq, bin_eql, bin_neq, bin_eqlB, bin_neqB, un_not, cond_B, gd_B, gd_undef, gdH_B, gdH_undef, pickA_B, extractA_tup, lenA_sl, lenA_row, fldA_fp, fldA_ptr, fldA_rptr, List.getElem?_cons_zero, List.getElem?_cons_succ, decide_true, decide_false, if_true, if_false, Bool.true_eq_false, Bool.false_eq_true, Bool.not_true, Bool.not_false]
        exact fin
end
end Th
end Go.Proofs.Ytkhbbjfdbbnojaa
