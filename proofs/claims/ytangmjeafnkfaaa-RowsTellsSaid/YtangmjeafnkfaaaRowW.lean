import Derived.Test.YtangmjeafnkfaaaRowV
set_option linter.unusedVariables false
set_option linter.unusedSimpArgs false
namespace Go.Proofs.Ytangmjeafnkfaaa
open Go Go.AM
namespace Row
section
variable {nl : Option Bool} {tg : Bool} {l : List Ev} {v4 v11 v12 v13 v14 v15 v16 v17 v18 v19 v20 v21 v22 v23 : AV}

theorem kd_eq (e : Ev) {n : Nat} (hn : n < 18) : decide (kd e = n) = (decide (e.1 = n) || (decide ((n : Int) = 0) && (decide (e.1 < 0) || decide (17 < e.1)))) := by
  unfold kd
  by_cases h : e.1 < 0 ∨ 17 < e.1
  · rw [if_pos h]
    have h1 : (decide (e.1 < 0) || decide (17 < e.1)) = true := by simpa using h
    have h2 : ¬ e.1 = n := by omega
    rw [h1]
    simp only [h2, decide_false, Bool.false_or, Bool.and_true]
    exact decide_eq_decide.mpr (by omega)
  · rw [if_neg h]
    have h1 : (decide (e.1 < 0) || decide (17 < e.1)) = false := by simp; omega
    rw [h1]
    simp only [Bool.and_false, Bool.or_false]
    exact decide_eq_decide.mpr (by omega)

theorem lp72 (hl : l.length ≤ 200) {n : Nat} (hn : n < 18) {n2 : Option Bool} {t2 : Bool} (lo : List Nat) (H : Heap) : ∀ (r i : Nat), l.length - i = r → i ≤ l.length →
    L5_72 [L nl tg l, v11, v12, v13, v14, V n2 t2 (cnts l), v16, v17, v18, v19, v20, v21, v22, v23, I n, I (many (l.take i) n), I i] lo H = L5_64 [L nl tg l, v11, v12, v13, v14, V n2 t2 (cnts l), v16, v17, v18, v19, v20, v21, v22, v23, I (n + 1 : Nat)] lo H := by
  intro r
  induction r with
  | zero =>
    intro i hr hi
    have : i = l.length := by omega
    subst this
    have hc : n < (cnts l).length := by simpa [cnts] using hn
    have e : (cnts l)[n] = many l n := by simp [cnts]
    rw [L5_72_eq, List.take_length]
    simp only [lenA_sl, bin_lss, obs, Int.lt_irrefl, decide_false, cond_B, Bool.false_eq_true, if_false, idxV hc, ldV hc, e, bin_neq, decide_true, Bool.not_true, bin_add]
    rw [wrap_id (by omega), nxt]
  | succ r ih =>
    intro i hr hi
    have hi' : i < l.length := by omega
    have hlt : (i : Int) < l.length := by omega
    have hm := many_le (l := l.take i) n
    have hm2 : (l.take i).length ≤ 200 := by simp; omega
    have hs : many (l.take (i + 1)) n = many (l.take i) n + if kd l[i] = n then 1 else 0 := by
      rw [← List.take_append_getElem hi', many_snoc]
    have h0 := ih (i + 1) (by omega) (by omega)
    have nx : ∀ m, L5_75 [L nl tg l, v11, v12, v13, v14, V n2 t2 (cnts l), v16, v17, v18, v19, v20, v21, v22, v23, I n, m, I i] lo H = L5_72 [L nl tg l, v11, v12, v13, v14, V n2 t2 (cnts l), v16, v17, v18, v19, v20, v21, v22, v23, I n, m, I (i + 1 : Nat)] lo H := by
      intro m
      rw [L5_75_eq]
      simp only [bin_add, obs]
      rw [wrap_id (by omega), nxt]
    have hk := kd_eq l[i] hn
    have key : ∀ b : Bool, decide (kd l[i] = n) = b → (if b = true then (bin .add .int (I (many (l.take i) n)) (I 1)).bind fun x26 => L5_75 [L nl tg l, v11, v12, v13, v14, V n2 t2 (cnts l), v16, v17, v18, v19, v20, v21, v22, v23, I n, x26, I i] lo H else L5_75 [L nl tg l, v11, v12, v13, v14, V n2 t2 (cnts l), v16, v17, v18, v19, v20, v21, v22, v23, I n, I (many (l.take i) n), I i] lo H) = L5_64 [L nl tg l, v11, v12, v13, v14, V n2 t2 (cnts l), v16, v17, v18, v19, v20, v21, v22, v23, I (n + 1 : Nat)] lo H := by
      intro b hb
      rw [← h0, hs]
      cases b with
      | true =>
        have : kd l[i] = n := by simpa using hb
        simp only [bin_add, obs, nx, this, if_true]
        rw [wrap_id (by omega), nxt]
      | false =>
        have : ¬ kd l[i] = n := by simpa using hb
        simp only [nx, this, Bool.false_eq_true, if_false, Nat.add_zero]
    rw [L5_72_eq]
    simp only [lenA_sl, bin_lss, obs, hlt, decide_true, cond_B, if_true, idxL hi', fldA_fp, fld0 hi', bin_eql]
    by_cases g1 : l[i].1 = n
    · simp only [g1, obs, oms, bin_add, bin_sub, bin_lss, bin_leq, bin_gtr, bin_geq, bin_eql, bin_neq, bin_eqlB, bin_neqB, un_not, cond_B, gd_B, gd_undef, gdH_B, gdH_undef, pickA_B, extractA_tup, lenA_sl, lenA_row, fldA_fp, fldA_ptr, fldA_rptr, List.getElem?_cons_zero, List.getElem?_cons_succ, decide_true, decide_false, if_true, if_false, Bool.true_eq_false, Bool.false_eq_true, Bool.not_true, Bool.not_false]
      exact key true (by rw [hk]; simp [g1])
    · simp only [g1, obs, oms, bin_add, bin_sub, bin_lss, bin_leq, bin_gtr, bin_geq, bin_eql, bin_neq, bin_eqlB, bin_neqB, un_not, cond_B, gd_B, gd_undef, gdH_B, gdH_undef, pickA_B, extractA_tup, lenA_sl, lenA_row, fldA_fp, fldA_ptr, fldA_rptr, List.getElem?_cons_zero, List.getElem?_cons_succ, decide_true, decide_false, if_true, if_false, Bool.true_eq_false, Bool.false_eq_true, Bool.not_true, Bool.not_false]
      by_cases g2 : (n : Int) = 0
      · simp only [g2, idxL hi', fldA_fp, fld0 hi', obs, oms, bin_add, bin_sub, bin_lss, bin_leq, bin_gtr, bin_geq, bin_eql, bin_neq, bin_eqlB, bin_neqB, un_not, cond_B, gd_B, gd_undef, gdH_B, gdH_undef, pickA_B, extractA_tup, lenA_sl, lenA_row, fldA_fp, fldA_ptr, fldA_rptr, List.getElem?_cons_zero, List.getElem?_cons_succ, decide_true, decide_false, if_true, if_false, Bool.true_eq_false, Bool.false_eq_true, Bool.not_true, Bool.not_false]
        by_cases g3 : l[i].1 < 0
        · simp only [g3, obs, oms, bin_add, bin_sub, bin_lss, bin_leq, bin_gtr, bin_geq, bin_eql, bin_neq, bin_eqlB, bin_neqB, un_not, cond_B, gd_B, gd_undef, gdH_B, gdH_undef, pickA_B, extractA_tup, lenA_sl, lenA_row, fldA_fp, fldA_ptr, fldA_rptr, List.getElem?_cons_zero, List.getElem?_cons_succ, decide_true, decide_false, if_true, if_false, Bool.true_eq_false, Bool.false_eq_true, Bool.not_true, Bool.not_false]
          have := key true (by rw [hk]; simp [g2, g3])
          rw [g2] at this
          exact this
        · simp only [g3, idxL hi', fldA_fp, fld0 hi', obs, oms, bin_add, bin_sub, bin_lss, bin_leq, bin_gtr, bin_geq, bin_eql, bin_neq, bin_eqlB, bin_neqB, un_not, cond_B, gd_B, gd_undef, gdH_B, gdH_undef, pickA_B, extractA_tup, lenA_sl, lenA_row, fldA_fp, fldA_ptr, fldA_rptr, List.getElem?_cons_zero, List.getElem?_cons_succ, decide_true, decide_false, if_true, if_false, Bool.true_eq_false, Bool.false_eq_true, Bool.not_true, Bool.not_false]
          by_cases g4 : 17 < l[i].1
          · simp only [g4, obs, oms, bin_add, bin_sub, bin_lss, bin_leq, bin_gtr, bin_geq, bin_eql, bin_neq, bin_eqlB, bin_neqB, un_not, cond_B, gd_B, gd_undef, gdH_B, gdH_undef, pickA_B, extractA_tup, lenA_sl, lenA_row, fldA_fp, fldA_ptr, fldA_rptr, List.getElem?_cons_zero, List.getElem?_cons_succ, decide_true, decide_false, if_true, if_false, Bool.true_eq_false, Bool.false_eq_true, Bool.not_true, Bool.not_false]
            have := key true (by rw [hk]; simp [g2, g3, g4])
            rw [g2] at this
            exact this
          · simp only [g4, obs, oms, bin_add, bin_sub, bin_lss, bin_leq, bin_gtr, bin_geq, bin_eql, bin_neq, bin_eqlB, bin_neqB, un_not, cond_B, gd_B, gd_undef, gdH_B, gdH_undef, pickA_B, extractA_tup, lenA_sl, lenA_row, fldA_fp, fldA_ptr, fldA_rptr, List.getElem?_cons_zero, List.getElem?_cons_succ, decide_true, decide_false, if_true, if_false, Bool.true_eq_false, Bool.false_eq_true, Bool.not_true, Bool.not_false]
            have g5 : ¬ l[i].1 = 0 := by omega
            have := key false (by rw [hk]; simp [g5, g2, g3, g4])
            rw [g2] at this
            exact this
      · simp only [g2, obs, oms, bin_add, bin_sub, bin_lss, bin_leq, bin_gtr, bin_geq, bin_eql, bin_neq, bin_eqlB, bin_neqB, un_not, cond_B, gd_B, gd_undef, gdH_B, gdH_undef, pickA_B, extractA_tup, lenA_sl, lenA_row, fldA_fp, fldA_ptr, fldA_rptr, List.getElem?_cons_zero, List.getElem?_cons_succ, decide_true, decide_false, if_true, if_false, Bool.true_eq_false, Bool.false_eq_true, Bool.not_true, Bool.not_false]
        exact key false (by rw [hk, decide_eq_false g1, decide_eq_false g2]; rfl)

theorem lp64 (hl : l.length ≤ 200) {n2 : Option Bool} {t2 : Bool} (lo : List Nat) (H : Heap) : ∀ (r n : Nat), 18 - n = r → n ≤ 18 →
    L5_64 [L nl tg l, v11, v12, v13, v14, V n2 t2 (cnts l), v16, v17, v18, v19, v20, v21, v22, v23, I n] lo H = L5_64 [L nl tg l, v11, v12, v13, v14, V n2 t2 (cnts l), v16, v17, v18, v19, v20, v21, v22, v23, I (18 : Nat)] lo H := by
  intro r
  induction r with
  | zero =>
    intro n hr hn
    have : n = 18 := by omega
    subst this
    rfl
  | succ r ih =>
    intro n hr hn
    have h0 := lp72 (nl := nl) (tg := tg) (l := l) (v11 := v11) (v12 := v12) (v13 := v13) (v14 := v14) (v16 := v16) (v17 := v17) (v18 := v18) (v19 := v19) (v20 := v20) (v21 := v21) (v22 := v22) (v23 := v23) hl (n := n) (by omega) (n2 := n2) (t2 := t2) lo H _ 0 rfl (by omega)
    have hc : (n : Int) < ((cnts l).length : Nat) := by simp [cnts]; omega
    rw [← ih (n + 1) (by omega) (by omega), ← h0]
    conv => lhs; rw [L5_64_eq]
    simp only [lenA_sl, bin_lss, obs, hc, decide_true, cond_B, if_true]
    rfl

theorem fin {c A B_ : List Int} {n1 n2 n3 n4 : Option Bool} {t1 t2 t3 t4 : Bool} {o1 o2 o3 : AV} {ds ds' : List Dd} {w v : Int} {n : Nat} {H : Heap} (hn : n = c.length) (hA : A.length < 2 ^ 63) (hB : B_.length < 2 ^ 63) (hds : ds'.length < 2 ^ 63) (hd2 : ∀ p ∈ ds', p.2.2.length < 2 ^ 63)
    (h : Cx H [] [(o1, 1, A.length, A.map Ia), (o2, 1, B_.length, B_.map Ia), (o3, 1, ds.length, ds.map us)]) (hd : ints ds' = ints ds) (lo : List Nat) :
    L5_64 [L nl tg l, V n1 t1 A, I w, V n2 t2 B_, I w, V n3 t3 c, I w, W n4 t4 ds', I v, I w, I v, o1, o2, o3, I n] lo H = some ([B true], H) := by
  have L1 := h.hd
  have L2 := h.tl.hd
  have L3 := h.tl.tl.hd
  rw [L5_64_eq, hn]
  simp only [bin_lss, Int.lt_irrefl, call17L hA L1, call17L hB L2, call25L hds hd2 L3, hd, obs, oms, bin_add, bin_sub, bin_lss, bin_leq, bin_gtr, bin_geq, bin_eql, bin_neq, bin_eqlB, bin_neqB, un_not, cond_B, gd_B, gd_undef, gdH_B, gdH_undef, pickA_B, extractA_tup, lenA_sl, lenA_row, fldA_fp, fldA_ptr, fldA_rptr, List.getElem?_cons_zero, List.getElem?_cons_succ, decide_true, decide_false, if_true, if_false, Bool.true_eq_false, Bool.false_eq_true, Bool.not_true, Bool.not_false, leave0_B]

theorem law' {l : List Ev} (kind a b k : Int) : ∃ H', O.ent 5 [L nl tg l, I kind, I a, I b, I k] [] [] = some ([B true], H') := by
  obtain ⟨n1, t1, e1⟩ := call20 (nl := nl) (tg := tg) (l := l) kind [] []
  obtain ⟨n2, t2, e2⟩ := call21 (nl := nl) (tg := tg) (l := l) a b [] []
  obtain ⟨n3, t3, e3⟩ := call22 (nl := nl) (tg := tg) (l := l) [] []
  obtain ⟨n4, t4, ds', e4, hds⟩ := call23 (nl := nl) (tg := tg) (l := l) k [] []
  have e5 := call24 (nl := nl) (tg := tg) (l := l) 0 rfl [] []
  have hA := plcs_len (l := l) (fun e => decide (e.1 = kind))
  have hB := plcs_len (l := l) (fun e => decide (a ≤ e.2.1) && decide (e.2.1 < b))
  have hcont : ∃ H', L5_25 [L nl tg l, I kind, I a, I b, I k, V n1 t1 (plcs l fun e => decide (e.1 = kind)), I (errL l), V n2 t2 (plcs l fun e => decide (a ≤ e.2.1) && decide (e.2.1 < b)), I (errL l), V n3 t3 (cntR l), I (errL l), W n4 t4 ds', I (errT l k), I (errL l), I (errT l k), .p nilS, .p nilS, .p nilS] [] [] = some ([B true], H') := by
    rw [L5_25_eq]
    by_cases hl : 200 < l.length
    · have w2 : errL l = 2 := by unfold errL; rw [if_pos hl]
      have v2 : errT l k = 2 := by unfold errT; rw [if_pos hl]
      have hR : rowsR l k = [] := by unfold rowsR; rw [v2]; rfl
      have hd0 : ds' = [] := by rw [hR] at hds; simpa [ints] using hds
      have hc : cntR l = [] := by unfold cntR; rw [if_pos hl]
      have ha : ∀ p, plcs l p = [] := by intro p; unfold plcs; rw [if_pos hl]
      subst hd0
      rw [w2, v2, hc, ha, ha, L5_26_eq]
      have hlt : (0 : Int) < l.length := by omega
      simp only [hlt, obs, oms, bin_add, bin_sub, bin_lss, bin_leq, bin_gtr, bin_geq, bin_eql, bin_neq, bin_eqlB, bin_neqB, un_not, cond_B, gd_B, gd_undef, gdH_B, gdH_undef, pickA_B, extractA_tup, lenA_sl, lenA_row, fldA_fp, fldA_ptr, fldA_rptr, List.getElem?_cons_zero, List.getElem?_cons_succ, decide_true, decide_false, if_true, if_false, Bool.true_eq_false, Bool.false_eq_true, Bool.not_true, Bool.not_false]
      have := out40 (nl := nl) (tg := tg) (l := l) (v11 := V n1 t1 []) (v12 := I 2) (v13 := V n2 t2 []) (v14 := I 2) (v16 := I 2) (v17 := W n4 t4 []) (v18 := I 2) (v21 := .p nilS) (v22 := .p nilS) (v23 := .p nilS) (w := 2) (k := k) (c := []) (n2 := n3) (t2 := t3) (n := 0) (v := 2) (by omega) (by simp) [] []
      have hf := fin (nl := nl) (tg := tg) (l := l) (c := []) (A := []) (B_ := []) (n1 := n1) (n2 := n2) (n3 := n3) (n4 := n4) (t1 := t1) (t2 := t2) (t3 := t3) (t4 := t4) (o1 := .p nilS) (o2 := .p nilS) (o3 := .p nilS) (ds := []) (ds' := []) (w := 2) (v := 2) (n := 0) (H := []) rfl (by simp) (by simp) (by simp) (by simp) ((((Cx.nil []).newNil 1).newNil 1).newNil 1) rfl []
      refine ⟨[], ?_⟩
      rw [show (I 0) = I (0 : Nat) from rfl]
      rw [this]
      exact hf
    · have w0 : errL l = 0 := by unfold errL; rw [if_neg hl]
      have hc : cntR l = cnts l := by unfold cntR; rw [if_neg hl]
      have ha : ∀ p, plcs l p = flt (pat l p) l.length := by intro p; unfold plcs; rw [if_neg hl]
      rw [w0, hc, ha, ha]
      rw [ha] at hA hB
      obtain ⟨o1, o2, H1, q1, c1⟩ := lp26 (nl := nl) (tg := tg) (l := l) (kind := kind) (a := a) (b := b) (v4 := I k) (v11 := V n1 t1 (flt (pat l fun e => decide (e.1 = kind)) l.length)) (v12 := I 0) (v13 := V n2 t2 (flt (pat l fun e => decide (a ≤ e.2.1) && decide (e.2.1 < b)) l.length)) (v14 := I 0) (v15 := V n3 t3 (cnts l)) (v16 := I 0) (v17 := W n4 t4 ds') (v18 := I (errT l k)) (v20 := I (errT l k)) (v23 := .p nilS) (by omega) [] _ 0 (.p nilS) (.p nilS) [] rfl (by omega) (((Cx.nil []).newNil 1).newNil 1)
      rw [show (I 0) = I (0 : Nat) from rfl] at *
      rw [q1]
      have hd2 : ∀ p ∈ ds', p.2.2.length < 2 ^ 63 := by
        intro p hp
        have : p.2.2 ∈ ints ds' := List.mem_map.mpr ⟨p, hp, rfl⟩
        rw [hds] at this
        unfold rowsR at this
        split at this
        · obtain ⟨n, _, e⟩ := List.mem_map.mp this
          have := own_len (l := l) n l.length
          rw [e] at this
          omega
        · cases this
      have c2 := c1.putNil 1
      simp only [List.cons_append, List.nil_append] at c2
      by_cases hv : errT l k = 0
      · have hk : 0 ≤ k ∧ k ≤ 8 := by
          unfold errT at hv
          rw [if_neg hl] at hv
          split at hv
          · cases hv
          · omega
        obtain ⟨m, rfl⟩ : ∃ m : Nat, k = m := ⟨k.toNat, by omega⟩
        rw [hv]
        obtain ⟨o3, ds, H2, q2, c3, hd3⟩ := lp40 (nl := nl) (tg := tg) (l := l) (v11 := V n1 t1 (flt (pat l fun e => decide (e.1 = kind)) l.length)) (v12 := I 0) (v13 := V n2 t2 (flt (pat l fun e => decide (a ≤ e.2.1) && decide (e.2.1 < b)) l.length)) (v14 := I 0) (v16 := I 0) (v17 := W n4 t4 ds') (v18 := I 0) (v21 := o1) (v22 := o2) (c := cnts l) (n2 := n3) (t2 := t3) (k := m) (by omega) (by omega) (by simp [cnts]) [] _ 0 (.p nilS) [] H1 rfl (by omega) (by simp [ints]) c2
        rw [show (I 0) = I (0 : Nat) from rfl] at *
        rw [q2, lp64 (by omega) [] H2 _ 0 rfl (by omega)]
        have hR : ints ds' = ints ds := by rw [hds, hd3]; unfold rowsR; rw [hv]; simp
        have hlen : ds'.length < 2 ^ 63 := by
          have := congrArg List.length hds
          unfold rowsR at this
          rw [hv] at this
          simp [ints] at this
          omega
        exact ⟨H2, fin (c := cnts l) (w := 0) (v := 0) (n := 18) (by simp [cnts]) (Nat.lt_of_le_of_lt hA (by omega)) (Nat.lt_of_le_of_lt hB (by omega)) hlen hd2 c3 hR []⟩
      · have hR : rowsR l k = [] := by unfold rowsR; rw [if_neg hv]
        have hd0 : ds' = [] := by rw [hR] at hds; simpa [ints] using hds
        subst hd0
        have := out40 (nl := nl) (tg := tg) (l := l) (v11 := V n1 t1 (flt (pat l fun e => decide (e.1 = kind)) l.length)) (v12 := I 0) (v13 := V n2 t2 (flt (pat l fun e => decide (a ≤ e.2.1) && decide (e.2.1 < b)) l.length)) (v14 := I 0) (v16 := I 0) (v17 := W n4 t4 []) (v18 := I (errT l k)) (v21 := o1) (v22 := o2) (v23 := .p nilS) (w := 0) (k := k) (c := cnts l) (n2 := n3) (t2 := t3) (n := 0) (v := errT l k) (by omega) (by simp [cnts]) [] H1
        rw [show (I 0) = I (0 : Nat) from rfl] at *
        rw [this, lp64 (by omega) [] H1 _ 0 rfl (by omega)]
        exact ⟨H1, fin (c := cnts l) (ds := []) (ds' := []) (w := 0) (v := errT l k) (n := 18) (by simp [cnts]) (Nat.lt_of_le_of_lt hA (by omega)) (Nat.lt_of_le_of_lt hB (by omega)) (by simp) (by simp) c2 rfl []⟩
  rw [f5_eq]
  simp only [e1, e2, e3, e4, e5, obs, oms, bin_add, bin_sub, bin_lss, bin_leq, bin_gtr, bin_geq, bin_eql, bin_neq, bin_eqlB, bin_neqB, un_not, cond_B, gd_B, gd_undef, gdH_B, gdH_undef, pickA_B, extractA_tup, lenA_sl, lenA_row, fldA_fp, fldA_ptr, fldA_rptr, List.getElem?_cons_zero, List.getElem?_cons_succ, decide_true, decide_false, if_true, if_false, Bool.true_eq_false, Bool.false_eq_true, Bool.not_true, Bool.not_false]
  by_cases hl : 200 < l.length
  · have w2 : errL l = 2 := by unfold errL; rw [if_pos hl]
    have v2 : errT l k = 2 := by unfold errT; rw [if_pos hl]
    have z : ¬ ((2 : Int) = 0) := by omega
    rw [w2, v2] at hcont ⊢
    simp only [z, obs, oms, bin_add, bin_sub, bin_lss, bin_leq, bin_gtr, bin_geq, bin_eql, bin_neq, bin_eqlB, bin_neqB, un_not, cond_B, gd_B, gd_undef, gdH_B, gdH_undef, pickA_B, extractA_tup, lenA_sl, lenA_row, fldA_fp, fldA_ptr, fldA_rptr, List.getElem?_cons_zero, List.getElem?_cons_succ, decide_true, decide_false, if_true, if_false, Bool.true_eq_false, Bool.false_eq_true, Bool.not_true, Bool.not_false]
    exact hcont
  · have w0 : errL l = 0 := by unfold errL; rw [if_neg hl]
    rw [w0] at hcont ⊢
    simp only [obs, oms, bin_add, bin_sub, bin_lss, bin_leq, bin_gtr, bin_geq, bin_eql, bin_neq, bin_eqlB, bin_neqB, un_not, cond_B, gd_B, gd_undef, gdH_B, gdH_undef, pickA_B, extractA_tup, lenA_sl, lenA_row, fldA_fp, fldA_ptr, fldA_rptr, List.getElem?_cons_zero, List.getElem?_cons_succ, decide_true, decide_false, if_true, if_false, Bool.true_eq_false, Bool.false_eq_true, Bool.not_true, Bool.not_false]
    by_cases g1 : k < 0
    · have v1 : errT l k = 1 := by unfold errT; rw [if_neg hl, if_pos (by omega)]
      rw [v1] at hcont ⊢
      simp only [g1, obs, oms, bin_add, bin_sub, bin_lss, bin_leq, bin_gtr, bin_geq, bin_eql, bin_neq, bin_eqlB, bin_neqB, un_not, cond_B, gd_B, gd_undef, gdH_B, gdH_undef, pickA_B, extractA_tup, lenA_sl, lenA_row, fldA_fp, fldA_ptr, fldA_rptr, List.getElem?_cons_zero, List.getElem?_cons_succ, decide_true, decide_false, if_true, if_false, Bool.true_eq_false, Bool.false_eq_true, Bool.not_true, Bool.not_false]
      exact hcont
    · by_cases g2 : 8 < k
      · have v1 : errT l k = 1 := by unfold errT; rw [if_neg hl, if_pos (by omega)]
        rw [v1] at hcont ⊢
        simp only [g1, g2, obs, oms, bin_add, bin_sub, bin_lss, bin_leq, bin_gtr, bin_geq, bin_eql, bin_neq, bin_eqlB, bin_neqB, un_not, cond_B, gd_B, gd_undef, gdH_B, gdH_undef, pickA_B, extractA_tup, lenA_sl, lenA_row, fldA_fp, fldA_ptr, fldA_rptr, List.getElem?_cons_zero, List.getElem?_cons_succ, decide_true, decide_false, if_true, if_false, Bool.true_eq_false, Bool.false_eq_true, Bool.not_true, Bool.not_false]
        exact hcont
      · have v0 : errT l k = 0 := by unfold errT; rw [if_neg hl, if_neg (by omega)]
        rw [v0] at hcont ⊢
        simp only [g1, g2, obs, oms, bin_add, bin_sub, bin_lss, bin_leq, bin_gtr, bin_geq, bin_eql, bin_neq, bin_eqlB, bin_neqB, un_not, cond_B, gd_B, gd_undef, gdH_B, gdH_undef, pickA_B, extractA_tup, lenA_sl, lenA_row, fldA_fp, fldA_ptr, fldA_rptr, List.getElem?_cons_zero, List.getElem?_cons_succ, decide_true, decide_false, if_true, if_false, Bool.true_eq_false, Bool.false_eq_true, Bool.not_true, Bool.not_false]
        exact hcont

end
end Row
end Go.Proofs.Ytangmjeafnkfaaa
