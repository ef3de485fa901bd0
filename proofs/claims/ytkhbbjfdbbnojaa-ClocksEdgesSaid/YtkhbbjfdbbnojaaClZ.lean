import Derived.Test.YtkhbbjfdbbnojaaClY
set_option linter.unusedVariables false
set_option linter.unusedSimpArgs false
namespace Go.Proofs.Ytkhbbjfdbbnojaa
open Go Go.AM
namespace Cl

section
variable {l : List E} {nl : Option Bool} {tg : Bool} {n : Int}

theorem bests_min (x y : Int) : bests false (I x) [I y] = some (I (min x y)) := by
  simp only [bests, best, if_true, Option.bind_some, Bool.false_eq_true, if_false]
  congr 4
  split <;> omega

theorem call64 (k : Nat) (hk : k < 2 ^ 40) (lo : List Nat) (H : Heap) : ∃ t', callA cfg O 64 [Rw enc nl tg l, I k] lo H = some (Rw enc nl t' (l.take k), H) := by
  have hm : min (l.length : Int) k = ((min l.length k : Nat) : Int) := by omega
  have hln : (l.take k).length = min l.length k := by simp [Nat.min_comm]
  have e : O.ent 64 [Rw enc nl tg l, I k] [] [] = some ([Rw enc nl (tg && decide (((min l.length k : Nat) : Int) = l.length)) (l.take k)], []) := by
    rw [f64_eq]
    simp only [lenA_sl, bests_min, hm, obs]
    rw [cutA_hi (by omega)]
    simp only [obs, Int.toNat_natCast]
    have hx : (l.flatMap enc).take (min l.length k * 12) = (l.take k).flatMap enc := by
      rw [← hln]
      have h2 : l.flatMap enc = (l.take k).flatMap enc ++ (l.drop k).flatMap enc := by rw [← List.flatMap_append, List.take_append_drop]
      rw [h2, List.take_append_of_le_length (by rw [rows_length hE]; omega), List.take_of_length_le (by rw [rows_length hE]; omega)]
    rw [hx, ← hln]
    rfl
  exact ⟨_, callA_pure (xs := [.sl nl tg l.length (l.flatMap enc), Ia k]) (rs := [Rw enc nl (tg && decide (((min l.length k : Nat) : Int) = l.length)) (l.take k)]) rfl e rfl⟩

theorem call74 {i j : Nat} (hi : i < l.length) (hj : j < l.length) (hb : l.length < 2 ^ 40) (lo : List Nat) (H : Heap) : callA cfg O 74 [Rw enc nl tg l, I i, I j] lo H = some (B (dec (ED l i j)), H) :=
  callA_pure (xs := [.sl nl tg l.length (l.flatMap enc), Ia i, Ia j]) (rs := [B (dec (ED l i j))]) rfl (ent74 hi hj hb) rfl

theorem loop26 {n2 : Option Bool} {t2 : Bool} {S : List P2} (hl : l.length < 2 ^ 40) (hS : S = rf l l.length) (hSl : S.length ≤ 100000) {j : Nat} (hj : j < l.length)
    (out : L12_20 [Rw enc nl tg l, Rw encP n2 t2 S, I 0, I 0, I (rf l (j + 1)).length, I ((j + 1 : Nat) : Int)] [] [] = some ([B true], [])) : ∀ (c i : Nat), j - i = c → i ≤ j →
    L12_26 [Rw enc nl tg l, Rw encP n2 t2 S, I 0, I 0, I (rf l j ++ rw' l j i).length, I j, I i] [] [] = some ([B true], []) := by
  intro c
  induction c with
  | zero =>
    intro i hc hi
    have : i = j := by omega
    subst this
    rw [L12_26_eq]
    simp only [Int.lt_irrefl, obs, oms, bin_add, bin_sub, bin_lss, bin_leq, bin_gtr, bin_geq, bin_eql, bin_neq, bin_eqlB, bin_neqB, un_not, cond_B, gd_B, gd_undef, gdH_B, gdH_undef, pickA_B, extractA_tup, lenA_sl, lenA_row, fldA_fp, fldA_ptr, fldA_rptr, List.getElem?_cons_zero, List.getElem?_cons_succ, decide_true, decide_false, if_true, if_false, Bool.true_eq_false, Bool.false_eq_true, Bool.not_true, Bool.not_false]
    rw [wrap_id (by omega), nxt]
    exact out
  | succ c ih =>
    intro i hc hi
    have hlt : (i : Int) < j := by omega
    have ih' := ih (i + 1) (by omega) (by omega)
    rw [rw_succ] at ih'
    have c74 := call74 (nl := nl) (tg := tg) (l := l) (i := i) (j := j) (by omega) hj hl [] []
    have w2 : IntKind.i64.wrap ((i : Int) + 1) = ((i + 1 : Nat) : Int) := by rw [wrap_id (by omega), nxt]
    rw [L12_26_eq]
    by_cases h : ED l i j
    · have hd : dec (ED l i j) = true := dec_iff.mpr h
      rw [if_pos hd] at ih'
      rw [hd] at c74
      have hat := rf_at (m := l.length) hj (show i < j by omega) h
      rw [← hS] at hat
      obtain ⟨hlen, hval⟩ := List.getElem?_eq_some_iff.mp hat
      have h1 : ¬ (S.length : Int) ≤ ((rf l j ++ rw' l j i).length : Nat) := by omega
      have hbd : buildA [(I 0), (I 0)] [(0, 1, I i), (1, 1, I j)] = some (avP ((i : Int), (j : Int))) := rfl
      have i1 : idxA 2 (Rw encP n2 t2 S) (I (rf l j ++ rw' l j i).length) = _ := idxR hlen
      have l1 : ld true 2 (.fp (S.flatMap encP) ((rf l j ++ rw' l j i).length * 2)) [] = some (avP ((i : Int), (j : Int))) := by rw [ldR len2 hlen, hval]; rfl
      have w3 : IntKind.i64.wrap (((rf l j ++ rw' l j i).length : Nat) + 1 : Int) = (((rf l j ++ rw' l j i).length + 1 : Nat) : Int) := by rw [wrap_id (by omega), nxt]
      have e3 : (rf l j ++ (rw' l j i ++ [((i : Int), (j : Int))])).length = (rf l j ++ rw' l j i).length + 1 := by simp; omega
      rw [e3] at ih'
      simp only [hlt, c74, h1, i1, l1, hbd, neP, w3, L12_29_eq, w2, obs, oms, bin_add, bin_sub, bin_lss, bin_leq, bin_gtr, bin_geq, bin_eql, bin_neq, bin_eqlB, bin_neqB, un_not, cond_B, gd_B, gd_undef, gdH_B, gdH_undef, pickA_B, extractA_tup, lenA_sl, lenA_row, fldA_fp, fldA_ptr, fldA_rptr, List.getElem?_cons_zero, List.getElem?_cons_succ, decide_true, decide_false, if_true, if_false, Bool.true_eq_false, Bool.false_eq_true, Bool.not_true, Bool.not_false]
      exact ih'
    · have hd : dec (ED l i j) = false := by
        cases h2 : dec (ED l i j) with
        | false => rfl
        | true => exact (h (dec_iff.mp h2)).elim
      rw [hd] at c74 ih'
      rw [if_neg (by simp), List.append_nil] at ih'
      simp only [hlt, c74, L12_29_eq, w2, obs, oms, bin_add, bin_sub, bin_lss, bin_leq, bin_gtr, bin_geq, bin_eql, bin_neq, bin_eqlB, bin_neqB, un_not, cond_B, gd_B, gd_undef, gdH_B, gdH_undef, pickA_B, extractA_tup, lenA_sl, lenA_row, fldA_fp, fldA_ptr, fldA_rptr, List.getElem?_cons_zero, List.getElem?_cons_succ, decide_true, decide_false, if_true, if_false, Bool.true_eq_false, Bool.false_eq_true, Bool.not_true, Bool.not_false]
      exact ih'

theorem loop20 {n2 : Option Bool} {t2 : Bool} {S : List P2} (hl : l.length < 2 ^ 40) (hS : S = rf l l.length) (hSl : S.length ≤ 100000) : ∀ (c j : Nat), l.length - j = c → j ≤ l.length →
    L12_20 [Rw enc nl tg l, Rw encP n2 t2 S, I 0, I 0, I (rf l j).length, I j] [] [] = some ([B true], []) := by
  intro c
  induction c with
  | zero =>
    intro j hc hj
    have : j = l.length := by omega
    subst this
    rw [L12_20_eq, ← hS]
    simp only [Int.lt_irrefl, obs, oms, bin_add, bin_sub, bin_lss, bin_leq, bin_gtr, bin_geq, bin_eql, bin_neq, bin_eqlB, bin_neqB, un_not, cond_B, gd_B, gd_undef, gdH_B, gdH_undef, pickA_B, extractA_tup, lenA_sl, lenA_row, fldA_fp, fldA_ptr, fldA_rptr, List.getElem?_cons_zero, List.getElem?_cons_succ, decide_true, decide_false, if_true, if_false, Bool.true_eq_false, Bool.false_eq_true, Bool.not_true, Bool.not_false]
    rfl
  | succ c ih =>
    intro j hc hj
    have hlt : (j : Int) < l.length := by omega
    have := loop26 (nl := nl) (tg := tg) (n2 := n2) (t2 := t2) hl hS hSl (j := j) (by omega) (ih (j + 1) (by omega) (by omega)) j 0 (by omega) (by omega)
    have e0 : rw' l j 0 = [] := rfl
    rw [e0, List.append_nil] at this
    rw [L12_20_eq]
    simp only [hlt, obs, oms, bin_add, bin_sub, bin_lss, bin_leq, bin_gtr, bin_geq, bin_eql, bin_neq, bin_eqlB, bin_neqB, un_not, cond_B, gd_B, gd_undef, gdH_B, gdH_undef, pickA_B, extractA_tup, lenA_sl, lenA_row, fldA_fp, fldA_ptr, fldA_rptr, List.getElem?_cons_zero, List.getElem?_cons_succ, decide_true, decide_false, if_true, if_false, Bool.true_eq_false, Bool.false_eq_true, Bool.not_true, Bool.not_false]
    exact this

theorem law : O.ent 12 [Rw enc nl tg l, I n] [] [] = some ([B true], []) := by
  have c72 : ∀ (nl : Option Bool) (tg : Bool) (l : List E), ∃ n2 t2 S, callA cfg O 72 [Rw enc nl tg l, I n] [] [] = some (.tup [Rw encP n2 t2 S, I (code l n)], []) ∧ (code l n ≠ 0 → S = []) ∧ (code l n = 0 → S.Pairwise plt ∧ MemE l S ∧ S.length ≤ 100000) := by
    intro nl tg l
    obtain ⟨n2, t2, S, e, r⟩ := ent72 (l := l) (nl := nl) (tg := tg) (n := n)
    exact ⟨n2, t2, S, callA_pure (xs := [.sl nl tg l.length (l.flatMap enc), Ia n]) (rs := [Rw encP n2 t2 S, I (code l n)]) rfl e rfl, r⟩
  rw [f12_eq]
  by_cases h : 200 < l.length
  · have h' : (200 : Int) < l.length := by omega
    obtain ⟨n2, t2, S, e, _⟩ := c72 nl tg l
    have hc : code l n = 2 := by unfold code; rw [if_pos h]
    rw [hc] at e
    simp only [h', e, ex0, ex1, obs, oms, bin_add, bin_sub, bin_lss, bin_leq, bin_gtr, bin_geq, bin_eql, bin_neq, bin_eqlB, bin_neqB, un_not, cond_B, gd_B, gd_undef, gdH_B, gdH_undef, pickA_B, extractA_tup, lenA_sl, lenA_row, fldA_fp, fldA_ptr, fldA_rptr, List.getElem?_cons_zero, List.getElem?_cons_succ, decide_true, decide_false, if_true, if_false, Bool.true_eq_false, Bool.false_eq_true, Bool.not_true, Bool.not_false]
    rfl
  · have h' : ¬ (200 : Int) < l.length := by omega
    obtain ⟨t', e64⟩ := call64 (l := l) (nl := nl) (tg := tg) 40 (by omega) [] []
    have e64' : callA cfg O 64 [Rw enc nl tg l, I 40] [] [] = _ := e64
    generalize hl2 : l.take 40 = m at *
    have hml : m.length ≤ 40 := by rw [← hl2]; simp; omega
    obtain ⟨n2, t2, S, e, r1, r2⟩ := c72 nl t' m
    have c73 : callA cfg O 73 [Rw enc nl t' m, I n] [] [] = some (I (code m n), []) := callA_pure (xs := [.sl nl t' m.length (m.flatMap enc), Ia n]) (rs := [I (code m n)]) rfl ent73 rfl
    have start : L12_20 [Rw enc nl t' m, Rw encP n2 t2 S, I (code m n), I (code m n), I 0, I 0] [] [] = some ([B true], []) := by
      by_cases hc : code m n = 0
      · obtain ⟨q1, q2, q3⟩ := r2 hc
        rw [hc]
        exact loop20 (by omega) (plt_uniq q1 (rf_sorted _) fun p => (q2 p).trans (mem_rf _ p).symm) q3 m.length 0 rfl (by omega)
      · rw [r1 hc, L12_20_eq]
        have zz : ((0 : Nat) : Int) = 0 := rfl
        by_cases h0 : (0 : Int) < m.length
        · simp only [h0, hc, List.length_nil, zz, obs, oms, bin_add, bin_sub, bin_lss, bin_leq, bin_gtr, bin_geq, bin_eql, bin_neq, bin_eqlB, bin_neqB, un_not, cond_B, gd_B, gd_undef, gdH_B, gdH_undef, pickA_B, extractA_tup, lenA_sl, lenA_row, fldA_fp, fldA_ptr, fldA_rptr, List.getElem?_cons_zero, List.getElem?_cons_succ, decide_true, decide_false, if_true, if_false, Bool.true_eq_false, Bool.false_eq_true, Bool.not_true, Bool.not_false]
          rfl
        · simp only [h0, hc, List.length_nil, zz, obs, oms, bin_add, bin_sub, bin_lss, bin_leq, bin_gtr, bin_geq, bin_eql, bin_neq, bin_eqlB, bin_neqB, un_not, cond_B, gd_B, gd_undef, gdH_B, gdH_undef, pickA_B, extractA_tup, lenA_sl, lenA_row, fldA_fp, fldA_ptr, fldA_rptr, List.getElem?_cons_zero, List.getElem?_cons_succ, decide_true, decide_false, if_true, if_false, Bool.true_eq_false, Bool.false_eq_true, Bool.not_true, Bool.not_false]
          rfl
    simp only [h', e64', e, ex0, ex1, c73, obs, oms, bin_add, bin_sub, bin_lss, bin_leq, bin_gtr, bin_geq, bin_eql, bin_neq, bin_eqlB, bin_neqB, un_not, cond_B, gd_B, gd_undef, gdH_B, gdH_undef, pickA_B, extractA_tup, lenA_sl, lenA_row, fldA_fp, fldA_ptr, fldA_rptr, List.getElem?_cons_zero, List.getElem?_cons_succ, decide_true, decide_false, if_true, if_false, Bool.true_eq_false, Bool.false_eq_true, Bool.not_true, Bool.not_false]
    exact start
end
end Cl
end Go.Proofs.Ytkhbbjfdbbnojaa
