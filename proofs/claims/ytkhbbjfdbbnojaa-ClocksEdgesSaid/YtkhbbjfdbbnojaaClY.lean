import Derived.Test.YtkhbbjfdbbnojaaClX
set_option linter.unusedVariables false
set_option linter.unusedSimpArgs false
namespace Go.Proofs.Ytkhbbjfdbbnojaa
open Go Go.AM
namespace Cl

section
variable {l : List E} {nl : Option Bool} {tg : Bool} {n : Int}

/-! ### The code -/
noncomputable def code (l : List E) (n : Int) : Int := if 200 < l.length then 2 else if n < 0 ∨ 8 < n then 1 else if dec (∃ i, i < l.length ∧ (Th l i < 0 ∨ n ≤ Th l i)) = true then 1 else 0

theorem ent155 (e : E) (lo : List Nat) {H : Heap} (hH : H[0]? = some (.box [I n])) : O.ent 155 [avE e, .ptr 0 0] lo H = some ([B (decide (e.2.2.1 < 0 ∨ n ≤ e.2.2.1))], H) := by
  have hb : boxO [] (AV.cells (avE e)) H = some (.ptr H.length 0, H ++ [bxE e]) := boxO_p _ H
  have h1 : ld false 1 (.ptr H.length (0 + 2)) (H ++ [bxE e]) = some (I e.2.2.1) := by rw [ldE]; rfl
  have h2 : ld false 1 (.ptr 0 0) (H ++ [bxE e]) = some (I n) := by rw [ld_box (getE hH)]; rfl
  have fin : ∀ b : Bool, leave 3 (H.length :: lo) [B b] (H ++ [bxE e]) = some ([B b], H) := by
    intro b
    simp only [leave, frzAll, frzA_p, obs, oms]
    have ha : ([B b] : List AV).all (AV.ltd H.length) = true := rfl
    rw [if_pos ha, List.take_left]
  rw [f155_eq]
  by_cases a : e.2.2.1 < 0
  · have : decide (e.2.2.1 < 0 ∨ n ≤ e.2.2.1) = true := decide_eq_true (.inl a)
    rw [this, ← fin]
    simp only [hb, h1, h2, a, obs, oms, bin_add, bin_sub, bin_lss, bin_leq, bin_gtr, bin_geq, bin_eql, bin_neq, bin_eqlB, bin_neqB, un_not, cond_B, gd_B, gd_undef, gdH_B, gdH_undef, pickA_B, extractA_tup, lenA_sl, lenA_row, fldA_fp, fldA_ptr, fldA_rptr, List.getElem?_cons_zero, List.getElem?_cons_succ, decide_true, decide_false, if_true, if_false, Bool.true_eq_false, Bool.false_eq_true, Bool.not_true, Bool.not_false]
  · by_cases b : n ≤ e.2.2.1
    · have : decide (e.2.2.1 < 0 ∨ n ≤ e.2.2.1) = true := decide_eq_true (.inr b)
      rw [this, ← fin]
      simp only [hb, h1, h2, a, b, obs, oms, bin_add, bin_sub, bin_lss, bin_leq, bin_gtr, bin_geq, bin_eql, bin_neq, bin_eqlB, bin_neqB, un_not, cond_B, gd_B, gd_undef, gdH_B, gdH_undef, pickA_B, extractA_tup, lenA_sl, lenA_row, fldA_fp, fldA_ptr, fldA_rptr, List.getElem?_cons_zero, List.getElem?_cons_succ, decide_true, decide_false, if_true, if_false, Bool.true_eq_false, Bool.false_eq_true, Bool.not_true, Bool.not_false]
    · have : decide (e.2.2.1 < 0 ∨ n ≤ e.2.2.1) = false := decide_eq_false (fun h => h.elim a b)
      rw [this, ← fin]
      simp only [hb, h1, h2, a, b, obs, oms, bin_add, bin_sub, bin_lss, bin_leq, bin_gtr, bin_geq, bin_eql, bin_neq, bin_eqlB, bin_neqB, un_not, cond_B, gd_B, gd_undef, gdH_B, gdH_undef, pickA_B, extractA_tup, lenA_sl, lenA_row, fldA_fp, fldA_ptr, fldA_rptr, List.getElem?_cons_zero, List.getElem?_cons_succ, decide_true, decide_false, if_true, if_false, Bool.true_eq_false, Bool.false_eq_true, Bool.not_true, Bool.not_false]

theorem loop182 (hl : l.length < 2 ^ 40) {H : Heap} (hH : H[0]? = some (.box [I n])) (lo : List Nat) : ∀ (c i : Nat), l.length - i = c → i ≤ l.length → ∃ r : Int, L182_6 [Rw enc nl tg l, .fn 155 [] [.ptr 0 0], I l.length, I i] lo H = some ([I r], H) ∧ (0 ≤ r ↔ ∃ q, i ≤ q ∧ q < l.length ∧ (Th l q < 0 ∨ n ≤ Th l q)) := by
  intro c
  induction c with
  | zero =>
    intro i hc hi
    have : i = l.length := by omega
    subst this
    refine ⟨-1, ?_, ⟨fun h => by omega, fun ⟨q, h1, h2, _⟩ => by omega⟩⟩
    rw [L182_6_eq]
    simp only [Int.lt_irrefl, obs, oms, bin_add, bin_sub, bin_lss, bin_leq, bin_gtr, bin_geq, bin_eql, bin_neq, bin_eqlB, bin_neqB, un_not, cond_B, gd_B, gd_undef, gdH_B, gdH_undef, pickA_B, extractA_tup, lenA_sl, lenA_row, fldA_fp, fldA_ptr, fldA_rptr, List.getElem?_cons_zero, List.getElem?_cons_succ, decide_true, decide_false, if_true, if_false, Bool.true_eq_false, Bool.false_eq_true, Bool.not_true, Bool.not_false]
    rfl
  | succ c ih =>
    intro i hc hi
    have hi' : i < l.length := by omega
    have hlt : (i : Int) < l.length := by omega
    have m155 : cfg.mode 155 = 3 := rfl
    have hT : (l.getD i z0).2.2.1 = Th l i := rfl
    have cv : callV cfg O (.fn 155 [] [.ptr 0 0]) [avE (l.getD i z0)] lo H = some (B (decide (Th l i < 0 ∨ n ≤ Th l i)), H) := by
      show callA cfg O 155 [avE (l.getD i z0), .ptr 0 0] lo H = _
      exact callA_same m155 (ent155 (l.getD i z0) lo hH)
    rw [L182_6_eq]
    by_cases hb : Th l i < 0 ∨ n ≤ Th l i
    · refine ⟨i, ?_, ⟨fun _ => ⟨i, Nat.le_refl _, hi', hb⟩, fun _ => by omega⟩⟩
      simp only [hlt, idxE hi', ldEv hi', cv, hb, obs, oms, bin_add, bin_sub, bin_lss, bin_leq, bin_gtr, bin_geq, bin_eql, bin_neq, bin_eqlB, bin_neqB, un_not, cond_B, gd_B, gd_undef, gdH_B, gdH_undef, pickA_B, extractA_tup, lenA_sl, lenA_row, fldA_fp, fldA_ptr, fldA_rptr, List.getElem?_cons_zero, List.getElem?_cons_succ, decide_true, decide_false, if_true, if_false, Bool.true_eq_false, Bool.false_eq_true, Bool.not_true, Bool.not_false]
      rfl
    · obtain ⟨r, e, hr⟩ := ih (i + 1) (by omega) (by omega)
      refine ⟨r, ?_, hr.trans ⟨fun ⟨q, h1, h2, h3⟩ => ⟨q, by omega, h2, h3⟩, fun ⟨q, h1, h2, h3⟩ => ?_⟩⟩
      · simp only [hlt, idxE hi', ldEv hi', cv, hb, obs, oms, bin_add, bin_sub, bin_lss, bin_leq, bin_gtr, bin_geq, bin_eql, bin_neq, bin_eqlB, bin_neqB, un_not, cond_B, gd_B, gd_undef, gdH_B, gdH_undef, pickA_B, extractA_tup, lenA_sl, lenA_row, fldA_fp, fldA_ptr, fldA_rptr, List.getElem?_cons_zero, List.getElem?_cons_succ, decide_true, decide_false, if_true, if_false, Bool.true_eq_false, Bool.false_eq_true, Bool.not_true, Bool.not_false]
        rw [wrap_id (by omega), nxt]
        exact e
      · by_cases e : q = i
        · rw [e] at h3; exact (hb h3).elim
        · exact ⟨q, by omega, h2, h3⟩

theorem ent127 : O.ent 127 [Rw enc nl tg l, I n] [] [] = some ([I (code l n)], []) := by
  have hb : boxO [] (AV.cells (I n)) [] = some (.ptr 0 0, [.box [I n]]) := rfl
  have hld : ld false 1 (.ptr 0 0) [.box [I n]] = some (I n) := rfl
  rw [f127_eq]
  by_cases h1 : 200 < l.length
  · have h1' : (200 : Int) < l.length := by omega
    simp only [hb, h1', code, h1, obs, oms, bin_add, bin_sub, bin_lss, bin_leq, bin_gtr, bin_geq, bin_eql, bin_neq, bin_eqlB, bin_neqB, un_not, cond_B, gd_B, gd_undef, gdH_B, gdH_undef, pickA_B, extractA_tup, lenA_sl, lenA_row, fldA_fp, fldA_ptr, fldA_rptr, List.getElem?_cons_zero, List.getElem?_cons_succ, decide_true, decide_false, if_true, if_false, Bool.true_eq_false, Bool.false_eq_true, Bool.not_true, Bool.not_false]
    rfl
  have h1' : ¬ (200 : Int) < l.length := by omega
  by_cases h2 : n < 0
  · simp only [hb, hld, h1', h2, code, h1, true_or, obs, oms, bin_add, bin_sub, bin_lss, bin_leq, bin_gtr, bin_geq, bin_eql, bin_neq, bin_eqlB, bin_neqB, un_not, cond_B, gd_B, gd_undef, gdH_B, gdH_undef, pickA_B, extractA_tup, lenA_sl, lenA_row, fldA_fp, fldA_ptr, fldA_rptr, List.getElem?_cons_zero, List.getElem?_cons_succ, decide_true, decide_false, if_true, if_false, Bool.true_eq_false, Bool.false_eq_true, Bool.not_true, Bool.not_false]
    rfl
  by_cases h3 : 8 < n
  · simp only [hb, hld, h1', h2, h3, code, h1, or_true, obs, oms, bin_add, bin_sub, bin_lss, bin_leq, bin_gtr, bin_geq, bin_eql, bin_neq, bin_eqlB, bin_neqB, un_not, cond_B, gd_B, gd_undef, gdH_B, gdH_undef, pickA_B, extractA_tup, lenA_sl, lenA_row, fldA_fp, fldA_ptr, fldA_rptr, List.getElem?_cons_zero, List.getElem?_cons_succ, decide_true, decide_false, if_true, if_false, Bool.true_eq_false, Bool.false_eq_true, Bool.not_true, Bool.not_false]
    rfl
  have hl : l.length < 2 ^ 40 := by omega
  obtain ⟨r, e, hr⟩ := loop182 (nl := nl) (tg := tg) (n := n) hl (H := [.box [I n]]) rfl [] l.length 0 rfl (by omega)
  have m182 : cfg.mode 182 = 1 := rfl
  have m154 : cfg.mode 154 = 1 := rfl
  have c182 : callA cfg O 182 [Rw enc nl tg l, .fn 155 [] [.ptr 0 0]] [] [.box [I n]] = some (I r, [.box [I n]]) := callA_keep m182 (rs := [I r]) (by
    rw [f182_eq]
    simp only [lenA_sl, obs]
    exact e)
  have c154 : callA cfg O 154 [Rw enc nl tg l, .fn 155 [] [.ptr 0 0]] [] [.box [I n]] = some (B (decide (0 ≤ r)), [.box [I n]]) := callA_keep m154 (rs := [B (decide (0 ≤ r))]) (by
    rw [f154_eq]
    simp only [c182, obs, oms, bin_add, bin_sub, bin_lss, bin_leq, bin_gtr, bin_geq, bin_eql, bin_neq, bin_eqlB, bin_neqB, un_not, cond_B, gd_B, gd_undef, gdH_B, gdH_undef, pickA_B, extractA_tup, lenA_sl, lenA_row, fldA_fp, fldA_ptr, fldA_rptr, List.getElem?_cons_zero, List.getElem?_cons_succ, decide_true, decide_false, if_true, if_false, Bool.true_eq_false, Bool.false_eq_true, Bool.not_true, Bool.not_false]
    rfl)
  have hc : code l n = if 0 ≤ r then 1 else 0 := by
    unfold code
    rw [if_neg h1, if_neg (fun h => h.elim h2 h3)]
    by_cases h0 : 0 ≤ r
    · rw [if_pos h0, if_pos (dec_iff.mpr ?_)]
      obtain ⟨q, _, q2, q3⟩ := hr.mp h0
      exact ⟨q, q2, q3⟩
    · rw [if_neg h0, if_neg fun h => ?_]
      obtain ⟨q, q2, q3⟩ := dec_iff.mp h
      exact h0 (hr.mpr ⟨q, Nat.zero_le _, q2, q3⟩)
  rw [hc]
  by_cases h0 : 0 ≤ r
  · simp only [hb, hld, h1', h2, h3, c154, h0, obs, oms, bin_add, bin_sub, bin_lss, bin_leq, bin_gtr, bin_geq, bin_eql, bin_neq, bin_eqlB, bin_neqB, un_not, cond_B, gd_B, gd_undef, gdH_B, gdH_undef, pickA_B, extractA_tup, lenA_sl, lenA_row, fldA_fp, fldA_ptr, fldA_rptr, List.getElem?_cons_zero, List.getElem?_cons_succ, decide_true, decide_false, if_true, if_false, Bool.true_eq_false, Bool.false_eq_true, Bool.not_true, Bool.not_false]
    rfl
  · simp only [hb, hld, h1', h2, h3, c154, h0, obs, oms, bin_add, bin_sub, bin_lss, bin_leq, bin_gtr, bin_geq, bin_eql, bin_neq, bin_eqlB, bin_neqB, un_not, cond_B, gd_B, gd_undef, gdH_B, gdH_undef, pickA_B, extractA_tup, lenA_sl, lenA_row, fldA_fp, fldA_ptr, fldA_rptr, List.getElem?_cons_zero, List.getElem?_cons_succ, decide_true, decide_false, if_true, if_false, Bool.true_eq_false, Bool.false_eq_true, Bool.not_true, Bool.not_false]
    rfl

theorem call83 (a b c : Int) (lo : List Nat) (H : Heap) : callA cfg O 83 [I a, I b, I c] lo H = some (B (decide (b ≤ a) && decide (a ≤ c)), H) := by
  refine callA_pure (xs := [Ia a, Ia b, Ia c]) (H' := []) (rs := [B (decide (b ≤ a) && decide (a ≤ c))]) rfl ?_ rfl
  show O.ent 83 [I a, I b, I c] [] [] = _
  rw [f83_eq]
  by_cases h : b ≤ a
  · by_cases h2 : a ≤ c <;> simp only [h, h2, Bool.and_true, Bool.and_false, obs, oms, bin_add, bin_sub, bin_lss, bin_leq, bin_gtr, bin_geq, bin_eql, bin_neq, bin_eqlB, bin_neqB, un_not, cond_B, gd_B, gd_undef, gdH_B, gdH_undef, pickA_B, extractA_tup, lenA_sl, lenA_row, fldA_fp, fldA_ptr, fldA_rptr, List.getElem?_cons_zero, List.getElem?_cons_succ, decide_true, decide_false, if_true, if_false, Bool.true_eq_false, Bool.false_eq_true, Bool.not_true, Bool.not_false] <;> rfl
  · simp only [h, Bool.false_and, obs, oms, bin_add, bin_sub, bin_lss, bin_leq, bin_gtr, bin_geq, bin_eql, bin_neq, bin_eqlB, bin_neqB, un_not, cond_B, gd_B, gd_undef, gdH_B, gdH_undef, pickA_B, extractA_tup, lenA_sl, lenA_row, fldA_fp, fldA_ptr, fldA_rptr, List.getElem?_cons_zero, List.getElem?_cons_succ, decide_true, decide_false, if_true, if_false, Bool.true_eq_false, Bool.false_eq_true, Bool.not_true, Bool.not_false]; rfl

theorem loop73 (hl : l.length < 2 ^ 40) (hn : 0 ≤ n ∧ n ≤ 8) : ∀ (c i : Nat), l.length - i = c → i ≤ l.length → L73_14 [Rw enc nl tg l, I n, I i] [] [] = some ([I (if dec (∃ q, i ≤ q ∧ q < l.length ∧ (Th l q < 0 ∨ n ≤ Th l q)) = true then 1 else 0)], []) := by
  intro c
  induction c with
  | zero =>
    intro i hc hi
    have : i = l.length := by omega
    subst this
    rw [L73_14_eq, if_neg (fun h => by obtain ⟨q, h1, h2, _⟩ := dec_iff.mp h; omega)]
    simp only [Int.lt_irrefl, obs, oms, bin_add, bin_sub, bin_lss, bin_leq, bin_gtr, bin_geq, bin_eql, bin_neq, bin_eqlB, bin_neqB, un_not, cond_B, gd_B, gd_undef, gdH_B, gdH_undef, pickA_B, extractA_tup, lenA_sl, lenA_row, fldA_fp, fldA_ptr, fldA_rptr, List.getElem?_cons_zero, List.getElem?_cons_succ, decide_true, decide_false, if_true, if_false, Bool.true_eq_false, Bool.false_eq_true, Bool.not_true, Bool.not_false]
    rfl
  | succ c ih =>
    intro i hc hi
    have hi' : i < l.length := by omega
    have hlt : (i : Int) < l.length := by omega
    have w1 : IntKind.i64.wrap (n - 1) = n - 1 := wrap_id (by omega)
    have w2 : IntKind.i64.wrap ((i : Int) + 1) = ((i + 1 : Nat) : Int) := by rw [wrap_id (by omega), nxt]
    rw [L73_14_eq]
    by_cases hb : Th l i < 0 ∨ n ≤ Th l i
    · rw [if_pos (dec_iff.mpr ⟨i, Nat.le_refl _, hi', hb⟩)]
      have hf : (decide (0 ≤ Th l i) && decide (Th l i ≤ n - 1)) = false := by
        simp only [Bool.and_eq_false_iff, decide_eq_false_iff_not]
        omega
      simp only [hlt, idxE hi', fT hi', w1, call83, hf, obs, oms, bin_add, bin_sub, bin_lss, bin_leq, bin_gtr, bin_geq, bin_eql, bin_neq, bin_eqlB, bin_neqB, un_not, cond_B, gd_B, gd_undef, gdH_B, gdH_undef, pickA_B, extractA_tup, lenA_sl, lenA_row, fldA_fp, fldA_ptr, fldA_rptr, List.getElem?_cons_zero, List.getElem?_cons_succ, decide_true, decide_false, if_true, if_false, Bool.true_eq_false, Bool.false_eq_true, Bool.not_true, Bool.not_false]
      rfl
    · have hf : (decide (0 ≤ Th l i) && decide (Th l i ≤ n - 1)) = true := by
        simp only [Bool.and_eq_true, decide_eq_true_eq]
        omega
      have := ih (i + 1) (by omega) (by omega)
      have ed : dec (∃ q, i + 1 ≤ q ∧ q < l.length ∧ (Th l q < 0 ∨ n ≤ Th l q)) = dec (∃ q, i ≤ q ∧ q < l.length ∧ (Th l q < 0 ∨ n ≤ Th l q)) := dec_congr
        ⟨fun ⟨q, h1, h2, h3⟩ => ⟨q, by omega, h2, h3⟩, fun ⟨q, h1, h2, h3⟩ => by
          by_cases e : q = i
          · rw [e] at h3; exact (hb h3).elim
          · exact ⟨q, by omega, h2, h3⟩⟩
      rw [ed] at this
      simp only [hlt, idxE hi', fT hi', w1, call83, hf, w2, obs, oms, bin_add, bin_sub, bin_lss, bin_leq, bin_gtr, bin_geq, bin_eql, bin_neq, bin_eqlB, bin_neqB, un_not, cond_B, gd_B, gd_undef, gdH_B, gdH_undef, pickA_B, extractA_tup, lenA_sl, lenA_row, fldA_fp, fldA_ptr, fldA_rptr, List.getElem?_cons_zero, List.getElem?_cons_succ, decide_true, decide_false, if_true, if_false, Bool.true_eq_false, Bool.false_eq_true, Bool.not_true, Bool.not_false]
      exact this

theorem ent73 : O.ent 73 [Rw enc nl tg l, I n] [] [] = some ([I (code l n)], []) := by
  rw [f73_eq]
  by_cases h1 : 200 < l.length
  · have h1' : (200 : Int) < l.length := by omega
    simp only [h1', code, h1, obs, oms, bin_add, bin_sub, bin_lss, bin_leq, bin_gtr, bin_geq, bin_eql, bin_neq, bin_eqlB, bin_neqB, un_not, cond_B, gd_B, gd_undef, gdH_B, gdH_undef, pickA_B, extractA_tup, lenA_sl, lenA_row, fldA_fp, fldA_ptr, fldA_rptr, List.getElem?_cons_zero, List.getElem?_cons_succ, decide_true, decide_false, if_true, if_false, Bool.true_eq_false, Bool.false_eq_true, Bool.not_true, Bool.not_false]
    rfl
  have h1' : ¬ (200 : Int) < l.length := by omega
  by_cases h2 : n < 0 ∨ 8 < n
  · have hf : (decide (0 ≤ n) && decide (n ≤ 8)) = false := by
      simp only [Bool.and_eq_false_iff, decide_eq_false_iff_not]
      omega
    simp only [h1', call83, hf, code, h1, h2, obs, oms, bin_add, bin_sub, bin_lss, bin_leq, bin_gtr, bin_geq, bin_eql, bin_neq, bin_eqlB, bin_neqB, un_not, cond_B, gd_B, gd_undef, gdH_B, gdH_undef, pickA_B, extractA_tup, lenA_sl, lenA_row, fldA_fp, fldA_ptr, fldA_rptr, List.getElem?_cons_zero, List.getElem?_cons_succ, decide_true, decide_false, if_true, if_false, Bool.true_eq_false, Bool.false_eq_true, Bool.not_true, Bool.not_false]
    rfl
  have hf : (decide (0 ≤ n) && decide (n ≤ 8)) = true := by
    simp only [Bool.and_eq_true, decide_eq_true_eq]
    omega
  have hl : l.length < 2 ^ 40 := by omega
  have := loop73 (nl := nl) (tg := tg) (n := n) hl (by omega) l.length 0 rfl (by omega)
  simp only [h1', call83, hf, code, h1, h2, obs, oms, bin_add, bin_sub, bin_lss, bin_leq, bin_gtr, bin_geq, bin_eql, bin_neq, bin_eqlB, bin_neqB, un_not, cond_B, gd_B, gd_undef, gdH_B, gdH_undef, pickA_B, extractA_tup, lenA_sl, lenA_row, fldA_fp, fldA_ptr, fldA_rptr, List.getElem?_cons_zero, List.getElem?_cons_succ, decide_true, decide_false, if_true, if_false, Bool.true_eq_false, Bool.false_eq_true, Bool.not_true, Bool.not_false]
  rw [show (0 : Int) = ((0 : Nat) : Int) from rfl, this]
  simp only [Nat.zero_le, true_and]
  rfl

/-! ### Edges -/
theorem ent72 : ∃ n2 t2 S, O.ent 72 [Rw enc nl tg l, I n] [] [] = some ([Rw encP n2 t2 S, I (code l n)], []) ∧ (code l n ≠ 0 → S = []) ∧ (code l n = 0 → S.Pairwise plt ∧ MemE l S ∧ S.length ≤ 100000) := by
  have c127 : callA cfg O 127 [Rw enc nl tg l, I n] [] [] = some (I (code l n), []) := callA_pure (xs := [.sl nl tg l.length (l.flatMap enc), Ia n]) (rs := [I (code l n)]) rfl ent127 rfl
  rw [f72_eq]
  by_cases h : code l n = 0
  · have hl : l.length ≤ 200 := by
      refine Nat.not_lt.mp fun h2 => ?_
      unfold code at h
      rw [if_pos h2] at h
      omega
    obtain ⟨n2, t2, S, e, r⟩ := ent128 (nl := nl) (tg := tg) hl
    have c128 : callA cfg O 128 [Rw enc nl tg l] [] [] = some (Rw encP n2 t2 S, []) := callA_pure (xs := [.sl nl tg l.length (l.flatMap enc)]) (rs := [Rw encP n2 t2 S]) rfl e rfl
    refine ⟨n2, t2, S, ?_, fun h2 => (h2 h).elim, fun _ => r⟩
    simp only [c127, h, c128, obs, oms, bin_add, bin_sub, bin_lss, bin_leq, bin_gtr, bin_geq, bin_eql, bin_neq, bin_eqlB, bin_neqB, un_not, cond_B, gd_B, gd_undef, gdH_B, gdH_undef, pickA_B, extractA_tup, lenA_sl, lenA_row, fldA_fp, fldA_ptr, fldA_rptr, List.getElem?_cons_zero, List.getElem?_cons_succ, decide_true, decide_false, if_true, if_false, Bool.true_eq_false, Bool.false_eq_true, Bool.not_true, Bool.not_false]
    rfl
  · refine ⟨some true, true, [], ?_, fun _ => rfl, fun h2 => (h h2).elim⟩
    simp only [c127, h, obs, oms, bin_add, bin_sub, bin_lss, bin_leq, bin_gtr, bin_geq, bin_eql, bin_neq, bin_eqlB, bin_neqB, un_not, cond_B, gd_B, gd_undef, gdH_B, gdH_undef, pickA_B, extractA_tup, lenA_sl, lenA_row, fldA_fp, fldA_ptr, fldA_rptr, List.getElem?_cons_zero, List.getElem?_cons_succ, decide_true, decide_false, if_true, if_false, Bool.true_eq_false, Bool.false_eq_true, Bool.not_true, Bool.not_false]
    rfl

/-! ### The reference's order -/
noncomputable def rw' (l : List E) (j i : Nat) : List P2 := (flt (fun q => dec (ED l q j)) i).map fun x => (x, (j : Int))
noncomputable def rf (l : List E) : Nat → List P2
  | 0 => []
  | j + 1 => rf l j ++ rw' l j j
theorem rw_succ (j i : Nat) : rw' l j (i + 1) = rw' l j i ++ if dec (ED l i j) = true then [((i : Int), (j : Int))] else [] := by
  unfold rw'
  rw [flt_succ, List.map_append]
  congr 1
  split <;> rfl
theorem mem_rw (j i : Nat) (p : P2) : p ∈ rw' l j i ↔ ∃ q : Nat, p = ((q : Int), (j : Int)) ∧ q < i ∧ ED l q j := by
  unfold rw'
  simp only [List.mem_map, mem_flt, dec_iff]
  constructor
  · rintro ⟨x, ⟨q, rfl, h⟩, rfl⟩; exact ⟨q, rfl, h⟩
  · rintro ⟨q, rfl, h⟩; exact ⟨q, ⟨q, rfl, h⟩, rfl⟩
theorem mem_rf (j : Nat) (p : P2) : p ∈ rf l j ↔ ∃ i y : Nat, p = ((i : Int), (y : Int)) ∧ y < j ∧ ED l i y := by
  induction j with
  | zero => exact ⟨fun h => (by cases h), fun ⟨_, _, _, h, _⟩ => by omega⟩
  | succ j ih =>
    rw [rf, List.mem_append, ih, mem_rw]
    constructor
    · rintro (⟨i, y, e, h1, h2⟩ | ⟨q, e, h1, h2⟩)
      · exact ⟨i, y, e, by omega, h2⟩
      · exact ⟨q, j, e, by omega, h2⟩
    · rintro ⟨i, y, e, h1, h2⟩
      by_cases hy : y = j
      · subst hy; exact .inr ⟨i, e, h2.1, h2⟩
      · exact .inl ⟨i, y, e, by omega, h2⟩
theorem rw_sorted (j : Nat) : ∀ i, (rw' l j i).Pairwise plt := by
  intro i
  induction i with
  | zero => exact .nil
  | succ i ih =>
    rw [rw_succ]
    refine List.pairwise_append.mpr ⟨ih, ?_, fun x hx y hy => ?_⟩
    · split
      · exact List.pairwise_singleton ..
      · exact .nil
    · obtain ⟨q, rfl, h1, _⟩ := (mem_rw j i x).mp hx
      split at hy
      · simp only [List.mem_singleton] at hy; subst hy; exact .inr ⟨rfl, by show (q : Int) < i; omega⟩
      · cases hy
theorem rf_sorted : ∀ j, (rf l j).Pairwise plt := by
  intro j
  induction j with
  | zero => exact .nil
  | succ j ih =>
    refine List.pairwise_append.mpr ⟨ih, rw_sorted j j, fun x hx y hy => ?_⟩
    obtain ⟨i, z, rfl, h1, _⟩ := (mem_rf j x).mp hx
    obtain ⟨q, rfl, _, _⟩ := (mem_rw j j y).mp hy
    exact .inl (by show (z : Int) < j; omega)
theorem rf_pre {j : Nat} : ∀ {m : Nat}, j ≤ m → rf l j <+: rf l m := by
  intro m h
  induction m with
  | zero => have : j = 0 := by omega
            subst this; exact List.prefix_refl _
  | succ m ih =>
    by_cases e : j = m + 1
    · subst e; exact List.prefix_refl _
    · exact (ih (by omega)).trans ⟨_, rfl⟩
theorem rw_pre (j : Nat) {i : Nat} : ∀ {m : Nat}, i ≤ m → rw' l j i <+: rw' l j m := by
  intro m h
  induction m with
  | zero => have : i = 0 := by omega
            subst this; exact List.prefix_refl _
  | succ m ih =>
    by_cases e : i = m + 1
    · subst e; exact List.prefix_refl _
    · rw [rw_succ]; exact (ih (by omega)).trans ⟨_, rfl⟩
/-- The next edge stands at its place. -/
theorem rf_at {i j m : Nat} (hj : j < m) (hi : i < j) (h : ED l i j) : (rf l m)[(rf l j ++ rw' l j i).length]? = some ((i : Int), (j : Int)) := by
  obtain ⟨t, ht⟩ := rf_pre (l := l) (show j + 1 ≤ m from hj)
  obtain ⟨t2, ht2⟩ := rw_pre (l := l) j (show i + 1 ≤ j from hi)
  rw [← ht, rf, ← ht2, rw_succ, if_pos (dec_iff.mpr h)]
  simp [List.getElem?_append]
end
end Cl
end Go.Proofs.Ytkhbbjfdbbnojaa
