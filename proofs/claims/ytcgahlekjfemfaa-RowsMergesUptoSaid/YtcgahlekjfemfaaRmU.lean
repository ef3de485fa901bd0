import Derived.Test.YtcgahlekjfemfaaRmT
set_option linter.unusedVariables false
set_option linter.unusedSimpArgs false
namespace Go.Proofs.Ytcgahlekjfemfaa
open Go Go.AM
namespace Rm

theorem c64 (s : Nat) (hs : s < 2 ^ 62) : conv (.int .u64) (I s) = some (.p (.v (.int .u64 s))) := by
  show some (AV.p (.v (.int .u64 (IntKind.u64.wrap s)))) = _
  have e1 : IntKind.u64.wrap (s : Int) = s := by
    simp only [IntKind.wrap, IntKind.bits, IntKind.signed]; simp; omega
  rw [e1]
theorem sh1 (s : Nat) : bin .shr .int (.p (.v (.int .u64 s))) (.p (.v (.int .u64 1))) = some (.p (.v (.int .u64 (s / 2 : Nat)))) := by
  show (intOp .shr .u64 s 1).map (fun v => AV.p (.v v)) = _
  have e2 : intOp .shr .u64 (s : Int) 1 = some (.int .u64 (s / 2 : Nat)) := by
    simp [intOp]
    rw [show min 1 IntKind.u64.bits = 1 from rfl, Int.fdiv_eq_ediv_of_nonneg _ (by omega)]
    rfl
  rw [e2]
  rfl
theorem c64' (s : Nat) (hs : s < 2 ^ 62) : conv (.int .i64) (.p (.v (.int .u64 s))) = some (I s) := by
  show some (AV.p (.v (.int .i64 (IntKind.i64.wrap s)))) = _
  rw [wrap_id (by omega)]

section
variable {G : Heap} {id g : Nat} {lo : List Nat}
def K (es : List E) (k : Nat) : Int := key (es.getD k default)
theorem K_eq {es : List E} {k : Nat} (h : k < es.length) : key es[k] = K es k := by unfold K; simp [List.getD, h]

theorem swp_rev {es : List E} {i j : Nat} (hi : i < es.length) (hj : j < es.length) : (es.set j es[i]).set i es[j] = swp es i j := by
  rw [swp_eq hi hj]
  by_cases h : i = j
  · subst h; rfl
  · rw [List.set_comm _ _ (fun e => h e.symm)]

/-! ### One element into a list behind it, or ahead of it -/
theorem shiftR (hG : id < G.length) {x : E} {S : List E} {N i : Nat} (hl : N < 2 ^ 40) : ∀ (B P : List E) (k : Nat), k = P.length → i = P.length + 1 + B.length → N = (P ++ x :: (B ++ S)).length →
    L103_20 [R id g N, I i, I k] lo (Hp G id g (P ++ x :: (B ++ S))) = some ([], Hp G id g (P ++ B ++ x :: S)) := by
  intro B
  induction B with
  | nil =>
    intro P k hk hi hN
    rw [L103_20_eq]
    simp only [obs, oms, bin_add, bin_sub, bin_lss, bin_leq, bin_gtr, bin_geq, bin_eql, bin_neq, bin_eqlB, bin_neqB, un_not, cond_B, gd_B, gd_undef, gdH_B, gdH_undef, pickA_B, extractA_tup, lenA_sl, lenA_row, fldA_fp, fldA_ptr, fldA_rptr, List.getElem?_cons_zero, List.getElem?_cons_succ, decide_true, decide_false, if_true, if_false, Bool.true_eq_false, Bool.false_eq_true, Bool.not_true, Bool.not_false]
    have hN' : N = P.length + 1 + S.length := by rw [hN]; simp; omega
    simp only [List.length_nil, Nat.add_zero] at hi
    rw [wrap_id (by omega), if_neg (by simp; omega)]
    simp [leave]
  | cons y B ih =>
    intro P k hk hi hN
    have hN' : N = P.length + 1 + (B.length + 1) + S.length := by rw [hN]; simp; omega
    simp only [List.length_cons] at hi
    have e := ih (P ++ [y]) (k + 1) (by simp [hk]) (by simp; omega) (by rw [hN]; simp)
    have hes : P ++ x :: (y :: B ++ S) = P ++ x :: ([] ++ y :: (B ++ S)) := by simp
    have hsw := swp_at P x y [] (B ++ S)
    rw [← hes] at hsw
    have h1 : k < (P ++ x :: (y :: B ++ S)).length := by rw [← hN]; omega
    have h2 : k + 1 < (P ++ x :: (y :: B ++ S)).length := by rw [← hN]; omega
    generalize P ++ x :: (y :: B ++ S) = es at *
    rw [show P.length + 1 + ([] : List E).length = k + 1 by simp [hk], ← hk, swp_eq h1 h2] at hsw
    rw [L103_20_eq]
    simp only [obs, oms, bin_add, bin_sub, bin_lss, bin_leq, bin_gtr, bin_geq, bin_eql, bin_neq, bin_eqlB, bin_neqB, un_not, cond_B, gd_B, gd_undef, gdH_B, gdH_undef, pickA_B, extractA_tup, lenA_sl, lenA_row, fldA_fp, fldA_ptr, fldA_rptr, List.getElem?_cons_zero, List.getElem?_cons_succ, decide_true, decide_false, if_true, if_false, Bool.true_eq_false, Bool.false_eq_true, Bool.not_true, Bool.not_false]
    rw [wrap_id (by omega), if_pos (by simp; omega), wrap_id (by omega), nxt]
    have h1' : k < N := by omega
    have h2' : k + 1 < N := by omega
    simp only [rix h1', rix h2', obs, rld hG h1, rld hG h2, rst hG _ h1, oms]
    rw [rst hG (es := es.set k es[k + 1]) _ (by simpa using h2)]
    simp only [obs, oms]
    rw [hsw]
    rw [show P ++ y :: ([] ++ x :: (B ++ S)) = (P ++ [y]) ++ x :: (B ++ S) by simp, e]
    simp

theorem shiftL (hG : id < G.length) {y : E} {P S : List E} {N i : Nat} (hl : N < 2 ^ 40) : ∀ (c : Nat) (A T : List E) (k : Nat), A.length = c → i = P.length → k = P.length + A.length → N = (P ++ A ++ y :: (T ++ S)).length →
    L103_44 [R id g N, I i, I k] lo (Hp G id g (P ++ A ++ y :: (T ++ S))) = some ([], Hp G id g (P ++ y :: (A ++ T ++ S))) := by
  intro c
  induction c with
  | zero =>
    intro A T k hA hi hk hN
    have : A = [] := List.length_eq_zero_iff.mp hA
    subst this
    rw [L103_44_eq]
    simp only [obs, oms, bin_add, bin_sub, bin_lss, bin_leq, bin_gtr, bin_geq, bin_eql, bin_neq, bin_eqlB, bin_neqB, un_not, cond_B, gd_B, gd_undef, gdH_B, gdH_undef, pickA_B, extractA_tup, lenA_sl, lenA_row, fldA_fp, fldA_ptr, fldA_rptr, List.getElem?_cons_zero, List.getElem?_cons_succ, decide_true, decide_false, if_true, if_false, Bool.true_eq_false, Bool.false_eq_true, Bool.not_true, Bool.not_false]
    rw [if_neg (by simp at hk ⊢; omega)]
    simp [leave]
  | succ c ih =>
    intro A T k hA hi hk hN
    obtain ⟨A', z, rfl⟩ : ∃ A' z, A = A' ++ [z] := ⟨A.dropLast, A.getLast (by intro e; rw [e] at hA; simp at hA), (List.dropLast_concat_getLast _).symm⟩
    simp only [List.length_append, List.length_singleton] at hA hk
    have e := ih A' (z :: T) (k - 1) (by omega) hi (by omega) (by rw [hN]; simp)
    have hN' : N = P.length + A'.length + 1 + 1 + T.length + S.length := by rw [hN]; simp; omega
    have hes : P ++ (A' ++ [z]) ++ y :: (T ++ S) = (P ++ A') ++ z :: ([] ++ y :: (T ++ S)) := by simp
    have hsw := swp_at (P ++ A') z y [] (T ++ S)
    rw [← hes] at hsw
    have hlen : (P ++ (A' ++ [z]) ++ y :: (T ++ S)).length = N := hN.symm
    generalize P ++ (A' ++ [z]) ++ y :: (T ++ S) = es at *
    have h1 : k - 1 < es.length := by omega
    have h2 : k < es.length := by omega
    rw [show (P ++ A').length + 1 + ([] : List E).length = k by simp; omega, show (P ++ A').length = k - 1 by simp; omega, ← swp_rev h1 h2] at hsw
    rw [L103_44_eq]
    simp only [obs, oms, bin_add, bin_sub, bin_lss, bin_leq, bin_gtr, bin_geq, bin_eql, bin_neq, bin_eqlB, bin_neqB, un_not, cond_B, gd_B, gd_undef, gdH_B, gdH_undef, pickA_B, extractA_tup, lenA_sl, lenA_row, fldA_fp, fldA_ptr, fldA_rptr, List.getElem?_cons_zero, List.getElem?_cons_succ, decide_true, decide_false, if_true, if_false, Bool.true_eq_false, Bool.false_eq_true, Bool.not_true, Bool.not_false]
    rw [if_pos (by simp; omega), wrap_id (by omega), show (k : Int) - 1 = ((k - 1 : Nat) : Int) by omega]
    have h1' : k - 1 < N := by omega
    have h2' : k < N := by omega
    simp only [rix h1', rix h2', obs, rld hG h1, rld hG h2, rst hG _ h2, oms]
    rw [rst hG (es := es.set k es[k - 1]) _ (by simpa using h1)]
    simp only [obs, oms]
    rw [hsw]
    rw [show (P ++ A') ++ y :: ([] ++ z :: (T ++ S)) = P ++ A' ++ y :: ((z :: T) ++ S) by simp, e]
    simp

/-! ### Searching -/
theorem find8 (hG : id < G.length) {es : List E} {N a m b : Nat} (hN : N = es.length) (hl : N < 2 ^ 40) (ha : a < N) (hb : b ≤ N) (hs : ∀ i j, m ≤ i → i < j → j < b → K es i ≤ K es j) : ∀ (c i j : Nat), j - i = c → m ≤ i → i ≤ j → j ≤ b → (∀ k, m ≤ k → k < i → K es k < K es a) → (∀ k, j ≤ k → k < b → ¬ K es k < K es a) →
    ∃ q, m ≤ q ∧ q ≤ b ∧ (∀ k, m ≤ k → k < q → K es k < K es a) ∧ (∀ k, q ≤ k → k < b → ¬ K es k < K es a) ∧ L103_8 [R id g N, I a, cl, I i, I j] lo (Hp G id g es) = L103_20 [R id g N, I q, I a] lo (Hp G id g es) := by
  intro c
  induction c using Nat.strongRecOn with
  | ind c ih =>
    intro i j hc hi hij hj h1 h2
    by_cases h : i = j
    · subst h
      refine ⟨i, hi, hj, h1, h2, ?_⟩
      rw [L103_8_eq]
      simp only [obs, oms, bin_add, bin_sub, bin_lss, bin_leq, bin_gtr, bin_geq, bin_eql, bin_neq, bin_eqlB, bin_neqB, un_not, cond_B, gd_B, gd_undef, gdH_B, gdH_undef, pickA_B, extractA_tup, lenA_sl, lenA_row, fldA_fp, fldA_ptr, fldA_rptr, List.getElem?_cons_zero, List.getElem?_cons_succ, decide_true, decide_false, if_true, if_false, Bool.true_eq_false, Bool.false_eq_true, Bool.not_true, Bool.not_false]
      rw [if_neg (by simp)]
    · have hlt : i < j := by omega
      have hh1 : i ≤ (i + j) / 2 := by omega
      have hh2 : (i + j) / 2 < j := by omega
      have hhN : (i + j) / 2 < es.length := by omega
      have key : L103_8 [R id g N, I a, cl, I i, I j] lo (Hp G id g es) = if K es ((i + j) / 2) < K es a then L103_8 [R id g N, I a, cl, I ((i + j) / 2 + 1 : Nat), I j] lo (Hp G id g es) else L103_8 [R id g N, I a, cl, I i, I ((i + j) / 2 : Nat)] lo (Hp G id g es) := by
        rw [L103_8_eq]
        simp only [obs, oms, bin_add, bin_sub, bin_lss, bin_leq, bin_gtr, bin_geq, bin_eql, bin_neq, bin_eqlB, bin_neqB, un_not, cond_B, gd_B, gd_undef, gdH_B, gdH_undef, pickA_B, extractA_tup, lenA_sl, lenA_row, fldA_fp, fldA_ptr, fldA_rptr, List.getElem?_cons_zero, List.getElem?_cons_succ, decide_true, decide_false, if_true, if_false, Bool.true_eq_false, Bool.false_eq_true, Bool.not_true, Bool.not_false]
        rw [if_pos (by simp; omega), wrap_id (by omega), show (i : Int) + j = ((i + j : Nat) : Int) by omega]
        have hha : a < es.length := by omega
        simp only [c64 (i + j) (by omega), obs, sh1, c64' ((i + j) / 2) (by omega), rix (show (i + j) / 2 < N by omega), rix ha, rld hG hhN, rld hG hha, callCmp, bin_lss, cmpK_neg, K_eq hhN, K_eq hha, cond_B, bin_add]
        rw [wrap_id (by omega), nxt]
        simp only [decide_eq_true_eq]
      by_cases hk : K es ((i + j) / 2) < K es a
      · rw [if_pos hk] at key
        obtain ⟨q, q1, q2, q3, q4, q5⟩ := ih (j - ((i + j) / 2 + 1)) (by omega) ((i + j) / 2 + 1) j rfl (by omega) (by omega) hj (fun k k1 k2 => by
          by_cases e : k = (i + j) / 2
          · subst e; exact hk
          · have := hs k ((i + j) / 2) k1 (by omega) (by omega); omega) h2
        exact ⟨q, q1, q2, q3, q4, by rw [key, q5]⟩
      · rw [if_neg hk] at key
        obtain ⟨q, q1, q2, q3, q4, q5⟩ := ih ((i + j) / 2 - i) (by omega) i ((i + j) / 2) rfl hi hh1 (by omega) h1 (fun k k1 k2 => by
          by_cases e : k = (i + j) / 2
          · subst e; exact hk
          · have := hs ((i + j) / 2) k (by omega) (by omega) k2; omega)
        exact ⟨q, q1, q2, q3, q4, by rw [key, q5]⟩

theorem find32 (hG : id < G.length) {es : List E} {N a m : Nat} (hN : N = es.length) (hl : N < 2 ^ 40) (hm : m < N) (hs : ∀ i j, a ≤ i → i < j → j < m → K es i ≤ K es j) : ∀ (c i j : Nat), j - i = c → a ≤ i → i ≤ j → j ≤ m → (∀ k, a ≤ k → k < i → ¬ K es m < K es k) → (∀ k, j ≤ k → k < m → K es m < K es k) →
    ∃ q, a ≤ q ∧ q ≤ m ∧ (∀ k, a ≤ k → k < q → ¬ K es m < K es k) ∧ (∀ k, q ≤ k → k < m → K es m < K es k) ∧ L103_32 [R id g N, I m, cl, I i, I j] lo (Hp G id g es) = L103_44 [R id g N, I q, I m] lo (Hp G id g es) := by
  intro c
  induction c using Nat.strongRecOn with
  | ind c ih =>
    intro i j hc hi hij hj h1 h2
    by_cases h : i = j
    · subst h
      refine ⟨i, hi, hj, h1, h2, ?_⟩
      rw [L103_32_eq]
      simp only [obs, oms, bin_add, bin_sub, bin_lss, bin_leq, bin_gtr, bin_geq, bin_eql, bin_neq, bin_eqlB, bin_neqB, un_not, cond_B, gd_B, gd_undef, gdH_B, gdH_undef, pickA_B, extractA_tup, lenA_sl, lenA_row, fldA_fp, fldA_ptr, fldA_rptr, List.getElem?_cons_zero, List.getElem?_cons_succ, decide_true, decide_false, if_true, if_false, Bool.true_eq_false, Bool.false_eq_true, Bool.not_true, Bool.not_false]
      rw [if_neg (by simp)]
    · have hlt : i < j := by omega
      have hh1 : i ≤ (i + j) / 2 := by omega
      have hh2 : (i + j) / 2 < j := by omega
      have hhN : (i + j) / 2 < es.length := by omega
      have key : L103_32 [R id g N, I m, cl, I i, I j] lo (Hp G id g es) = if K es m < K es ((i + j) / 2) then L103_32 [R id g N, I m, cl, I i, I ((i + j) / 2 : Nat)] lo (Hp G id g es) else L103_32 [R id g N, I m, cl, I ((i + j) / 2 + 1 : Nat), I j] lo (Hp G id g es) := by
        rw [L103_32_eq]
        simp only [obs, oms, bin_add, bin_sub, bin_lss, bin_leq, bin_gtr, bin_geq, bin_eql, bin_neq, bin_eqlB, bin_neqB, un_not, cond_B, gd_B, gd_undef, gdH_B, gdH_undef, pickA_B, extractA_tup, lenA_sl, lenA_row, fldA_fp, fldA_ptr, fldA_rptr, List.getElem?_cons_zero, List.getElem?_cons_succ, decide_true, decide_false, if_true, if_false, Bool.true_eq_false, Bool.false_eq_true, Bool.not_true, Bool.not_false]
        rw [if_pos (by simp; omega), wrap_id (by omega), show (i : Int) + j = ((i + j : Nat) : Int) by omega]
        have hhm : m < es.length := by omega
        simp only [c64 (i + j) (by omega), obs, sh1, c64' ((i + j) / 2) (by omega), rix (show (i + j) / 2 < N by omega), rix hm, rld hG hhN, rld hG hhm, callCmp, bin_lss, cmpK_neg, K_eq hhN, K_eq hhm, un_not, cond_B, bin_add]
        rw [wrap_id (by omega), nxt]
        by_cases hk : K es m < K es ((i + j) / 2) <;> simp [hk]
      by_cases hk : K es m < K es ((i + j) / 2)
      · rw [if_pos hk] at key
        obtain ⟨q, q1, q2, q3, q4, q5⟩ := ih ((i + j) / 2 - i) (by omega) i ((i + j) / 2) rfl hi hh1 (by omega) h1 (fun k k1 k2 => by
          by_cases e : k = (i + j) / 2
          · subst e; exact hk
          · have := hs ((i + j) / 2) k (by omega) (by omega) k2; omega)
        exact ⟨q, q1, q2, q3, q4, by rw [key, q5]⟩
      · rw [if_neg hk] at key
        obtain ⟨q, q1, q2, q3, q4, q5⟩ := ih (j - ((i + j) / 2 + 1)) (by omega) ((i + j) / 2 + 1) j rfl (by omega) (by omega) hj (fun k k1 k2 => by
          by_cases e : k = (i + j) / 2
          · subst e; exact hk
          · have := hs k ((i + j) / 2) k1 (by omega) (by omega); omega) h2
        exact ⟨q, q1, q2, q3, q4, by rw [key, q5]⟩
end
end Rm
end Go.Proofs.Ytcgahlekjfemfaa
