import Derived.Test.YtcgahlekjfemfaaRmU
set_option linter.unusedVariables false
set_option linter.unusedSimpArgs false
namespace Go.Proofs.Ytcgahlekjfemfaa
open Go Go.AM
namespace Rm
section
variable {G : Heap} {id g : Nat} {lo : List Nat}

theorem find68 (hG : id < G.length) {es : List E} {N a m b mid n p lo0 hi0 : Nat} (hN : N = es.length) (hl : N < 2 ^ 40) (hb : b ≤ N) (hp : p < 2 ^ 41)
    (hin : ∀ c, lo0 ≤ c → c < hi0 → a ≤ c ∧ c < m ∧ m + c ≤ p ∧ p < b + c) (hA : ∀ i j, a ≤ i → i < j → j < m → K es i ≤ K es j) (hB : ∀ i j, m ≤ i → i < j → j < b → K es i ≤ K es j) (hmb : m ≤ b) (hh : hi0 < 2 ^ 40) :
    ∀ (cnt s r : Nat), r - s = cnt → lo0 ≤ s → s ≤ r → r ≤ hi0 → (∀ c, lo0 ≤ c → c < s → ¬ K es (p - c) < K es c) → (∀ c, r ≤ c → c < hi0 → K es (p - c) < K es c) →
    ∃ q, lo0 ≤ q ∧ q ≤ hi0 ∧ (∀ c, lo0 ≤ c → c < q → ¬ K es (p - c) < K es c) ∧ (∀ c, q ≤ c → c < hi0 → K es (p - c) < K es c) ∧
      L103_68 [R id g N, I a, I m, I b, cl, I mid, I n, I s, I r, I p] lo (Hp G id g es) = L103_68 [R id g N, I a, I m, I b, cl, I mid, I n, I q, I q, I p] lo (Hp G id g es) := by
  intro cnt
  induction cnt using Nat.strongRecOn with
  | ind cnt ih =>
    intro s r hc hs hsr hr h1 h2
    by_cases h : s = r
    · subst h
      exact ⟨s, hs, hr, h1, h2, rfl⟩
    · have hh1 : s ≤ (s + r) / 2 := by omega
      have hh2 : (s + r) / 2 < r := by omega
      obtain ⟨i1, i2, i3, i4⟩ := hin ((s + r) / 2) (by omega) (by omega)
      have hx : p - (s + r) / 2 < es.length := by omega
      have hy : (s + r) / 2 < es.length := by omega
      have key : L103_68 [R id g N, I a, I m, I b, cl, I mid, I n, I s, I r, I p] lo (Hp G id g es) = if K es (p - (s + r) / 2) < K es ((s + r) / 2) then L103_68 [R id g N, I a, I m, I b, cl, I mid, I n, I s, I ((s + r) / 2 : Nat), I p] lo (Hp G id g es) else L103_68 [R id g N, I a, I m, I b, cl, I mid, I n, I ((s + r) / 2 + 1 : Nat), I r, I p] lo (Hp G id g es) := by
        rw [L103_68_eq]
        simp only [obs, oms, bin_add, bin_sub, bin_lss, bin_leq, bin_gtr, bin_geq, bin_eql, bin_neq, bin_eqlB, bin_neqB, un_not, cond_B, gd_B, gd_undef, gdH_B, gdH_undef, pickA_B, extractA_tup, lenA_sl, lenA_row, fldA_fp, fldA_ptr, fldA_rptr, List.getElem?_cons_zero, List.getElem?_cons_succ, decide_true, decide_false, if_true, if_false, Bool.true_eq_false, Bool.false_eq_true, Bool.not_true, Bool.not_false]
        rw [if_pos (by simp; omega), wrap_id (by omega), show (s : Int) + r = ((s + r : Nat) : Int) by omega]
        simp only [c64 (s + r) (by omega), obs, sh1, c64' ((s + r) / 2) (by omega), bin_sub]
        rw [wrap_id (by omega), show (p : Int) - (((s + r) / 2 : Nat) : Int) = ((p - (s + r) / 2 : Nat) : Int) by omega]
        simp only [rix (show p - (s + r) / 2 < N by omega), rix (show (s + r) / 2 < N by omega), obs, rld hG hx, rld hG hy, callCmp, bin_lss, cmpK_neg, K_eq hx, K_eq hy, un_not, cond_B, bin_add]
        rw [wrap_id (by omega), nxt]
        by_cases hk : K es (p - (s + r) / 2) < K es ((s + r) / 2) <;> simp [hk]
      by_cases hk : K es (p - (s + r) / 2) < K es ((s + r) / 2)
      · rw [if_pos hk] at key
        obtain ⟨q, q1, q2, q3, q4, q5⟩ := ih ((s + r) / 2 - s) (by omega) s ((s + r) / 2) rfl hs hh1 (by omega) h1 (fun c k1 k2 => by
          by_cases e : c = (s + r) / 2
          · subst e; exact hk
          · obtain ⟨j1, j2, j3, j4⟩ := hin c (by omega) k2
            have := hA ((s + r) / 2) c (by omega) (by omega) j2
            have := hB (p - c) (p - (s + r) / 2) (by omega) (by omega) (by omega)
            omega)
        exact ⟨q, q1, q2, q3, q4, by rw [key, q5]⟩
      · rw [if_neg hk] at key
        obtain ⟨q, q1, q2, q3, q4, q5⟩ := ih (r - ((s + r) / 2 + 1)) (by omega) ((s + r) / 2 + 1) r rfl (by omega) (by omega) hr (fun c k1 k2 => by
          by_cases e : c = (s + r) / 2
          · subst e; exact hk
          · obtain ⟨j1, j2, j3, j4⟩ := hin c k1 (by omega)
            have := hA c ((s + r) / 2) (by omega) (by omega) i2
            have := hB (p - (s + r) / 2) (p - c) (by omega) (by omega) (by omega)
            omega) h2
        exact ⟨q, q1, q2, q3, q4, by rw [key, q5]⟩

theorem K_A {P A S : List E} {i : Nat} (h : i < A.length) : K (P ++ A ++ S) (P.length + i) = key A[i] := by
  unfold K
  rw [List.getD_eq_getElem?_getD, List.append_assoc, List.getElem?_append_right (by omega), show P.length + i - P.length = i by omega, List.getElem?_append_left h, List.getElem?_eq_getElem h]
  rfl
theorem K_B {P A B Q : List E} {i : Nat} (h : i < B.length) : K (P ++ A ++ B ++ Q) (P.length + A.length + i) = key B[i] := by
  have := K_A (P := P ++ A) (A := B) (S := Q) h
  rwa [List.length_append] at this
theorem sd_get {A : List E} (h : Sd A) {i j : Nat} (hij : i < j) (hj : j < A.length) : key (A[i]'(by omega)) ≤ key A[j] := List.pairwise_iff_getElem.mp h i j (by omega) hj hij

set_option maxHeartbeats 2000000 in
theorem call103 (hG : id < G.length) : ∀ (cnt : Nat) (P A B Q : List E) (N a m b : Nat), A.length + B.length = cnt → 0 < A.length → 0 < B.length → Sd A → Sd B → N = (P ++ A ++ B ++ Q).length → N < 2 ^ 40 → a = P.length → m = P.length + A.length → b = P.length + A.length + B.length →
    callA cfg O 103 [R id g N, I a, I m, I b, cl] lo (Hp G id g (P ++ A ++ B ++ Q)) = some (.tup [], Hp G id g (P ++ mg A B ++ Q)) := by
  intro cnt
  induction cnt using Nat.strongRecOn with
  | ind cnt ih =>
    intro P A B Q N a m b hc hA0 hB0 hsA hsB hN hl ha hm hb
    have hlen : N = P.length + A.length + B.length + Q.length := by rw [hN]; simp <;> omega
    have KA : ∀ i (h : i < A.length), K (P ++ A ++ B ++ Q) (a + i) = key A[i] := fun i h => by
      have := K_A (P := P) (A := A) (S := B ++ Q) h
      rw [ha]; simpa using this
    have KB : ∀ i (h : i < B.length), K (P ++ A ++ B ++ Q) (m + i) = key B[i] := fun i h => by rw [hm]; exact K_B h
    have sA : ∀ i j, a ≤ i → i < j → j < m → K (P ++ A ++ B ++ Q) i ≤ K (P ++ A ++ B ++ Q) j := fun i j h1 h2 h3 => by
      have e1 := KA (i - a) (by omega)
      have e2 := KA (j - a) (by omega)
      rw [show a + (i - a) = i by omega] at e1
      rw [show a + (j - a) = j by omega] at e2
      rw [e1, e2]
      exact sd_get hsA (by omega) (by omega)
    have sB : ∀ i j, m ≤ i → i < j → j < b → K (P ++ A ++ B ++ Q) i ≤ K (P ++ A ++ B ++ Q) j := fun i j h1 h2 h3 => by
      have e1 := KB (i - m) (by omega)
      have e2 := KB (j - m) (by omega)
      rw [show m + (i - m) = i by omega] at e1
      rw [show m + (j - m) = j by omega] at e2
      rw [e1, e2]
      exact sd_get hsB (by omega) (by omega)
    refine callA_keep (rs := []) rfl ?_
    rw [f103_eq]
    simp only [obs, oms, bin_add, bin_sub, bin_lss, bin_leq, bin_gtr, bin_geq, bin_eql, bin_neq, bin_eqlB, bin_neqB, un_not, cond_B, gd_B, gd_undef, gdH_B, gdH_undef, pickA_B, extractA_tup, lenA_sl, lenA_row, fldA_fp, fldA_ptr, fldA_rptr, List.getElem?_cons_zero, List.getElem?_cons_succ, decide_true, decide_false, if_true, if_false, Bool.true_eq_false, Bool.false_eq_true, Bool.not_true, Bool.not_false]
    rw [show IntKind.i64.wrap ((m : Int) - a) = (A.length : Nat) by rw [wrap_id (by omega)]; omega]
    by_cases hA1 : A.length = 1
    · have hA1' : ((A.length : Nat) : Int) = 1 := by omega
      simp only [hA1', obs, oms, bin_add, bin_sub, bin_lss, bin_leq, bin_gtr, bin_geq, bin_eql, bin_neq, bin_eqlB, bin_neqB, un_not, cond_B, gd_B, gd_undef, gdH_B, gdH_undef, pickA_B, extractA_tup, lenA_sl, lenA_row, fldA_fp, fldA_ptr, fldA_rptr, List.getElem?_cons_zero, List.getElem?_cons_succ, decide_true, decide_false, if_true, if_false, Bool.true_eq_false, Bool.false_eq_true, Bool.not_true, Bool.not_false]
      obtain ⟨x, rfl⟩ := List.length_eq_one_iff.mp hA1
      obtain ⟨q, q1, q2, q3, q4, q5⟩ := find8 (lo := lo) (g := g) hG (es := P ++ [x] ++ B ++ Q) (a := a) (m := m) (b := b) hN hl (by omega) (by omega) sB _ m b rfl (Nat.le_refl _) (by omega) (Nat.le_refl _) (fun k h1 h2 => by omega) (fun k h1 h2 => by omega)
      have hx : K (P ++ [x] ++ B ++ Q) a = key x := by simpa using KA 0 (by omega)
      have hB : B = B.take (q - m) ++ B.drop (q - m) := (List.take_append_drop _ _).symm
      have l1 : (B.take (q - m)).length = q - m := by rw [List.length_take]; omega
      have e := shiftR (lo := lo) (g := g) hG (x := x) (S := B.drop (q - m) ++ Q) (N := N) (i := q) hl (B.take (q - m)) P a ha (by rw [l1]; simp at hm; omega) (by rw [hN]; rw [← List.append_assoc, List.take_append_drop]; simp)
      have hes : P ++ [x] ++ B ++ Q = P ++ x :: (B.take (q - m) ++ (B.drop (q - m) ++ Q)) := by rw [← List.append_assoc (B.take _), List.take_append_drop]; simp
      rw [q5, hes, e]
      have b1 : ∀ y ∈ B.take (q - m), ∀ z ∈ [x], key y < key z := fun y hy z hz => by
        obtain ⟨i, hi, rfl⟩ := List.getElem_of_mem hy
        rw [List.mem_singleton.mp hz, List.getElem_take]
        have h1 := q3 (m + i) (by omega) (by omega)
        rw [KB i (by omega), hx] at h1
        exact h1
      have b2 : ∀ z ∈ [x], ∀ y ∈ B.drop (q - m), key z ≤ key y := fun z hz y hy => by
        obtain ⟨i, hi, rfl⟩ := List.getElem_of_mem hy
        rw [List.mem_singleton.mp hz, List.getElem_drop]
        rw [List.length_drop] at hi
        have h1 := q4 (m + (q - m + i)) (by omega) (by omega)
        rw [KB (q - m + i) (by omega), hx] at h1
        omega
      have hmg : mg [x] B = B.take (q - m) ++ x :: B.drop (q - m) := by
        conv => lhs; rw [hB]
        rw [mg_right b1]
        have := mg_left (A1 := [x]) (A2 := []) (B := B.drop (q - m)) b2
        simp only [List.append_nil, mg_nil_left] at this
        rw [this]
        rfl
      rw [hmg]
      simp
    · have hA1' : ¬ ((A.length : Nat) : Int) = 1 := by omega
      simp only [hA1', obs, oms, bin_add, bin_sub, bin_lss, bin_leq, bin_gtr, bin_geq, bin_eql, bin_neq, bin_eqlB, bin_neqB, un_not, cond_B, gd_B, gd_undef, gdH_B, gdH_undef, pickA_B, extractA_tup, lenA_sl, lenA_row, fldA_fp, fldA_ptr, fldA_rptr, List.getElem?_cons_zero, List.getElem?_cons_succ, decide_true, decide_false, if_true, if_false, Bool.true_eq_false, Bool.false_eq_true, Bool.not_true, Bool.not_false]
      rw [show IntKind.i64.wrap ((b : Int) - m) = (B.length : Nat) by rw [wrap_id (by omega)]; omega]
      by_cases hB1 : B.length = 1
      · have hB1' : ((B.length : Nat) : Int) = 1 := by omega
        simp only [hB1', obs, oms, bin_add, bin_sub, bin_lss, bin_leq, bin_gtr, bin_geq, bin_eql, bin_neq, bin_eqlB, bin_neqB, un_not, cond_B, gd_B, gd_undef, gdH_B, gdH_undef, pickA_B, extractA_tup, lenA_sl, lenA_row, fldA_fp, fldA_ptr, fldA_rptr, List.getElem?_cons_zero, List.getElem?_cons_succ, decide_true, decide_false, if_true, if_false, Bool.true_eq_false, Bool.false_eq_true, Bool.not_true, Bool.not_false]
        obtain ⟨y, rfl⟩ := List.length_eq_one_iff.mp hB1
        obtain ⟨q, q1, q2, q3, q4, q5⟩ := find32 (lo := lo) (g := g) hG (es := P ++ A ++ [y] ++ Q) (a := a) (m := m) hN hl (by omega) sA _ a m rfl (Nat.le_refl _) (by omega) (Nat.le_refl _) (fun k h1 h2 => by omega) (fun k h1 h2 => by omega)
        have hy : K (P ++ A ++ [y] ++ Q) m = key y := by simpa using KB 0 (by omega)
        have hA : A = A.take (q - a) ++ A.drop (q - a) := (List.take_append_drop _ _).symm
        have l1 : (A.take (q - a)).length = q - a := by rw [List.length_take]; omega
        have l2 : (A.drop (q - a)).length = A.length - (q - a) := List.length_drop
        have hes : P ++ A ++ [y] ++ Q = (P ++ A.take (q - a)) ++ A.drop (q - a) ++ y :: ([] ++ Q) := by simp only [List.append_assoc]; rw [← List.append_assoc (A.take _), List.take_append_drop]; simp
        have e := shiftL (lo := lo) (g := g) hG (y := y) (P := P ++ A.take (q - a)) (S := Q) (N := N) (i := q) hl _ (A.drop (q - a)) [] m rfl (by rw [List.length_append]; omega) (by rw [List.length_append]; omega) (by rw [hN, hes])
        rw [q5, hes, e]
        have b1 : ∀ x ∈ A.take (q - a), ∀ z ∈ [y], key x ≤ key z := fun x hx z hz => by
          obtain ⟨i, hi, rfl⟩ := List.getElem_of_mem hx
          rw [List.mem_singleton.mp hz, List.getElem_take]
          have h1 := q3 (a + i) (by omega) (by omega)
          rw [KA i (by omega), hy] at h1
          omega
        have b2 : ∀ z ∈ [y], ∀ x ∈ A.drop (q - a), key z < key x := fun z hz x hx => by
          obtain ⟨i, hi, rfl⟩ := List.getElem_of_mem hx
          rw [List.mem_singleton.mp hz, List.getElem_drop]
          have h1 := q4 (a + (q - a + i)) (by omega) (by omega)
          rw [KA (q - a + i) (by omega), hy] at h1
          exact h1
        have hmg : mg A [y] = A.take (q - a) ++ y :: A.drop (q - a) := by
          conv => lhs; rw [hA]
          rw [mg_left b1]
          have := mg_right (A := A.drop (q - a)) (B1 := [y]) (B2 := []) b2
          simp only [List.append_nil, mg_nil_right] at this
          rw [this]
          rfl
        rw [hmg]
        simp
      · have hB1' : ¬ ((B.length : Nat) : Int) = 1 := by omega
        simp only [hB1', obs, oms, bin_add, bin_sub, bin_lss, bin_leq, bin_gtr, bin_geq, bin_eql, bin_neq, bin_eqlB, bin_neqB, un_not, cond_B, gd_B, gd_undef, gdH_B, gdH_undef, pickA_B, extractA_tup, lenA_sl, lenA_row, fldA_fp, fldA_ptr, fldA_rptr, List.getElem?_cons_zero, List.getElem?_cons_succ, decide_true, decide_false, if_true, if_false, Bool.true_eq_false, Bool.false_eq_true, Bool.not_true, Bool.not_false]
        have hbA : A.length + B.length = b - a := by omega
        generalize hmid : (a + b) / 2 = mid
        have hmid1 : a < mid := by omega
        have hmid2 : mid < b := by omega
        have tail : ∀ q n p : Nat, n = mid + m → a ≤ q → q ≤ m → q ≤ mid → n ≤ q + b → (∀ x ∈ A.take (q - a), ∀ y ∈ B.drop (n - q - m), key x ≤ key y) → (∀ y ∈ B.take (n - q - m), ∀ x ∈ A.drop (q - a), key y < key x) →
            L103_68 [R id g N, I a, I m, I b, cl, I mid, I n, I q, I q, I p] lo (Hp G id g (P ++ A ++ B ++ Q)) = some ([], Hp G id g (P ++ mg A B ++ Q)) := by
          intro q n p hn k1 k2 k3 k4 c1 c2
          obtain ⟨en, hen⟩ : ∃ en, n - q = en := ⟨_, rfl⟩
          rw [hen] at c1 c2
          have hAA : A = A.take (q - a) ++ A.drop (q - a) := (List.take_append_drop _ _).symm
          have hBB : B = B.take (en - m) ++ B.drop (en - m) := (List.take_append_drop _ _).symm
          have s1 : Sd (A.take (q - a)) := List.Pairwise.sublist (List.take_sublist _ _) hsA
          have s2 : Sd (A.drop (q - a)) := List.Pairwise.sublist (List.drop_sublist _ _) hsA
          have s3 : Sd (B.take (en - m)) := List.Pairwise.sublist (List.take_sublist _ _) hsB
          have s4 : Sd (B.drop (en - m)) := List.Pairwise.sublist (List.drop_sublist _ _) hsB
          have l1 : (A.take (q - a)).length = q - a := by rw [List.length_take]; omega
          have l2 : (A.drop (q - a)).length = m - q := by rw [List.length_drop]; omega
          have l3 : (B.take (en - m)).length = en - m := by rw [List.length_take]; omega
          have l4 : (B.drop (en - m)).length = b - en := by rw [List.length_drop]; omega
          have hmgs : mg A B = mg (A.take (q - a)) (B.take (en - m)) ++ mg (A.drop (q - a)) (B.drop (en - m)) := by
            conv => lhs; rw [hAA, hBB]
            exact mg_split _ _ _ _ _ rfl c1 c2
          rw [hmgs]
          have hes : P ++ A ++ B ++ Q = P ++ A.take (q - a) ++ A.drop (q - a) ++ B.take (en - m) ++ B.drop (en - m) ++ Q := by
            conv => lhs; rw [hAA, hBB]
            simp only [List.append_assoc]
          rw [hes]
          generalize A.take (q - a) = A1 at *
          generalize A.drop (q - a) = A2 at *
          generalize B.take (en - m) = B1 at *
          generalize B.drop (en - m) = B2 at *
          have t89 : L103_89 [R id g N, I b, cl, I mid, I en] lo (Hp G id g (P ++ mg A1 B1 ++ A2 ++ B2 ++ Q)) = some ([], Hp G id g (P ++ (mg A1 B1 ++ mg A2 B2) ++ Q)) := by
            have hmgl : (mg A1 B1).length = mid - a := by rw [mg_len]; omega
            rw [L103_89_eq]
            by_cases g1 : mid < en
            · have g1' : (mid : Int) < en := by omega
              simp only [g1', obs, oms, bin_add, bin_sub, bin_lss, bin_leq, bin_gtr, bin_geq, bin_eql, bin_neq, bin_eqlB, bin_neqB, un_not, cond_B, gd_B, gd_undef, gdH_B, gdH_undef, pickA_B, extractA_tup, lenA_sl, lenA_row, fldA_fp, fldA_ptr, fldA_rptr, List.getElem?_cons_zero, List.getElem?_cons_succ, decide_true, decide_false, if_true, if_false, Bool.true_eq_false, Bool.false_eq_true, Bool.not_true, Bool.not_false]
              by_cases g2 : en < b
              · have g2' : (en : Int) < b := by omega
                simp only [g2', obs, oms, bin_add, bin_sub, bin_lss, bin_leq, bin_gtr, bin_geq, bin_eql, bin_neq, bin_eqlB, bin_neqB, un_not, cond_B, gd_B, gd_undef, gdH_B, gdH_undef, pickA_B, extractA_tup, lenA_sl, lenA_row, fldA_fp, fldA_ptr, fldA_rptr, List.getElem?_cons_zero, List.getElem?_cons_succ, decide_true, decide_false, if_true, if_false, Bool.true_eq_false, Bool.false_eq_true, Bool.not_true, Bool.not_false]
                have e := ih (A2.length + B2.length) (by omega) (P ++ mg A1 B1) A2 B2 Q N mid en b rfl (by omega) (by omega) s2 s4 (by simp only [List.length_append]; omega) hl (by rw [List.length_append]; omega) (by rw [List.length_append]; omega) (by rw [List.length_append]; omega)
                simp only [e, obs]
                show some _ = some _
                congr 2
                simp
              · have g2' : ¬ (en : Int) < b := by omega
                simp only [g2', obs, oms, bin_add, bin_sub, bin_lss, bin_leq, bin_gtr, bin_geq, bin_eql, bin_neq, bin_eqlB, bin_neqB, un_not, cond_B, gd_B, gd_undef, gdH_B, gdH_undef, pickA_B, extractA_tup, lenA_sl, lenA_row, fldA_fp, fldA_ptr, fldA_rptr, List.getElem?_cons_zero, List.getElem?_cons_succ, decide_true, decide_false, if_true, if_false, Bool.true_eq_false, Bool.false_eq_true, Bool.not_true, Bool.not_false]
                have : B2 = [] := List.length_eq_zero_iff.mp (by omega)
                subst this
                rw [mg_nil_right]
                simp [leave]
            · have g1' : ¬ (mid : Int) < en := by omega
              simp only [g1', obs, oms, bin_add, bin_sub, bin_lss, bin_leq, bin_gtr, bin_geq, bin_eql, bin_neq, bin_eqlB, bin_neqB, un_not, cond_B, gd_B, gd_undef, gdH_B, gdH_undef, pickA_B, extractA_tup, lenA_sl, lenA_row, fldA_fp, fldA_ptr, fldA_rptr, List.getElem?_cons_zero, List.getElem?_cons_succ, decide_true, decide_false, if_true, if_false, Bool.true_eq_false, Bool.false_eq_true, Bool.not_true, Bool.not_false]
              have : A2 = [] := List.length_eq_zero_iff.mp (by omega)
              subst this
              rw [mg_nil_left]
              simp [leave]
          have t85 : L103_85 [R id g N, I a, I b, cl, I mid, I q, I en] lo (Hp G id g (P ++ A1 ++ B1 ++ A2 ++ B2 ++ Q)) = some ([], Hp G id g (P ++ (mg A1 B1 ++ mg A2 B2) ++ Q)) := by
            rw [L103_85_eq]
            by_cases g1 : a < q
            · have g1' : (a : Int) < q := by omega
              simp only [g1', obs, oms, bin_add, bin_sub, bin_lss, bin_leq, bin_gtr, bin_geq, bin_eql, bin_neq, bin_eqlB, bin_neqB, un_not, cond_B, gd_B, gd_undef, gdH_B, gdH_undef, pickA_B, extractA_tup, lenA_sl, lenA_row, fldA_fp, fldA_ptr, fldA_rptr, List.getElem?_cons_zero, List.getElem?_cons_succ, decide_true, decide_false, if_true, if_false, Bool.true_eq_false, Bool.false_eq_true, Bool.not_true, Bool.not_false]
              by_cases g2 : q < mid
              · have g2' : (q : Int) < mid := by omega
                simp only [g2', obs, oms, bin_add, bin_sub, bin_lss, bin_leq, bin_gtr, bin_geq, bin_eql, bin_neq, bin_eqlB, bin_neqB, un_not, cond_B, gd_B, gd_undef, gdH_B, gdH_undef, pickA_B, extractA_tup, lenA_sl, lenA_row, fldA_fp, fldA_ptr, fldA_rptr, List.getElem?_cons_zero, List.getElem?_cons_succ, decide_true, decide_false, if_true, if_false, Bool.true_eq_false, Bool.false_eq_true, Bool.not_true, Bool.not_false]
                have e := ih (A1.length + B1.length) (by omega) P A1 B1 (A2 ++ B2 ++ Q) N a q mid rfl (by omega) (by omega) s1 s3 (by simp only [List.length_append]; omega) hl ha (by omega) (by omega)
                rw [show P ++ A1 ++ B1 ++ A2 ++ B2 ++ Q = P ++ A1 ++ B1 ++ (A2 ++ B2 ++ Q) by simp]
                simp only [e, obs]
                rw [show P ++ mg A1 B1 ++ (A2 ++ B2 ++ Q) = P ++ mg A1 B1 ++ A2 ++ B2 ++ Q by simp]
                exact t89
              · have g2' : ¬ (q : Int) < mid := by omega
                simp only [g2', obs, oms, bin_add, bin_sub, bin_lss, bin_leq, bin_gtr, bin_geq, bin_eql, bin_neq, bin_eqlB, bin_neqB, un_not, cond_B, gd_B, gd_undef, gdH_B, gdH_undef, pickA_B, extractA_tup, lenA_sl, lenA_row, fldA_fp, fldA_ptr, fldA_rptr, List.getElem?_cons_zero, List.getElem?_cons_succ, decide_true, decide_false, if_true, if_false, Bool.true_eq_false, Bool.false_eq_true, Bool.not_true, Bool.not_false]
                have : B1 = [] := List.length_eq_zero_iff.mp (by omega)
                subst this
                rw [mg_nil_right] at t89 ⊢
                rw [List.append_nil]
                exact t89
            · have g1' : ¬ (a : Int) < q := by omega
              simp only [g1', obs, oms, bin_add, bin_sub, bin_lss, bin_leq, bin_gtr, bin_geq, bin_eql, bin_neq, bin_eqlB, bin_neqB, un_not, cond_B, gd_B, gd_undef, gdH_B, gdH_undef, pickA_B, extractA_tup, lenA_sl, lenA_row, fldA_fp, fldA_ptr, fldA_rptr, List.getElem?_cons_zero, List.getElem?_cons_succ, decide_true, decide_false, if_true, if_false, Bool.true_eq_false, Bool.false_eq_true, Bool.not_true, Bool.not_false]
              have : A1 = [] := List.length_eq_zero_iff.mp (by omega)
              subst this
              rw [mg_nil_left] at t89 ⊢
              rw [List.append_nil]
              exact t89
          rw [L103_68_eq]
          simp only [obs, oms, bin_add, bin_sub, bin_lss, bin_leq, bin_gtr, bin_geq, bin_eql, bin_neq, bin_eqlB, bin_neqB, un_not, cond_B, gd_B, gd_undef, gdH_B, gdH_undef, pickA_B, extractA_tup, lenA_sl, lenA_row, fldA_fp, fldA_ptr, fldA_rptr, List.getElem?_cons_zero, List.getElem?_cons_succ, decide_true, decide_false, if_true, if_false, Bool.true_eq_false, Bool.false_eq_true, Bool.not_true, Bool.not_false]
          rw [if_neg (by simp), show IntKind.i64.wrap ((n : Int) - q) = (en : Nat) by rw [wrap_id (by omega)]; omega]
          by_cases g1 : q < m
          · have g1' : (q : Int) < m := by omega
            simp only [g1', obs, oms, bin_add, bin_sub, bin_lss, bin_leq, bin_gtr, bin_geq, bin_eql, bin_neq, bin_eqlB, bin_neqB, un_not, cond_B, gd_B, gd_undef, gdH_B, gdH_undef, pickA_B, extractA_tup, lenA_sl, lenA_row, fldA_fp, fldA_ptr, fldA_rptr, List.getElem?_cons_zero, List.getElem?_cons_succ, decide_true, decide_false, if_true, if_false, Bool.true_eq_false, Bool.false_eq_true, Bool.not_true, Bool.not_false]
            by_cases g2 : m < en
            · have g2' : (m : Int) < en := by omega
              simp only [g2', obs, oms, bin_add, bin_sub, bin_lss, bin_leq, bin_gtr, bin_geq, bin_eql, bin_neq, bin_eqlB, bin_neqB, un_not, cond_B, gd_B, gd_undef, gdH_B, gdH_undef, pickA_B, extractA_tup, lenA_sl, lenA_row, fldA_fp, fldA_ptr, fldA_rptr, List.getElem?_cons_zero, List.getElem?_cons_succ, decide_true, decide_false, if_true, if_false, Bool.true_eq_false, Bool.false_eq_true, Bool.not_true, Bool.not_false]
              have e := call126 (lo := lo) (g := g) hG (P := P ++ A1) (X := A2) (Y := B1) (Q := B2 ++ Q) (N := N) (a := q) (m := m) (b := en) (by omega) (by omega) (by simp only [List.length_append]; omega) hl (by rw [List.length_append]; omega) (by rw [List.length_append]; omega) (by rw [List.length_append]; omega)
              rw [show P ++ A1 ++ A2 ++ B1 ++ B2 ++ Q = P ++ A1 ++ A2 ++ B1 ++ (B2 ++ Q) by simp]
              simp only [e, obs]
              rw [show P ++ A1 ++ B1 ++ A2 ++ (B2 ++ Q) = P ++ A1 ++ B1 ++ A2 ++ B2 ++ Q by simp]
              exact t85
            · have g2' : ¬ (m : Int) < en := by omega
              simp only [g2', obs, oms, bin_add, bin_sub, bin_lss, bin_leq, bin_gtr, bin_geq, bin_eql, bin_neq, bin_eqlB, bin_neqB, un_not, cond_B, gd_B, gd_undef, gdH_B, gdH_undef, pickA_B, extractA_tup, lenA_sl, lenA_row, fldA_fp, fldA_ptr, fldA_rptr, List.getElem?_cons_zero, List.getElem?_cons_succ, decide_true, decide_false, if_true, if_false, Bool.true_eq_false, Bool.false_eq_true, Bool.not_true, Bool.not_false]
              have : B1 = [] := List.length_eq_zero_iff.mp (by omega)
              subst this
              simp only [List.append_nil] at t85 ⊢
              exact t85
          · have g1' : ¬ (q : Int) < m := by omega
            simp only [g1', obs, oms, bin_add, bin_sub, bin_lss, bin_leq, bin_gtr, bin_geq, bin_eql, bin_neq, bin_eqlB, bin_neqB, un_not, cond_B, gd_B, gd_undef, gdH_B, gdH_undef, pickA_B, extractA_tup, lenA_sl, lenA_row, fldA_fp, fldA_ptr, fldA_rptr, List.getElem?_cons_zero, List.getElem?_cons_succ, decide_true, decide_false, if_true, if_false, Bool.true_eq_false, Bool.false_eq_true, Bool.not_true, Bool.not_false]
            have : A2 = [] := List.length_eq_zero_iff.mp (by omega)
            subst this
            simp only [List.append_nil] at t85 ⊢
            exact t85
        have cross : ∀ q p n lo0 hi0 : Nat, n = mid + m → p = n - 1 → a ≤ q → q ≤ m → q ≤ mid → n ≤ q + b → lo0 ≤ q → q ≤ hi0 → (lo0 = a ∨ n = lo0 + b) → (hi0 = m ∨ hi0 = mid) → (∀ c, lo0 ≤ c → c < q → ¬ K (P ++ A ++ B ++ Q) (p - c) < K (P ++ A ++ B ++ Q) c) → (∀ c, q ≤ c → c < hi0 → K (P ++ A ++ B ++ Q) (p - c) < K (P ++ A ++ B ++ Q) c) →
            (∀ x ∈ A.take (q - a), ∀ y ∈ B.drop (n - q - m), key x ≤ key y) ∧ (∀ y ∈ B.take (n - q - m), ∀ x ∈ A.drop (q - a), key y < key x) := by
          intro q p n lo0 hi0 hn hp k1 k2 k3 k4 k5 k6 hlo hhi h1 h2
          have gA : ∀ i j, (hij : i ≤ j) → (hj : j < A.length) → key (A[i]'(by omega)) ≤ key A[j] := fun i j hij hj => by
            by_cases e : i = j
            · subst e; exact Int.le_refl _
            · exact sd_get hsA (by omega) hj
          have gB : ∀ i j, (hij : i ≤ j) → (hj : j < B.length) → key (B[i]'(by omega)) ≤ key B[j] := fun i j hij hj => by
            by_cases e : i = j
            · subst e; exact Int.le_refl _
            · exact sd_get hsB (by omega) hj
          constructor
          · intro x hx y hy
            obtain ⟨i, hi, rfl⟩ := List.getElem_of_mem hx
            obtain ⟨j, hj, rfl⟩ := List.getElem_of_mem hy
            rw [List.length_take] at hi
            rw [List.length_drop] at hj
            rw [List.getElem_take, List.getElem_drop]
            have h3 := h1 (q - 1) (by omega) (by omega)
            have e1 := KA (q - 1 - a) (by omega)
            have e2 := KB (n - q - m) (by omega)
            rw [show a + (q - 1 - a) = q - 1 by omega] at e1
            rw [show m + (n - q - m) = p - (q - 1) by omega] at e2
            rw [e1, e2] at h3
            have := gA i (q - 1 - a) (by omega) (by omega)
            have := gB (n - q - m) (n - q - m + j) (by omega) (by omega)
            omega
          · intro y hy x hx
            obtain ⟨i, hi, rfl⟩ := List.getElem_of_mem hx
            obtain ⟨j, hj, rfl⟩ := List.getElem_of_mem hy
            rw [List.length_take] at hj
            rw [List.length_drop] at hi
            rw [List.getElem_take, List.getElem_drop]
            have h3 := h2 q (by omega) (by omega)
            have e1 := KA (q - a) (by omega)
            have e2 := KB (n - q - m - 1) (by omega)
            rw [show a + (q - a) = q by omega] at e1
            rw [show m + (n - q - m - 1) = p - q by omega] at e2
            rw [e1, e2] at h3
            have := gA (q - a) (q - a + i) (by omega) (by omega)
            have := gB j (n - q - m - 1) (by omega) (by omega)
            omega
        rw [show IntKind.i64.wrap ((a : Int) + b) = ((a + b : Nat) : Int) by rw [wrap_id (by omega)]; omega]
        simp only [c64 (a + b) (by omega), obs, sh1, hmid, c64' mid (by omega), bin_add, bin_gtr, cond_B]
        rw [show IntKind.i64.wrap ((mid : Int) + m) = ((mid + m : Nat) : Int) by rw [wrap_id (by omega)]; omega]
        by_cases hmm : mid < m
        · have hmm' : (mid : Int) < m := by omega
          simp only [hmm', obs, oms, bin_add, bin_sub, bin_lss, bin_leq, bin_gtr, bin_geq, bin_eql, bin_neq, bin_eqlB, bin_neqB, un_not, cond_B, gd_B, gd_undef, gdH_B, gdH_undef, pickA_B, extractA_tup, lenA_sl, lenA_row, fldA_fp, fldA_ptr, fldA_rptr, List.getElem?_cons_zero, List.getElem?_cons_succ, decide_true, decide_false, if_true, if_false, Bool.true_eq_false, Bool.false_eq_true, Bool.not_true, Bool.not_false]
          rw [show IntKind.i64.wrap (((mid + m : Nat) : Int) - b) = ((mid + m - b : Nat) : Int) by rw [wrap_id (by omega)]; omega, L103_67_eq]
          simp only [obs, oms, bin_add, bin_sub, bin_lss, bin_leq, bin_gtr, bin_geq, bin_eql, bin_neq, bin_eqlB, bin_neqB, un_not, cond_B, gd_B, gd_undef, gdH_B, gdH_undef, pickA_B, extractA_tup, lenA_sl, lenA_row, fldA_fp, fldA_ptr, fldA_rptr, List.getElem?_cons_zero, List.getElem?_cons_succ, decide_true, decide_false, if_true, if_false, Bool.true_eq_false, Bool.false_eq_true, Bool.not_true, Bool.not_false]
          rw [show IntKind.i64.wrap (((mid + m : Nat) : Int) - 1) = ((mid + m - 1 : Nat) : Int) by rw [wrap_id (by omega)]; omega]
          obtain ⟨q, q1, q2, q3, q4, q5⟩ := find68 (lo := lo) (g := g) hG (es := P ++ A ++ B ++ Q) (N := N) (a := a) (m := m) (b := b) (mid := mid) (n := mid + m) (p := mid + m - 1) (lo0 := mid + m - b) (hi0 := mid) hN hl (by omega) (by omega) (fun c h1 h2 => by omega) sA sB (by omega) (by omega) _ (mid + m - b) mid rfl (Nat.le_refl _) (by omega) (Nat.le_refl _) (fun c h1 h2 => by omega) (fun c h1 h2 => by omega)
          obtain ⟨c1, c2⟩ := cross q (mid + m - 1) (mid + m) (mid + m - b) mid rfl rfl (by omega) (by omega) (by omega) (by omega) q1 q2 (by omega) (.inr rfl) q3 q4
          rw [q5]
          exact tail q (mid + m) (mid + m - 1) rfl (by omega) (by omega) (by omega) (by omega) c1 c2
        · have hmm' : ¬ (mid : Int) < m := by omega
          simp only [hmm', obs, oms, bin_add, bin_sub, bin_lss, bin_leq, bin_gtr, bin_geq, bin_eql, bin_neq, bin_eqlB, bin_neqB, un_not, cond_B, gd_B, gd_undef, gdH_B, gdH_undef, pickA_B, extractA_tup, lenA_sl, lenA_row, fldA_fp, fldA_ptr, fldA_rptr, List.getElem?_cons_zero, List.getElem?_cons_succ, decide_true, decide_false, if_true, if_false, Bool.true_eq_false, Bool.false_eq_true, Bool.not_true, Bool.not_false]
          rw [L103_67_eq]
          simp only [obs, oms, bin_add, bin_sub, bin_lss, bin_leq, bin_gtr, bin_geq, bin_eql, bin_neq, bin_eqlB, bin_neqB, un_not, cond_B, gd_B, gd_undef, gdH_B, gdH_undef, pickA_B, extractA_tup, lenA_sl, lenA_row, fldA_fp, fldA_ptr, fldA_rptr, List.getElem?_cons_zero, List.getElem?_cons_succ, decide_true, decide_false, if_true, if_false, Bool.true_eq_false, Bool.false_eq_true, Bool.not_true, Bool.not_false]
          rw [show IntKind.i64.wrap (((mid + m : Nat) : Int) - 1) = ((mid + m - 1 : Nat) : Int) by rw [wrap_id (by omega)]; omega]
          obtain ⟨q, q1, q2, q3, q4, q5⟩ := find68 (lo := lo) (g := g) hG (es := P ++ A ++ B ++ Q) (N := N) (a := a) (m := m) (b := b) (mid := mid) (n := mid + m) (p := mid + m - 1) (lo0 := a) (hi0 := m) hN hl (by omega) (by omega) (fun c h1 h2 => by omega) sA sB (by omega) (by omega) _ a m rfl (Nat.le_refl _) (by omega) (Nat.le_refl _) (fun c h1 h2 => by omega) (fun c h1 h2 => by omega)
          obtain ⟨c1, c2⟩ := cross q (mid + m - 1) (mid + m) a m rfl rfl (by omega) (by omega) (by omega) (by omega) q1 q2 (.inl rfl) (.inl rfl) q3 q4
          rw [q5]
          exact tail q (mid + m) (mid + m - 1) rfl (by omega) (by omega) (by omega) (by omega) c1 c2
end
end Rm
end Go.Proofs.Ytcgahlekjfemfaa
