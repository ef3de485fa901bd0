import Derived.Test.YtcgahlekjfemfaaRmS
set_option linter.unusedVariables false
set_option linter.unusedSimpArgs false
namespace Go.Proofs.Ytcgahlekjfemfaa
open Go Go.AM
namespace Rm
section
variable {G : Heap} {id g : Nat} {lo : List Nat}

theorem call143 (hG : id < G.length) {P X M Y Q : List E} (h : X.length = Y.length) (hl : (P ++ X ++ M ++ Y ++ Q).length < 2 ^ 40) {N a b n : Nat} (hN : N = (P ++ X ++ M ++ Y ++ Q).length) (ha : a = P.length) (hb : b = P.length + X.length + M.length) (hn : n = X.length) :
    callA cfg O 143 [R id g N, I a, I b, I n, cl] lo (Hp G id g (P ++ X ++ M ++ Y ++ Q)) = some (.tup [], Hp G id g (P ++ Y ++ M ++ X ++ Q)) := by
  subst ha hb hn hN
  refine callA_keep (rs := []) rfl ?_
  rw [f143_eq]
  have := swapLoop (lo := lo) (g := g) hG (P := P) (M := M) (Q := Q) X.length [] X [] Y 0 X.length rfl h.symm rfl rfl (by simp) (by simpa using hl)
  simpa using this

theorem rotLoop (hG : id < G.length) : ∀ (c : Nat) (P X Y Q : List E) (N m i j : Nat), X.length + Y.length = c → 0 < X.length → 0 < Y.length → N = (P ++ X ++ Y ++ Q).length → N < 2 ^ 40 → m = P.length + X.length → i = X.length → j = Y.length →
    L126_6 [R id g N, I m, cl, I i, I j] lo (Hp G id g (P ++ X ++ Y ++ Q)) = some ([], Hp G id g (P ++ Y ++ X ++ Q)) := by
  intro c
  induction c using Nat.strongRecOn with
  | ind c ih =>
    intro P X Y Q N m i j hc hX hY hN hl hm hi hj
    have hlen : N = P.length + X.length + Y.length + Q.length := by rw [hN]; simp <;> omega
    rw [L126_6_eq]
    simp only [obs, oms, bin_add, bin_sub, bin_lss, bin_leq, bin_gtr, bin_geq, bin_eql, bin_neq, bin_eqlB, bin_neqB, un_not, cond_B, gd_B, gd_undef, gdH_B, gdH_undef, pickA_B, extractA_tup, lenA_sl, lenA_row, fldA_fp, fldA_ptr, fldA_rptr, List.getElem?_cons_zero, List.getElem?_cons_succ, decide_true, decide_false, if_true, if_false, Bool.true_eq_false, Bool.false_eq_true, Bool.not_true, Bool.not_false]
    by_cases h1 : i = j
    · have h1' : (i : Int) = j := by omega
      simp only [h1', obs, oms, bin_add, bin_sub, bin_lss, bin_leq, bin_gtr, bin_geq, bin_eql, bin_neq, bin_eqlB, bin_neqB, un_not, cond_B, gd_B, gd_undef, gdH_B, gdH_undef, pickA_B, extractA_tup, lenA_sl, lenA_row, fldA_fp, fldA_ptr, fldA_rptr, List.getElem?_cons_zero, List.getElem?_cons_succ, decide_true, decide_false, if_true, if_false, Bool.true_eq_false, Bool.false_eq_true, Bool.not_true, Bool.not_false]
      rw [wrap_id (by omega), show (m : Int) - (j : Int) = (P.length : Nat) by omega]
      have e := call143 (g := g) (lo := lo) hG (P := P) (X := X) (M := []) (Y := Y) (Q := Q) (by omega) (by simp <;> omega) (N := N) (a := P.length) (b := m) (n := j) (by rw [hN]; simp) rfl (by simp <;> omega) (by omega)
      simp only [List.append_nil] at e
      simp only [e, obs]
      rfl
    · have h1' : ¬ (i : Int) = j := by omega
      simp only [h1', obs, oms, bin_add, bin_sub, bin_lss, bin_leq, bin_gtr, bin_geq, bin_eql, bin_neq, bin_eqlB, bin_neqB, un_not, cond_B, gd_B, gd_undef, gdH_B, gdH_undef, pickA_B, extractA_tup, lenA_sl, lenA_row, fldA_fp, fldA_ptr, fldA_rptr, List.getElem?_cons_zero, List.getElem?_cons_succ, decide_true, decide_false, if_true, if_false, Bool.true_eq_false, Bool.false_eq_true, Bool.not_true, Bool.not_false]
      by_cases h2 : j < i
      · have h2' : (j : Int) < i := by omega
        simp only [h2', obs, oms, bin_add, bin_sub, bin_lss, bin_leq, bin_gtr, bin_geq, bin_eql, bin_neq, bin_eqlB, bin_neqB, un_not, cond_B, gd_B, gd_undef, gdH_B, gdH_undef, pickA_B, extractA_tup, lenA_sl, lenA_row, fldA_fp, fldA_ptr, fldA_rptr, List.getElem?_cons_zero, List.getElem?_cons_succ, decide_true, decide_false, if_true, if_false, Bool.true_eq_false, Bool.false_eq_true, Bool.not_true, Bool.not_false]
        rw [wrap_id (by omega), wrap_id (by omega), show (m : Int) - (i : Int) = (P.length : Nat) by omega, show (i : Int) - (j : Int) = ((i - j : Nat) : Int) by omega]
        have hXX : X = X.take j ++ X.drop j := (List.take_append_drop j X).symm
        have l1 : (X.take j).length = j := by rw [List.length_take]; omega
        have l2 : (X.drop j).length = i - j := by rw [List.length_drop]; omega
        have e := call143 (g := g) (lo := lo) hG (P := P) (X := X.take j) (M := X.drop j) (Y := Y) (Q := Q) (by omega) (by simp <;> omega) (N := N) (a := P.length) (b := m) (n := j) (by rw [hN]; simp <;> omega) rfl (by omega) (by omega)
        have e2 := ih (i - j + j) (by omega) (P ++ Y) (X.drop j) (X.take j) Q N m (i - j) j (by omega) (by omega) (by omega) (by rw [hN]; simp <;> omega) hl (by rw [List.length_append]; omega) (by omega) (by omega)
        have hes : P ++ X ++ Y ++ Q = P ++ X.take j ++ X.drop j ++ Y ++ Q := by
          simp only [List.append_assoc]
          rw [← List.append_assoc (X.take j), List.take_append_drop]
        rw [hes]
        simp only [e, obs]
        rw [show P ++ Y ++ X.drop j ++ X.take j ++ Q = (P ++ Y) ++ X.drop j ++ X.take j ++ Q by simp, e2]
        congr 3
        conv => rhs; rw [hXX]
        simp
      · have h2' : ¬ (j : Int) < i := by omega
        simp only [h2', obs, oms, bin_add, bin_sub, bin_lss, bin_leq, bin_gtr, bin_geq, bin_eql, bin_neq, bin_eqlB, bin_neqB, un_not, cond_B, gd_B, gd_undef, gdH_B, gdH_undef, pickA_B, extractA_tup, lenA_sl, lenA_row, fldA_fp, fldA_ptr, fldA_rptr, List.getElem?_cons_zero, List.getElem?_cons_succ, decide_true, decide_false, if_true, if_false, Bool.true_eq_false, Bool.false_eq_true, Bool.not_true, Bool.not_false]
        rw [show IntKind.i64.wrap ((m : Int) - i) = m - i from wrap_id (by omega), show IntKind.i64.wrap ((m : Int) + j) = m + j from wrap_id (by omega), show IntKind.i64.wrap ((m : Int) + j - i) = m + j - i from wrap_id (by omega), show IntKind.i64.wrap ((j : Int) - i) = j - i from wrap_id (by omega), show (m : Int) - (i : Int) = (P.length : Nat) by omega, show (m : Int) + (j : Int) - (i : Int) = ((m + (j - i) : Nat) : Int) by omega, show (j : Int) - (i : Int) = ((j - i : Nat) : Int) by omega]
        have hYY : Y = Y.take (j - i) ++ Y.drop (j - i) := (List.take_append_drop (j - i) Y).symm
        have l1 : (Y.take (j - i)).length = j - i := by rw [List.length_take]; omega
        have l2 : (Y.drop (j - i)).length = i := by rw [List.length_drop]; omega
        have e := call143 (g := g) (lo := lo) hG (P := P) (X := X) (M := Y.take (j - i)) (Y := Y.drop (j - i)) (Q := Q) (by omega) (by simp <;> omega) (N := N) (a := P.length) (b := m + (j - i)) (n := i) (by rw [hN]; simp <;> omega) rfl (by omega) (by omega)
        have e2 := ih (i + (j - i)) (by omega) P (Y.drop (j - i)) (Y.take (j - i)) (X ++ Q) N m i (j - i) (by omega) (by omega) (by omega) (by rw [hN]; simp <;> omega) hl (by omega) (by omega) (by omega)
        have hes : P ++ X ++ Y ++ Q = P ++ X ++ Y.take (j - i) ++ Y.drop (j - i) ++ Q := by
          simp only [List.append_assoc]
          rw [← List.append_assoc (Y.take (j - i)), List.take_append_drop]
        rw [hes]
        simp only [e, obs]
        rw [show P ++ Y.drop (j - i) ++ Y.take (j - i) ++ X ++ Q = P ++ Y.drop (j - i) ++ Y.take (j - i) ++ (X ++ Q) by simp, e2]
        congr 3
        conv => rhs; rw [hYY]
        simp

theorem call126 (hG : id < G.length) {P X Y Q : List E} {N a m b : Nat} (hX : 0 < X.length) (hY : 0 < Y.length) (hN : N = (P ++ X ++ Y ++ Q).length) (hl : N < 2 ^ 40) (ha : a = P.length) (hm : m = P.length + X.length) (hb : b = P.length + X.length + Y.length) :
    callA cfg O 126 [R id g N, I a, I m, I b, cl] lo (Hp G id g (P ++ X ++ Y ++ Q)) = some (.tup [], Hp G id g (P ++ Y ++ X ++ Q)) := by
  have hlen : N = P.length + X.length + Y.length + Q.length := by rw [hN]; simp <;> omega
  refine callA_keep (rs := []) rfl ?_
  rw [f126_eq]
  simp only [obs, oms, bin_add, bin_sub, bin_lss, bin_leq, bin_gtr, bin_geq, bin_eql, bin_neq, bin_eqlB, bin_neqB, un_not, cond_B, gd_B, gd_undef, gdH_B, gdH_undef, pickA_B, extractA_tup, lenA_sl, lenA_row, fldA_fp, fldA_ptr, fldA_rptr, List.getElem?_cons_zero, List.getElem?_cons_succ, decide_true, decide_false, if_true, if_false, Bool.true_eq_false, Bool.false_eq_true, Bool.not_true, Bool.not_false]
  rw [wrap_id (by omega), wrap_id (by omega), show (m : Int) - (a : Int) = (X.length : Nat) by omega, show (b : Int) - (m : Int) = (Y.length : Nat) by omega]
  exact rotLoop hG _ P X Y Q N m _ _ rfl hX hY hN hl hm rfl rfl
end

/-! ### Merging -/
def leK (x y : E) : Bool := decide (key x ≤ key y)
abbrev mg (A B : List E) : List E := List.merge A B leK
def Sd (A : List E) : Prop := A.Pairwise fun x y => key x ≤ key y

theorem mg_left {A1 A2 B : List E} (h : ∀ x ∈ A1, ∀ y ∈ B, key x ≤ key y) : mg (A1 ++ A2) B = A1 ++ mg A2 B := by
  induction A1 with
  | nil => rfl
  | cons x A1 ih =>
    have ih' := ih fun z hz => h z (List.mem_cons_of_mem _ hz)
    cases B with
    | nil => simp [mg]
    | cons y B =>
      have : leK x y = true := by simp [leK, h x (List.mem_cons_self ..) y (List.mem_cons_self ..)]
      show List.merge (x :: (A1 ++ A2)) (y :: B) leK = _
      rw [List.cons_merge_cons, if_pos this]
      show x :: mg (A1 ++ A2) (y :: B) = _
      rw [ih']
      rfl
theorem mg_right {A B1 B2 : List E} (h : ∀ y ∈ B1, ∀ x ∈ A, key y < key x) : mg A (B1 ++ B2) = B1 ++ mg A B2 := by
  induction B1 with
  | nil => rfl
  | cons y B1 ih =>
    have ih' := ih fun z hz => h z (List.mem_cons_of_mem _ hz)
    cases A with
    | nil => simp [mg]
    | cons x A =>
      have h1 := h y (List.mem_cons_self ..) x (List.mem_cons_self ..)
      have : ¬ leK x y = true := by simp [leK]; omega
      show List.merge (x :: A) (y :: (B1 ++ B2)) leK = _
      rw [List.cons_merge_cons, if_neg this]
      show y :: mg (x :: A) (B1 ++ B2) = _
      rw [ih']
      rfl
theorem mg_split : ∀ (c : Nat) (A1 A2 B1 B2 : List E), A1.length + B1.length = c → (∀ x ∈ A1, ∀ y ∈ B2, key x ≤ key y) → (∀ y ∈ B1, ∀ x ∈ A2, key y < key x) → mg (A1 ++ A2) (B1 ++ B2) = mg A1 B1 ++ mg A2 B2 := by
  intro c
  induction c with
  | zero =>
    intro A1 A2 B1 B2 hc _ _
    have : A1 = [] := List.length_eq_zero_iff.mp (by omega)
    have : B1 = [] := List.length_eq_zero_iff.mp (by omega)
    subst_vars
    simp [mg]
  | succ c ih =>
    intro A1 A2 B1 B2 hc h1 h2
    cases A1 with
    | nil => rw [List.nil_append, mg_right h2]; simp [mg]
    | cons x A1 =>
      cases B1 with
      | nil => rw [List.nil_append, mg_left h1]; simp [mg]
      | cons y B1 =>
        simp only [List.length_cons] at hc
        show List.merge (x :: (A1 ++ A2)) (y :: (B1 ++ B2)) leK = List.merge (x :: A1) (y :: B1) leK ++ _
        by_cases hle : leK x y = true
        · rw [List.cons_merge_cons, if_pos hle, List.cons_merge_cons, if_pos hle]
          have := ih A1 A2 (y :: B1) B2 (by simp <;> omega) (fun z hz => h1 z (List.mem_cons_of_mem _ hz)) h2
          show x :: mg (A1 ++ A2) (y :: B1 ++ B2) = _
          rw [this]; rfl
        · rw [List.cons_merge_cons, if_neg hle, List.cons_merge_cons, if_neg hle]
          have := ih (x :: A1) A2 B1 B2 (by simp <;> omega) h1 (fun z hz => h2 z (List.mem_cons_of_mem _ hz))
          show y :: mg (x :: A1 ++ A2) (B1 ++ B2) = _
          rw [this]; rfl
theorem mg_nil_left (B : List E) : mg [] B = B := by simp [mg]
theorem mg_nil_right (A : List E) : mg A [] = A := by simp [mg]
theorem mg_len (A B : List E) : (mg A B).length = A.length + B.length := by simp [mg]
end Rm
end Go.Proofs.Ytcgahlekjfemfaa
