import Derived.Test.YtcgahlekjfemfaaRmW
set_option linter.unusedVariables false
set_option linter.unusedSimpArgs false
namespace Go.Proofs.Ytcgahlekjfemfaa
open Go Go.AM
namespace Rm
def bs (w : Nat) : Nat → List E → List E
  | 0, S => isrt S
  | f + 1, S => if S.length < w then isrt S else isrt (S.take w) ++ bs w f (S.drop w)
theorem isrt_nil : isrt [] = [] := rfl
theorem bs_nil (w f : Nat) (hw : 0 < w) : bs w f [] = [] := by
  cases f with
  | zero => rfl
  | succ f => unfold bs; rw [if_pos (by simpa using hw)]; rfl
theorem bs_le {w f : Nat} {S : List E} (hw : 0 < w) (h : S.length ≤ w) : bs w f S = isrt S := by
  cases f with
  | zero => rfl
  | succ f =>
    unfold bs
    split
    · rfl
    · rw [List.take_of_length_le h, List.drop_of_length_le h, bs_nil _ _ hw, List.append_nil]
theorem bs_ge {w f : Nat} {S : List E} (h : w ≤ S.length) : bs w (f + 1) S = isrt (S.take w) ++ bs w f (S.drop w) := by
  rw [bs]
  rw [if_neg (by omega)]
theorem bs_len (w : Nat) : ∀ (f : Nat) (S : List E), (bs w f S).length = S.length := by
  intro f
  induction f with
  | zero => intro S; exact isrt_len S
  | succ f ih =>
    intro S
    unfold bs
    split
    · exact isrt_len S
    · rw [List.length_append, isrt_len, ih, List.length_take, List.length_drop]; omega

section
variable {G : Heap} {id g : Nat} {lo : List Nat}
theorem stab6 (hG : id < G.length) {N : Nat} (hl : N < 2 ^ 30) : ∀ (f : Nat) (D rest : List E) (a b : Nat), rest.length ≤ f → N = (D ++ rest).length → a = D.length → b = a + 20 →
    L89_6 [R id g N, I N, cl, I 20, I a, I b] lo (Hp G id g (D ++ rest)) = L89_16 [R id g N, I N, cl, I 20] lo (Hp G id g (D ++ bs 20 f rest)) := by
  intro f
  induction f with
  | zero =>
    intro D rest a b hf hN ha hb
    have : rest = [] := List.length_eq_zero_iff.mp (by omega)
    subst this
    have hN' : N = D.length := by rw [hN]; simp
    rw [L89_6_eq]
    have hlt : ¬ (b : Int) ≤ N := by omega
    have e := call102 (lo := lo) (g := g) hG (P := D) (S := []) (T := []) (N := N) (a := a) (b := N) (by omega) (by rw [hN]; simp) ha (by simp; omega)
    simp only [List.append_nil, isrt_nil] at e
    simp only [hlt, obs, oms, bin_add, bin_sub, bin_lss, bin_leq, bin_gtr, bin_geq, bin_eql, bin_neq, bin_eqlB, bin_neqB, un_not, cond_B, gd_B, gd_undef, gdH_B, gdH_undef, pickA_B, extractA_tup, lenA_sl, lenA_row, fldA_fp, fldA_ptr, fldA_rptr, List.getElem?_cons_zero, List.getElem?_cons_succ, decide_true, decide_false, if_true, if_false, Bool.true_eq_false, Bool.false_eq_true, Bool.not_true, Bool.not_false, List.append_nil, e]
    rw [bs_nil _ _ (by omega), List.append_nil]
  | succ f ih =>
    intro D rest a b hf hN ha hb
    have hN' : N = D.length + rest.length := by rw [hN]; simp
    rw [L89_6_eq]
    by_cases h : 20 ≤ rest.length
    · have hlt : (b : Int) ≤ N := by omega
      have l1 : (rest.take 20).length = 20 := by rw [List.length_take]; omega
      have e := call102 (lo := lo) (g := g) hG (P := D) (S := rest.take 20) (T := rest.drop 20) (N := N) (a := a) (b := b) (by omega) (by rw [hN, List.append_assoc, List.take_append_drop]) ha (by omega)
      rw [List.append_assoc D (rest.take 20), List.take_append_drop] at e
      simp only [hlt, obs, oms, bin_add, bin_sub, bin_lss, bin_leq, bin_gtr, bin_geq, bin_eql, bin_neq, bin_eqlB, bin_neqB, un_not, cond_B, gd_B, gd_undef, gdH_B, gdH_undef, pickA_B, extractA_tup, lenA_sl, lenA_row, fldA_fp, fldA_ptr, fldA_rptr, List.getElem?_cons_zero, List.getElem?_cons_succ, decide_true, decide_false, if_true, if_false, Bool.true_eq_false, Bool.false_eq_true, Bool.not_true, Bool.not_false, e]
      rw [wrap_id (by omega), show (b : Int) + 20 = ((b + 20 : Nat) : Int) by omega]
      rw [ih (D ++ isrt (rest.take 20)) (rest.drop 20) b (b + 20) (by rw [List.length_drop]; omega) (by rw [hN']; simp [isrt_len] <;> omega) (by simp [isrt_len]; omega) rfl, bs_ge h, List.append_assoc]
    · have hlt : ¬ (b : Int) ≤ N := by omega
      have e := call102 (lo := lo) (g := g) hG (P := D) (S := rest) (T := []) (N := N) (a := a) (b := N) (by omega) (by rw [hN]; simp) ha (by omega)
      simp only [List.append_nil] at e
      simp only [hlt, obs, oms, bin_add, bin_sub, bin_lss, bin_leq, bin_gtr, bin_geq, bin_eql, bin_neq, bin_eqlB, bin_neqB, un_not, cond_B, gd_B, gd_undef, gdH_B, gdH_undef, pickA_B, extractA_tup, lenA_sl, lenA_row, fldA_fp, fldA_ptr, fldA_rptr, List.getElem?_cons_zero, List.getElem?_cons_succ, decide_true, decide_false, if_true, if_false, Bool.true_eq_false, Bool.false_eq_true, Bool.not_true, Bool.not_false, e]
      rw [bs_le (by omega) (by omega)]

theorem stab20 (hG : id < G.length) {N w : Nat} (hl : N < 2 ^ 30) (hw : 0 < w) (hw2 : w < 2 ^ 30) : ∀ (c : Nat) (f f2 : Nat) (D rest : List E) (a b : Nat), rest.length ≤ c → rest.length ≤ f → rest.length ≤ f2 → N = (D ++ rest).length → a = D.length → b = a + 2 * w →
    L89_20 [R id g N, I N, cl, I w, I a, I b] lo (Hp G id g (D ++ bs w f rest)) = L89_35 [R id g N, I N, cl, I w] lo (Hp G id g (D ++ bs (2 * w) f2 rest)) := by
  intro c
  induction c using Nat.strongRecOn with
  | ind c ih =>
    intro f f2 D rest a b hc hf hf2 hN ha hb
    have hN' : N = D.length + rest.length := by rw [hN]; simp
    rw [L89_20_eq]
    by_cases h : 2 * w ≤ rest.length
    · have hlt : (b : Int) ≤ N := by omega
      obtain ⟨f', rfl⟩ : ∃ f', f = f' + 1 := ⟨f - 1, by omega⟩
      obtain ⟨f'', rfl⟩ : ∃ f'', f' = f'' + 1 := ⟨f' - 1, by omega⟩
      obtain ⟨f3, rfl⟩ : ∃ f3, f2 = f3 + 1 := ⟨f2 - 1, by omega⟩
      have l1 : (rest.take w).length = w := by rw [List.length_take]; omega
      have l2 : ((rest.drop w).take w).length = w := by rw [List.length_take, List.length_drop]; omega
      have hdd : (rest.drop w).drop w = rest.drop (2 * w) := by rw [List.drop_drop]; congr 1; omega
      have htt : rest.take (2 * w) = rest.take w ++ (rest.drop w).take w := by rw [show 2 * w = w + w by omega, List.take_add]
      have hl3 : (bs w f'' (rest.drop (2 * w))).length = rest.length - 2 * w := by rw [bs_len, List.length_drop]
      have e := call103 (lo := lo) (g := g) hG _ D (isrt (rest.take w)) (isrt ((rest.drop w).take w)) (bs w f'' (rest.drop (2 * w))) N a (a + w) b rfl (by rw [isrt_len]; omega) (by rw [isrt_len]; omega) (isrt_sd _) (isrt_sd _) (by simp only [List.length_append, isrt_len]; omega) (by omega) ha (by rw [isrt_len]; omega) (by rw [isrt_len, isrt_len]; omega)
      rw [← isrt_app _ _ _ rfl, ← htt] at e
      rw [bs_ge (by omega), bs_ge (by rw [List.length_drop]; omega), hdd]
      simp only [hlt, obs, oms, bin_add, bin_sub, bin_lss, bin_leq, bin_gtr, bin_geq, bin_eql, bin_neq, bin_eqlB, bin_neqB, un_not, cond_B, gd_B, gd_undef, gdH_B, gdH_undef, pickA_B, extractA_tup, lenA_sl, lenA_row, fldA_fp, fldA_ptr, fldA_rptr, List.getElem?_cons_zero, List.getElem?_cons_succ, decide_true, decide_false, if_true, if_false, Bool.true_eq_false, Bool.false_eq_true, Bool.not_true, Bool.not_false]
      rw [wrap_id (by omega), show (a : Int) + w = ((a + w : Nat) : Int) by omega]
      rw [show D ++ (isrt (rest.take w) ++ (isrt ((rest.drop w).take w) ++ bs w f'' (rest.drop (2 * w)))) = D ++ isrt (rest.take w) ++ isrt ((rest.drop w).take w) ++ bs w f'' (rest.drop (2 * w)) by simp]
      simp only [e, obs, bin_mul, bin_add]
      rw [show IntKind.i64.wrap (2 * (w : Int)) = ((2 * w : Nat) : Int) by rw [wrap_id (by omega)]; omega, wrap_id (by omega), show (b : Int) + ((2 * w : Nat) : Int) = ((b + 2 * w : Nat) : Int) by omega]
      rw [ih (c - 1) (by omega) f'' f3 (D ++ isrt (rest.take (2 * w))) (rest.drop (2 * w)) b (b + 2 * w) (by rw [List.length_drop]; omega) (by rw [List.length_drop]; omega) (by rw [List.length_drop]; omega) (by rw [hN']; simp [isrt_len] <;> omega) (by simp [isrt_len]; omega) rfl, bs_ge h, List.append_assoc]
    · have hlt : ¬ (b : Int) ≤ N := by omega
      simp only [hlt, obs, oms, bin_add, bin_sub, bin_lss, bin_leq, bin_gtr, bin_geq, bin_eql, bin_neq, bin_eqlB, bin_neqB, un_not, cond_B, gd_B, gd_undef, gdH_B, gdH_undef, pickA_B, extractA_tup, lenA_sl, lenA_row, fldA_fp, fldA_ptr, fldA_rptr, List.getElem?_cons_zero, List.getElem?_cons_succ, decide_true, decide_false, if_true, if_false, Bool.true_eq_false, Bool.false_eq_true, Bool.not_true, Bool.not_false]
      rw [wrap_id (by omega), show (a : Int) + w = ((a + w : Nat) : Int) by omega, bs_le (w := 2 * w) (by omega) (by omega)]
      by_cases h2 : w < rest.length
      · have hlt2 : ((a + w : Nat) : Int) < N := by omega
        obtain ⟨f', rfl⟩ : ∃ f', f = f' + 1 := ⟨f - 1, by omega⟩
        have l1 : (rest.take w).length = w := by rw [List.length_take]; omega
        have l2 : (rest.drop w).length = rest.length - w := List.length_drop
        have e := call103 (lo := lo) (g := g) hG _ D (isrt (rest.take w)) (isrt (rest.drop w)) [] N a (a + w) N rfl (by rw [isrt_len]; omega) (by rw [isrt_len]; omega) (isrt_sd _) (isrt_sd _) (by simp only [List.length_append, isrt_len, List.length_nil]; omega) (by omega) ha (by rw [isrt_len]; omega) (by rw [isrt_len, isrt_len]; omega)
        rw [← isrt_app _ _ _ rfl, List.take_append_drop] at e
        simp only [List.append_nil] at e
        rw [bs_ge (by omega), bs_le hw (by omega)]
        simp only [hlt2, obs, oms, bin_add, bin_sub, bin_lss, bin_leq, bin_gtr, bin_geq, bin_eql, bin_neq, bin_eqlB, bin_neqB, un_not, cond_B, gd_B, gd_undef, gdH_B, gdH_undef, pickA_B, extractA_tup, lenA_sl, lenA_row, fldA_fp, fldA_ptr, fldA_rptr, List.getElem?_cons_zero, List.getElem?_cons_succ, decide_true, decide_false, if_true, if_false, Bool.true_eq_false, Bool.false_eq_true, Bool.not_true, Bool.not_false]
        rw [← List.append_assoc]
        simp only [e, obs]
      · have hlt2 : ¬ ((a + w : Nat) : Int) < N := by omega
        simp only [hlt2, obs, oms, bin_add, bin_sub, bin_lss, bin_leq, bin_gtr, bin_geq, bin_eql, bin_neq, bin_eqlB, bin_neqB, un_not, cond_B, gd_B, gd_undef, gdH_B, gdH_undef, pickA_B, extractA_tup, lenA_sl, lenA_row, fldA_fp, fldA_ptr, fldA_rptr, List.getElem?_cons_zero, List.getElem?_cons_succ, decide_true, decide_false, if_true, if_false, Bool.true_eq_false, Bool.false_eq_true, Bool.not_true, Bool.not_false]
        rw [bs_le hw (by omega)]

theorem stab16 (hG : id < G.length) {S : List E} {N : Nat} (hl : N < 2 ^ 28) (hN : N = S.length) : ∀ (c w : Nat), N - w = c → 0 < w → w < 2 ^ 29 → L89_16 [R id g N, I N, cl, I w] lo (Hp G id g (bs w N S)) = some ([], Hp G id g (isrt S)) := by
  intro c
  induction c using Nat.strongRecOn with
  | ind c ih =>
    intro w hc hw hw2
    rw [L89_16_eq]
    by_cases h : w < N
    · have hlt : (w : Int) < N := by omega
      simp only [hlt, obs, oms, bin_add, bin_sub, bin_lss, bin_leq, bin_gtr, bin_geq, bin_eql, bin_neq, bin_eqlB, bin_neqB, un_not, cond_B, gd_B, gd_undef, gdH_B, gdH_undef, pickA_B, extractA_tup, lenA_sl, lenA_row, fldA_fp, fldA_ptr, fldA_rptr, List.getElem?_cons_zero, List.getElem?_cons_succ, decide_true, decide_false, if_true, if_false, Bool.true_eq_false, Bool.false_eq_true, Bool.not_true, Bool.not_false, bin_mul]
      rw [show IntKind.i64.wrap (2 * (w : Int)) = ((2 * w : Nat) : Int) by rw [wrap_id (by omega)]; omega]
      have e := stab20 (lo := lo) (g := g) (w := w) hG (N := N) (by omega) hw (by omega) S.length N N [] S 0 (2 * w) (Nat.le_refl _) (by omega) (by omega) (by simpa using hN) rfl (by omega)
      simp only [List.nil_append] at e
      rw [show (I 0) = I (0 : Nat) from rfl, e, L89_35_eq]
      simp only [bin_mul, obs]
      rw [show IntKind.i64.wrap ((w : Int) * 2) = ((2 * w : Nat) : Int) by rw [wrap_id (by omega)]; omega]
      exact ih (N - 2 * w) (by omega) (2 * w) rfl (by omega) (by omega)
    · have hlt : ¬ (w : Int) < N := by omega
      simp only [hlt, obs, oms, bin_add, bin_sub, bin_lss, bin_leq, bin_gtr, bin_geq, bin_eql, bin_neq, bin_eqlB, bin_neqB, un_not, cond_B, gd_B, gd_undef, gdH_B, gdH_undef, pickA_B, extractA_tup, lenA_sl, lenA_row, fldA_fp, fldA_ptr, fldA_rptr, List.getElem?_cons_zero, List.getElem?_cons_succ, decide_true, decide_false, if_true, if_false, Bool.true_eq_false, Bool.false_eq_true, Bool.not_true, Bool.not_false]
      rw [bs_le hw (by omega)]
      rfl

theorem call89 (hG : id < G.length) {S : List E} {N : Nat} (hl : N < 2 ^ 28) (hN : N = S.length) : callA cfg O 89 [R id g N, I N, cl] lo (Hp G id g S) = some (.tup [], Hp G id g (isrt S)) := by
  refine callA_keep (rs := []) rfl ?_
  rw [f89_eq]
  have e := stab6 (lo := lo) (g := g) hG (N := N) (by omega) N [] S 0 20 (by omega) (by simpa using hN) rfl rfl
  simp only [List.nil_append] at e
  rw [show (I 20 : AV) = I (20 : Nat) from rfl, show (I 0 : AV) = I (0 : Nat) from rfl] at *
  rw [e]
  exact stab16 hG hl hN _ 20 rfl (by omega) (by omega)
theorem call66 (hG : id < G.length) {S : List E} {N : Nat} (hl : N < 2 ^ 28) (hN : N = S.length) : callA cfg O 66 [R id g N, cl] lo (Hp G id g S) = some (.tup [], Hp G id g (isrt S)) := by
  refine callA_keep (rs := []) rfl ?_
  rw [f66_eq]
  simp only [lenA_row, obs, call89 hG hl hN]
  rfl
end
end Rm
end Go.Proofs.Ytcgahlekjfemfaa
