import Derived.Test.YtkhbbjfdbbnojaaThU
set_option linter.unusedVariables false
set_option linter.unusedSimpArgs false
namespace Go.Proofs.Ytkhbbjfdbbnojaa
open Go Go.AM
namespace Th

theorem c64 (s : Nat) (hs : s < 2 ^ 62) : conv (.int .u64) (I s) = some (.p (.v (.int .u64 s))) := by
  show some (AV.p (.v (.int .u64 (IntKind.u64.wrap s)))) = _
  have e1 : IntKind.u64.wrap (s : Int) = s := by
    simp only [IntKind.wrap, IntKind.bits, IntKind.signed]; simp; omega
  rw [e1]
theorem c64w (i j : Nat) (h : i + j < 2 ^ 64) : conv (.int .u64) (I (IntKind.i64.wrap ((i : Int) + j))) = some (.p (.v (.int .u64 ((i + j : Nat) : Int)))) := by
  show some (AV.p (.v (.int .u64 (IntKind.u64.wrap (IntKind.i64.wrap ((i : Int) + j)))))) = _
  have e1 : IntKind.u64.wrap (IntKind.i64.wrap ((i : Int) + j)) = ((i + j : Nat) : Int) := by
    simp only [IntKind.wrap, IntKind.bits, IntKind.signed]; simp; omega
  rw [e1]
theorem sh1 (s : Nat) : bin .shr .int (.p (.v (.int .u64 s))) (.p (.v (.int .u64 1))) = some (.p (.v (.int .u64 (s / 2 : Nat)))) := by
  show (intOp .shr .u64 s 1).map (fun v => AV.p (.v v)) = _
  have e2 : intOp .shr .u64 (s : Int) 1 = some (.int .u64 (s / 2 : Nat)) := by
    simp [intOp]
    rw [show min 1 IntKind.u64.bits = 1 from rfl, Int.fdiv_eq_ediv_of_nonneg _ (by omega)]
    rfl
  rw [e2]
  rfl
theorem c64' (s : Nat) (hs : s < 2 ^ 63) : conv (.int .i64) (.p (.v (.int .u64 s))) = some (I s) := by
  show some (AV.p (.v (.int .i64 (IntKind.i64.wrap s)))) = _
  rw [wrap_id (by omega)]


theorem call150 (a : Int) (lo : List Nat) (H : Heap) : callA cfg O 150 [I a] lo H = some (B false, H) := by
  refine callA_pure (xs := [Ia a]) (H' := []) (rs := [B false]) rfl ?_ rfl
  show O.ent 150 [I a] [] [] = _
  rw [f150_eq]
  simp only [obs, oms, bin_add, bin_sub, bin_lss, bin_leq, bin_gtr, bin_geq, bin_eql, bin_neq, bin_eqlB, bin_neqB, un_not, cond_B, gd_B, gd_undef, gdH_B, gdH_undef, pickA_B, extractA_tup, lenA_sl, lenA_row, fldA_fp, fldA_ptr, fldA_rptr, List.getElem?_cons_zero, List.getElem?_cons_succ, decide_true, decide_false, if_true, if_false, Bool.true_eq_false, Bool.false_eq_true, Bool.not_true, Bool.not_false]
  rfl
theorem call140 (a : Int) (lo : List Nat) (H : Heap) : callA cfg O 140 [I a] lo H = some (B false, H) := by
  refine callA_pure (xs := [Ia a]) (H' := []) (rs := [B false]) rfl ?_ rfl
  show O.ent 140 [I a] [] [] = _
  rw [f140_eq]
  simp only [obs, oms, bin_add, bin_sub, bin_lss, bin_leq, bin_gtr, bin_geq, bin_eql, bin_neq, bin_eqlB, bin_neqB, un_not, cond_B, gd_B, gd_undef, gdH_B, gdH_undef, pickA_B, extractA_tup, lenA_sl, lenA_row, fldA_fp, fldA_ptr, fldA_rptr, List.getElem?_cons_zero, List.getElem?_cons_succ, decide_true, decide_false, if_true, if_false, Bool.true_eq_false, Bool.false_eq_true, Bool.not_true, Bool.not_false]
  rfl
theorem call139 (a b : Int) (lo : List Nat) (H : Heap) : callA cfg O 139 [I a, I b] lo H = some (B (decide (a < b)), H) := by
  refine callA_pure (xs := [Ia a, Ia b]) (H' := []) (rs := [B (decide (a < b))]) rfl ?_ rfl
  show O.ent 139 [I a, I b] [] [] = _
  rw [f139_eq]
  simp only [call150, obs, oms, bin_add, bin_sub, bin_lss, bin_leq, bin_gtr, bin_geq, bin_eql, bin_neq, bin_eqlB, bin_neqB, un_not, cond_B, gd_B, gd_undef, gdH_B, gdH_undef, pickA_B, extractA_tup, lenA_sl, lenA_row, fldA_fp, fldA_ptr, fldA_rptr, List.getElem?_cons_zero, List.getElem?_cons_succ, decide_true, decide_false, if_true, if_false, Bool.true_eq_false, Bool.false_eq_true, Bool.not_true, Bool.not_false]
  rfl

section
variable {nl : Option Bool} {tg : Bool} {zs : List Int} {x : Int}

/-- What a search tells. -/
def Found (zs : List Int) (x : Int) (r : Nat) : Prop := r ≤ zs.length ∧ (∀ k (h : k < zs.length), k < r → zs[k] < x) ∧ ∀ k (h : k < zs.length), r ≤ k → x ≤ zs[k]

theorem found_mem (hs : zs.Pairwise plt) {r : Nat} (h : Found zs x r) : x ∈ zs ↔ ∃ h : r < zs.length, zs[r] = x := by
  constructor
  · intro hx
    obtain ⟨k, hk, e⟩ := List.getElem_of_mem hx
    have h1 : r ≤ k := Nat.not_lt.mp fun h2 => by have := h.2.1 k hk h2; omega
    refine ⟨by omega, ?_⟩
    by_cases h2 : r = k
    · subst h2; exact e
    · have h3 : zs[r] < zs[k] := List.pairwise_iff_getElem.mp hs r k (by omega) hk (by omega)
      have h4 := h.2.2 r (by omega) (Nat.le_refl _)
      omega
  · rintro ⟨h1, rfl⟩
    exact List.getElem_mem h1

theorem loop98 (hs : zs.Pairwise plt) (hl : zs.length < 2 ^ 63) : ∀ (c i j : Nat), j - i ≤ c → i ≤ j → j ≤ zs.length → (∀ k (h : k < zs.length), k < i → zs[k] < x) → (∀ k (h : k < zs.length), j ≤ k → x ≤ zs[k]) →
    ∃ r : Nat, L98_8 [V nl tg zs, I x, I zs.length, I i, I j] [] [] = some ([I r, B (dec (x ∈ zs))], []) ∧ Found zs x r := by
  intro c
  have fin : ∀ i, i ≤ zs.length → (∀ k (h : k < zs.length), k < i → zs[k] < x) → (∀ k (h : k < zs.length), i ≤ k → x ≤ zs[k]) → ∃ r : Nat, L98_8 [V nl tg zs, I x, I zs.length, I i, I i] [] [] = some ([I r, B (dec (x ∈ zs))], []) ∧ Found zs x r := by
    intro i hi h1 h2
    have hF : Found zs x i := ⟨hi, h1, h2⟩
    refine ⟨i, ?_, hF⟩
    have hm := found_mem hs hF
    rw [L98_8_eq]
    by_cases h3 : i < zs.length
    · have h3' : (i : Int) < zs.length := by omega
      by_cases h4 : zs[i] = x
      · rw [dec_iff.mpr (hm.mpr ⟨h3, h4⟩)]
        simp only [Int.lt_irrefl, h3', idxV h3, ldV h3, h4, obs, oms, bin_add, bin_sub, bin_lss, bin_leq, bin_gtr, bin_geq, bin_eql, bin_neq, bin_eqlB, bin_neqB, un_not, cond_B, gd_B, gd_undef, gdH_B, gdH_undef, pickA_B, extractA_tup, lenA_sl, lenA_row, fldA_fp, fldA_ptr, fldA_rptr, List.getElem?_cons_zero, List.getElem?_cons_succ, decide_true, decide_false, if_true, if_false, Bool.true_eq_false, Bool.false_eq_true, Bool.not_true, Bool.not_false]
        rfl
      · rw [dec_f fun h => by obtain ⟨_, h5⟩ := hm.mp h; exact h4 h5]
        simp only [Int.lt_irrefl, h3', idxV h3, ldV h3, h4, call140, obs, oms, bin_add, bin_sub, bin_lss, bin_leq, bin_gtr, bin_geq, bin_eql, bin_neq, bin_eqlB, bin_neqB, un_not, cond_B, gd_B, gd_undef, gdH_B, gdH_undef, pickA_B, extractA_tup, lenA_sl, lenA_row, fldA_fp, fldA_ptr, fldA_rptr, List.getElem?_cons_zero, List.getElem?_cons_succ, decide_true, decide_false, if_true, if_false, Bool.true_eq_false, Bool.false_eq_true, Bool.not_true, Bool.not_false]
        rfl
    · have h3' : ¬ (i : Int) < zs.length := by omega
      rw [dec_f fun h => by obtain ⟨h5, _⟩ := hm.mp h; exact h3 h5]
      simp only [Int.lt_irrefl, h3', obs, oms, bin_add, bin_sub, bin_lss, bin_leq, bin_gtr, bin_geq, bin_eql, bin_neq, bin_eqlB, bin_neqB, un_not, cond_B, gd_B, gd_undef, gdH_B, gdH_undef, pickA_B, extractA_tup, lenA_sl, lenA_row, fldA_fp, fldA_ptr, fldA_rptr, List.getElem?_cons_zero, List.getElem?_cons_succ, decide_true, decide_false, if_true, if_false, Bool.true_eq_false, Bool.false_eq_true, Bool.not_true, Bool.not_false]
      rfl
  induction c with
  | zero =>
    intro i j hc hij hj h1 h2
    have : i = j := by omega
    subst this
    exact fin i hj h1 h2
  | succ c ih =>
    intro i j hc hij hj h1 h2
    by_cases he : i = j
    · subst he; exact fin i hj h1 h2
    have hlt : (i : Int) < j := by omega
    have hm : (i + j) / 2 < zs.length := by omega
    have w2 : IntKind.i64.wrap ((((i + j) / 2 : Nat) : Int) + 1) = (((i + j) / 2 + 1 : Nat) : Int) := by rw [wrap_id (by omega), nxt]
    have hmid : ∀ a b (ha : a < zs.length) (hb : b < zs.length), a ≤ b → zs[a] ≤ zs[b] := fun a b ha hb hab => by
      by_cases e : a = b
      · subst e; exact Int.le_refl _
      · have h3 : zs[a] < zs[b] := List.pairwise_iff_getElem.mp hs a b ha hb (by omega)
        omega
    by_cases h3 : zs[(i + j) / 2] < x
    · obtain ⟨r, e, hr⟩ := ih ((i + j) / 2 + 1) j (by omega) (by omega) hj (fun k hk h4 => by have := hmid k ((i + j) / 2) hk hm (by omega); omega) h2
      refine ⟨r, ?_, hr⟩
      rw [L98_8_eq]
      simp only [hlt, c64w _ _ (show i + j < 2 ^ 64 by omega), sh1, c64' _ (show (i + j) / 2 < 2 ^ 63 by omega), idxV hm, ldV hm, call139, h3, w2, obs, oms, bin_add, bin_sub, bin_lss, bin_leq, bin_gtr, bin_geq, bin_eql, bin_neq, bin_eqlB, bin_neqB, un_not, cond_B, gd_B, gd_undef, gdH_B, gdH_undef, pickA_B, extractA_tup, lenA_sl, lenA_row, fldA_fp, fldA_ptr, fldA_rptr, List.getElem?_cons_zero, List.getElem?_cons_succ, decide_true, decide_false, if_true, if_false, Bool.true_eq_false, Bool.false_eq_true, Bool.not_true, Bool.not_false]
      exact e
    · obtain ⟨r, e, hr⟩ := ih i ((i + j) / 2) (by omega) (by omega) (by omega) h1 (fun k hk h4 => by have := hmid ((i + j) / 2) k hm hk h4; omega)
      refine ⟨r, ?_, hr⟩
      rw [L98_8_eq]
      simp only [hlt, c64w _ _ (show i + j < 2 ^ 64 by omega), sh1, c64' _ (show (i + j) / 2 < 2 ^ 63 by omega), idxV hm, ldV hm, call139, h3, obs, oms, bin_add, bin_sub, bin_lss, bin_leq, bin_gtr, bin_geq, bin_eql, bin_neq, bin_eqlB, bin_neqB, un_not, cond_B, gd_B, gd_undef, gdH_B, gdH_undef, pickA_B, extractA_tup, lenA_sl, lenA_row, fldA_fp, fldA_ptr, fldA_rptr, List.getElem?_cons_zero, List.getElem?_cons_succ, decide_true, decide_false, if_true, if_false, Bool.true_eq_false, Bool.false_eq_true, Bool.not_true, Bool.not_false]
      exact e
theorem call98 (hs : zs.Pairwise plt) (hl : zs.length < 2 ^ 63) : ∃ r : Nat, Found zs x r ∧ ∀ lo H, callA cfg O 98 [V nl tg zs, I x] lo H = some (.tup [I r, B (dec (x ∈ zs))], H) := by
  obtain ⟨r, e, hr⟩ := loop98 (nl := nl) (tg := tg) (x := x) hs hl zs.length 0 zs.length (by omega) (by omega) (Nat.le_refl _) (fun k _ h => by omega) (fun k h h2 => by omega)
  refine ⟨r, hr, fun lo H => callA_pure (xs := [.sl nl tg zs.length (zs.map Ia), Ia x]) (H' := []) (rs := [I r, B (dec (x ∈ zs))]) rfl ?_ rfl⟩
  show O.ent 98 [V nl tg zs, I x] [] [] = _
  rw [f98_eq]
  simp only [lenA_sl, obs]
  exact e
end

/-! ### Lists compared -/
section
variable {n1 n2 : Option Bool} {t1 t2 : Bool} {a b : List Int}
theorem drop_iff {i : Nat} (ha : i < a.length) (hb : i < b.length) : a.drop i = b.drop i ↔ a[i] = b[i] ∧ a.drop (i + 1) = b.drop (i + 1) := by
  rw [List.drop_eq_getElem_cons ha, List.drop_eq_getElem_cons hb, List.cons.injEq]
theorem ent23 (hl : a.length < 2 ^ 63) : O.ent 23 [V n1 t1 a, V n2 t2 b] [] [] = some ([B (dec (a = b))], []) := by
  rw [f23_eq]
  by_cases h : a.length = b.length
  · have h' : (a.length : Int) = b.length := by omega
    have go : ∀ (c i : Nat), a.length - i = c → i ≤ a.length → L23_10 [V n1 t1 a, V n2 t2 b, I i] [] [] = some ([B (dec (a.drop i = b.drop i))], []) := by
      intro c
      induction c with
      | zero =>
        intro i hc hi
        have : i = a.length := by omega
        subst this
        rw [L23_10_eq, dec_iff.mpr (by rw [List.drop_length, h, List.drop_length])]
        simp only [Int.lt_irrefl, obs, oms, bin_add, bin_sub, bin_lss, bin_leq, bin_gtr, bin_geq, bin_eql, bin_neq, bin_eqlB, bin_neqB, un_not, cond_B, gd_B, gd_undef, gdH_B, gdH_undef, pickA_B, extractA_tup, lenA_sl, lenA_row, fldA_fp, fldA_ptr, fldA_rptr, List.getElem?_cons_zero, List.getElem?_cons_succ, decide_true, decide_false, if_true, if_false, Bool.true_eq_false, Bool.false_eq_true, Bool.not_true, Bool.not_false]
        rfl
      | succ c ih =>
        intro i hc hi
        have ha : i < a.length := by omega
        have hb : i < b.length := by omega
        have hlt : (i : Int) < a.length := by omega
        have w : IntKind.i64.wrap ((i : Int) + 1) = ((i + 1 : Nat) : Int) := by rw [wrap_id (by omega), nxt]
        rw [L23_10_eq]
        by_cases he : a[i] = b[i]
        · have fin := ih (i + 1) (by omega) (by omega)
          rw [dec_congr (show a.drop (i + 1) = b.drop (i + 1) ↔ a.drop i = b.drop i by rw [drop_iff ha hb]; simp [he])] at fin
          simp only [hlt, idxV ha, ldV ha, idxV hb, ldV hb, he, w, obs, oms, bin_add, bin_sub, bin_lss, bin_leq, bin_gtr, bin_geq, bin_eql, bin_neq, bin_eqlB, bin_neqB, un_not, cond_B, gd_B, gd_undef, gdH_B, gdH_undef, pickA_B, extractA_tup, lenA_sl, lenA_row, fldA_fp, fldA_ptr, fldA_rptr, List.getElem?_cons_zero, List.getElem?_cons_succ, decide_true, decide_false, if_true, if_false, Bool.true_eq_false, Bool.false_eq_true, Bool.not_true, Bool.not_false]
          exact fin
        · rw [dec_f fun h => he ((drop_iff ha hb).mp h).1]
          simp only [hlt, idxV ha, ldV ha, idxV hb, ldV hb, he, obs, oms, bin_add, bin_sub, bin_lss, bin_leq, bin_gtr, bin_geq, bin_eql, bin_neq, bin_eqlB, bin_neqB, un_not, cond_B, gd_B, gd_undef, gdH_B, gdH_undef, pickA_B, extractA_tup, lenA_sl, lenA_row, fldA_fp, fldA_ptr, fldA_rptr, List.getElem?_cons_zero, List.getElem?_cons_succ, decide_true, decide_false, if_true, if_false, Bool.true_eq_false, Bool.false_eq_true, Bool.not_true, Bool.not_false]
          rfl
    simp only [h', obs, oms, bin_add, bin_sub, bin_lss, bin_leq, bin_gtr, bin_geq, bin_eql, bin_neq, bin_eqlB, bin_neqB, un_not, cond_B, gd_B, gd_undef, gdH_B, gdH_undef, pickA_B, extractA_tup, lenA_sl, lenA_row, fldA_fp, fldA_ptr, fldA_rptr, List.getElem?_cons_zero, List.getElem?_cons_succ, decide_true, decide_false, if_true, if_false, Bool.true_eq_false, Bool.false_eq_true, Bool.not_true, Bool.not_false]
    have := go a.length 0 rfl (by omega)
    simpa using this
  · have h' : ¬ (a.length : Int) = b.length := by omega
    rw [dec_f fun e => h (by rw [e])]
    simp only [h', obs, oms, bin_add, bin_sub, bin_lss, bin_leq, bin_gtr, bin_geq, bin_eql, bin_neq, bin_eqlB, bin_neqB, un_not, cond_B, gd_B, gd_undef, gdH_B, gdH_undef, pickA_B, extractA_tup, lenA_sl, lenA_row, fldA_fp, fldA_ptr, fldA_rptr, List.getElem?_cons_zero, List.getElem?_cons_succ, decide_true, decide_false, if_true, if_false, Bool.true_eq_false, Bool.false_eq_true, Bool.not_true, Bool.not_false]
    rfl
theorem ent101 (hl : a.length < 2 ^ 63) : O.ent 101 [V n1 t1 a, V n2 t2 b] [] [] = some ([B (dec (a = b))], []) := by
  rw [f101_eq]
  by_cases h : a.length = b.length
  · have h' : (a.length : Int) = b.length := by omega
    have go : ∀ (c i : Nat), a.length - i = c → i ≤ a.length → L101_10 [V n1 t1 a, V n2 t2 b, I a.length, I i] [] [] = some ([B (dec (a.drop i = b.drop i))], []) := by
      intro c
      induction c with
      | zero =>
        intro i hc hi
        have : i = a.length := by omega
        subst this
        rw [L101_10_eq, dec_iff.mpr (by rw [List.drop_length, h, List.drop_length])]
        simp only [Int.lt_irrefl, obs, oms, bin_add, bin_sub, bin_lss, bin_leq, bin_gtr, bin_geq, bin_eql, bin_neq, bin_eqlB, bin_neqB, un_not, cond_B, gd_B, gd_undef, gdH_B, gdH_undef, pickA_B, extractA_tup, lenA_sl, lenA_row, fldA_fp, fldA_ptr, fldA_rptr, List.getElem?_cons_zero, List.getElem?_cons_succ, decide_true, decide_false, if_true, if_false, Bool.true_eq_false, Bool.false_eq_true, Bool.not_true, Bool.not_false]
        rfl
      | succ c ih =>
        intro i hc hi
        have ha : i < a.length := by omega
        have hb : i < b.length := by omega
        have hlt : (i : Int) < a.length := by omega
        have w : IntKind.i64.wrap ((i : Int) + 1) = ((i + 1 : Nat) : Int) := by rw [wrap_id (by omega), nxt]
        rw [L101_10_eq]
        by_cases he : a[i] = b[i]
        · have fin := ih (i + 1) (by omega) (by omega)
          rw [dec_congr (show a.drop (i + 1) = b.drop (i + 1) ↔ a.drop i = b.drop i by rw [drop_iff ha hb]; simp [he])] at fin
          simp only [hlt, idxV ha, ldV ha, idxV hb, ldV hb, he, w, obs, oms, bin_add, bin_sub, bin_lss, bin_leq, bin_gtr, bin_geq, bin_eql, bin_neq, bin_eqlB, bin_neqB, un_not, cond_B, gd_B, gd_undef, gdH_B, gdH_undef, pickA_B, extractA_tup, lenA_sl, lenA_row, fldA_fp, fldA_ptr, fldA_rptr, List.getElem?_cons_zero, List.getElem?_cons_succ, decide_true, decide_false, if_true, if_false, Bool.true_eq_false, Bool.false_eq_true, Bool.not_true, Bool.not_false]
          exact fin
        · rw [dec_f fun h => he ((drop_iff ha hb).mp h).1]
          simp only [hlt, idxV ha, ldV ha, idxV hb, ldV hb, he, obs, oms, bin_add, bin_sub, bin_lss, bin_leq, bin_gtr, bin_geq, bin_eql, bin_neq, bin_eqlB, bin_neqB, un_not, cond_B, gd_B, gd_undef, gdH_B, gdH_undef, pickA_B, extractA_tup, lenA_sl, lenA_row, fldA_fp, fldA_ptr, fldA_rptr, List.getElem?_cons_zero, List.getElem?_cons_succ, decide_true, decide_false, if_true, if_false, Bool.true_eq_false, Bool.false_eq_true, Bool.not_true, Bool.not_false]
          rfl
    have hg := go a.length 0 rfl (by omega)
    simp only [List.drop_zero] at hg
    rw [h] at hg
    simp only [h, obs, oms, bin_add, bin_sub, bin_lss, bin_leq, bin_gtr, bin_geq, bin_eql, bin_neq, bin_eqlB, bin_neqB, un_not, cond_B, gd_B, gd_undef, gdH_B, gdH_undef, pickA_B, extractA_tup, lenA_sl, lenA_row, fldA_fp, fldA_ptr, fldA_rptr, List.getElem?_cons_zero, List.getElem?_cons_succ, decide_true, decide_false, if_true, if_false, Bool.true_eq_false, Bool.false_eq_true, Bool.not_true, Bool.not_false]
    exact hg
  · have h' : ¬ (a.length : Int) = b.length := by omega
    rw [dec_f fun e => h (by rw [e])]
    simp only [h', obs, oms, bin_add, bin_sub, bin_lss, bin_leq, bin_gtr, bin_geq, bin_eql, bin_neq, bin_eqlB, bin_neqB, un_not, cond_B, gd_B, gd_undef, gdH_B, gdH_undef, pickA_B, extractA_tup, lenA_sl, lenA_row, fldA_fp, fldA_ptr, fldA_rptr, List.getElem?_cons_zero, List.getElem?_cons_succ, decide_true, decide_false, if_true, if_false, Bool.true_eq_false, Bool.false_eq_true, Bool.not_true, Bool.not_false]
    rfl
theorem call23 (hl : a.length < 2 ^ 63) (lo : List Nat) (H : Heap) : callA cfg O 23 [V n1 t1 a, V n2 t2 b] lo H = some (B (dec (a = b)), H) :=
  callA_pure (xs := [.sl n1 t1 a.length (a.map Ia), .sl n2 t2 b.length (b.map Ia)]) (rs := [B (dec (a = b))]) rfl (ent23 hl) rfl
theorem call23o {o : AV} {H : Heap} (hl : a.length < 2 ^ 63) (h : Lst 1 o H b.length (b.map Ia)) (lo : List Nat) : callA cfg O 23 [V n1 t1 a, o] lo H = some (B (dec (a = b)), H) := by
  obtain ⟨n3, t3, q, ep⟩ := pureLst h
  refine callA_rows (H' := []) (rs := [B (dec (a = b))]) (ys := [V n1 t1 a, V n3 t3 b]) (b := false || (q || false)) rfl ?_ (ent23 hl) rfl rfl
  simp only [pureArgs, ep, obs, oms]
  rfl
theorem call101 (hl : a.length < 2 ^ 63) (lo : List Nat) (H : Heap) : callA cfg O 101 [V n1 t1 a, V n2 t2 b] lo H = some (B (dec (a = b)), H) :=
  callA_pure (xs := [.sl n1 t1 a.length (a.map Ia), .sl n2 t2 b.length (b.map Ia)]) (rs := [B (dec (a = b))]) rfl (ent101 hl) rfl
end
end Th
end Go.Proofs.Ytkhbbjfdbbnojaa
