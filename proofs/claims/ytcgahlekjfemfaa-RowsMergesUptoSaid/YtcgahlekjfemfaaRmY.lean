import Derived.Test.YtcgahlekjfemfaaRmX
set_option linter.unusedVariables false
set_option linter.unusedSimpArgs false
namespace Go.Proofs.Ytcgahlekjfemfaa
open Go Go.AM
namespace Rm
abbrev lp (nl : Option Bool) (tg : Bool) (l : List E) : PV := .sl nl tg l.length (l.flatMap enc)
abbrev L (nl : Option Bool) (tg : Bool) (l : List E) : AV := .p (lp nl tg l)
theorem flen (l : List E) : (l.flatMap enc).length = l.length * 12 := rows_length hE l
section
variable {nl : Option Bool} {tg : Bool} {l : List E}
theorem lix {k : Nat} (h : k < l.length) : idxA 12 (L nl tg l) (I k) = some (.fp (l.flatMap enc) (k * 12)) := by
  have := idxA_sl (sz := 12) (n := l.length) (nl := nl) (t := tg) (xs := l.flatMap enc) (j := (k : Int)) (by omega)
  simpa using this
theorem lld {k : Nat} (h : k < l.length) (H : Heap) : ld true 12 (.fp (l.flatMap enc) (k * 12)) H = some (av l[k]) := by
  rw [ldAgg_fp (by rw [flen]; omega), rows_part hE (List.getElem?_eq_getElem h)]
theorem lk {k : Nat} (h : k < l.length) (H : Heap) : ld false 1 (.fp (l.flatMap enc) (k * 12 + 1)) H = some (I (key l[k])) := by
  rw [ld_fp, rows_get hE (List.getElem?_eq_getElem h) (by omega), enc1]; rfl

theorem adj (h : ∀ i, (hi : i + 1 < l.length) → key (l[i]'(by omega)) ≤ key l[i + 1]) : Sd l := by
  have : ∀ (d i : Nat) (hi : i + d + 1 < l.length), key (l[i]'(by omega)) ≤ key l[i + d + 1] := by
    intro d
    induction d with
    | zero => intro i hi; exact h i hi
    | succ d ih => intro i hi; exact Int.le_trans (ih i (by omega)) (h (i + d + 1) hi)
  refine List.pairwise_iff_getElem.mpr fun i j hi hj hij => ?_
  have := this (j - i - 1) i (by omega)
  simpa [show i + (j - i - 1) + 1 = j by omega] using this

theorem steadyLoop (hl : l.length < 2 ^ 62) : ∀ (c i : Nat), l.length - i = c → (∀ j, (hj : j + 1 < l.length) → j + 1 < i → key (l[j]'(by omega)) ≤ key l[j + 1]) → 1 ≤ i → i ≤ l.length + 1 →
    ∃ b, L23_6 [L nl tg l, I i] [] [] = some ([B b], []) ∧ (b = true ↔ Sd l) := by
  intro c
  induction c with
  | zero =>
    intro i hc hs h1 hi
    refine ⟨true, ?_, ⟨fun _ => adj fun j hj => hs j hj (by omega), fun _ => rfl⟩⟩
    rw [L23_6_eq]
    simp only [obs, oms, bin_add, bin_sub, bin_lss, bin_leq, bin_gtr, bin_geq, bin_eql, bin_neq, bin_eqlB, bin_neqB, un_not, cond_B, gd_B, gd_undef, gdH_B, gdH_undef, pickA_B, extractA_tup, lenA_sl, lenA_row, fldA_fp, fldA_ptr, fldA_rptr, List.getElem?_cons_zero, List.getElem?_cons_succ, decide_true, decide_false, if_true, if_false, Bool.true_eq_false, Bool.false_eq_true, Bool.not_true, Bool.not_false, leave0_B]
    rw [if_neg (by simp; omega)]
  | succ c ih =>
    intro i hc hs h1 hi
    have hi' : i < l.length := by omega
    have hlt : (i : Int) < l.length := by omega
    have h2 : i - 1 < l.length := by omega
    rw [L23_6_eq]
    simp only [hlt, obs, oms, bin_add, bin_sub, bin_lss, bin_leq, bin_gtr, bin_geq, bin_eql, bin_neq, bin_eqlB, bin_neqB, un_not, cond_B, gd_B, gd_undef, gdH_B, gdH_undef, pickA_B, extractA_tup, lenA_sl, lenA_row, fldA_fp, fldA_ptr, fldA_rptr, List.getElem?_cons_zero, List.getElem?_cons_succ, decide_true, decide_false, if_true, if_false, Bool.true_eq_false, Bool.false_eq_true, Bool.not_true, Bool.not_false, lix hi', lk hi']
    rw [show IntKind.i64.wrap ((i : Int) - 1) = ((i - 1 : Nat) : Int) by rw [wrap_id (by omega)]; omega]
    simp only [lix h2, obs, oms, bin_add, bin_sub, bin_lss, bin_leq, bin_gtr, bin_geq, bin_eql, bin_neq, bin_eqlB, bin_neqB, un_not, cond_B, gd_B, gd_undef, gdH_B, gdH_undef, pickA_B, extractA_tup, lenA_sl, lenA_row, fldA_fp, fldA_ptr, fldA_rptr, List.getElem?_cons_zero, List.getElem?_cons_succ, decide_true, decide_false, if_true, if_false, Bool.true_eq_false, Bool.false_eq_true, Bool.not_true, Bool.not_false, lk h2, leave0_B]
    by_cases hk : key l[i] < key l[i - 1]
    · refine ⟨false, by simp only [hk, decide_true, if_true], ⟨fun e => (by cases e), fun e => ?_⟩⟩
      have := sd_get e (i := i - 1) (j := i) (by omega) hi'
      omega
    · obtain ⟨b, e1, e2⟩ := ih (i + 1) (by omega) (fun j hj hji => by
        by_cases e : j + 1 = i
        · have e' : j = i - 1 := by omega
          subst e'
          have : i - 1 + 1 = i := by omega
          simp only [this]
          omega
        · exact hs j hj (by omega)) (by omega) (by omega)
      refine ⟨b, ?_, e2⟩
      simp only [hk, decide_false, Bool.false_eq_true, if_false]
      rw [wrap_id (by omega), nxt, e1]

theorem sortedLoop (hl : l.length < 2 ^ 62) : ∀ (i : Nat), i < l.length → (∀ j, (hj : j + 1 < l.length) → i ≤ j → key (l[j]'(by omega)) ≤ key l[j + 1]) →
    ∃ b, L63_6 [L nl tg l, cl, I i] [] [] = some ([B b], []) ∧ (b = true ↔ Sd l) := by
  intro i
  induction i with
  | zero =>
    intro hi hs
    refine ⟨true, ?_, ⟨fun _ => adj fun j hj => hs j hj (by omega), fun _ => rfl⟩⟩
    rw [L63_6_eq]
    simp only [obs, oms, bin_add, bin_sub, bin_lss, bin_leq, bin_gtr, bin_geq, bin_eql, bin_neq, bin_eqlB, bin_neqB, un_not, cond_B, gd_B, gd_undef, gdH_B, gdH_undef, pickA_B, extractA_tup, lenA_sl, lenA_row, fldA_fp, fldA_ptr, fldA_rptr, List.getElem?_cons_zero, List.getElem?_cons_succ, decide_true, decide_false, if_true, if_false, Bool.true_eq_false, Bool.false_eq_true, Bool.not_true, Bool.not_false, leave0_B]
    rw [if_neg (by simp)]
  | succ i ih =>
    intro hi hs
    have hlt : (0 : Int) < (i + 1 : Nat) := by omega
    have h2 : i < l.length := by omega
    rw [L63_6_eq]
    simp only [hlt, obs, oms, bin_add, bin_sub, bin_lss, bin_leq, bin_gtr, bin_geq, bin_eql, bin_neq, bin_eqlB, bin_neqB, un_not, cond_B, gd_B, gd_undef, gdH_B, gdH_undef, pickA_B, extractA_tup, lenA_sl, lenA_row, fldA_fp, fldA_ptr, fldA_rptr, List.getElem?_cons_zero, List.getElem?_cons_succ, decide_true, decide_false, if_true, if_false, Bool.true_eq_false, Bool.false_eq_true, Bool.not_true, Bool.not_false, lix hi, lld hi]
    rw [show IntKind.i64.wrap (((i + 1 : Nat) : Int) - 1) = (i : Int) by rw [wrap_id (by omega)]; omega]
    simp only [lix h2, lld h2, obs, oms, bin_add, bin_sub, bin_lss, bin_leq, bin_gtr, bin_geq, bin_eql, bin_neq, bin_eqlB, bin_neqB, un_not, cond_B, gd_B, gd_undef, gdH_B, gdH_undef, pickA_B, extractA_tup, lenA_sl, lenA_row, fldA_fp, fldA_ptr, fldA_rptr, List.getElem?_cons_zero, List.getElem?_cons_succ, decide_true, decide_false, if_true, if_false, Bool.true_eq_false, Bool.false_eq_true, Bool.not_true, Bool.not_false, callCmp, cmpK_neg, leave0_B]
    by_cases hk : key l[i + 1] < key l[i]
    · refine ⟨false, by simp only [hk, decide_true, if_true], ⟨fun e => (by cases e), fun e => ?_⟩⟩
      have := sd_get e (i := i) (j := i + 1) (by omega) hi
      omega
    · obtain ⟨b, e1, e2⟩ := ih h2 (fun j hj hji => by
        by_cases e : j = i
        · subst e; omega
        · exact hs j hj (by omega))
      refine ⟨b, ?_, e2⟩
      simp only [hk, decide_false, Bool.false_eq_true, if_false]
      exact e1

theorem call23 (hl : l.length < 2 ^ 62) (lo : List Nat) (H : Heap) : ∃ b, callA cfg O 23 [L nl tg l] lo H = some (B b, H) ∧ (b = true ↔ Sd l) := by
  obtain ⟨b, e1, e2⟩ := steadyLoop (nl := nl) (tg := tg) hl _ 1 rfl (fun j hj h => by omega) (by omega) (by omega)
  exact ⟨b, callA_pure (xs := [lp nl tg l]) (H' := []) (rs := [B b]) rfl (by rw [show ([lp nl tg l].map AV.p) = [L nl tg l] from rfl, f23_eq]; exact e1) rfl, e2⟩
theorem call63 (hl : l.length < 2 ^ 62) (lo : List Nat) (H : Heap) : ∃ b, callA cfg O 63 [L nl tg l, cl] lo H = some (B b, H) ∧ (b = true ↔ Sd l) := by
  have key : ∃ b, O.ent 63 [L nl tg l, cl] [] [] = some ([B b], []) ∧ (b = true ↔ Sd l) := by
    rw [f63_eq]
    simp only [obs, oms, bin_add, bin_sub, bin_lss, bin_leq, bin_gtr, bin_geq, bin_eql, bin_neq, bin_eqlB, bin_neqB, un_not, cond_B, gd_B, gd_undef, gdH_B, gdH_undef, pickA_B, extractA_tup, lenA_sl, lenA_row, fldA_fp, fldA_ptr, fldA_rptr, List.getElem?_cons_zero, List.getElem?_cons_succ, decide_true, decide_false, if_true, if_false, Bool.true_eq_false, Bool.false_eq_true, Bool.not_true, Bool.not_false]
    rw [wrap_id (by omega)]
    by_cases h : l.length = 0
    · refine ⟨true, ?_, ⟨fun _ => by rw [List.length_eq_zero_iff.mp h]; exact .nil, fun _ => rfl⟩⟩
      rw [h, L63_6_eq]
      simp only [obs, oms, bin_add, bin_sub, bin_lss, bin_leq, bin_gtr, bin_geq, bin_eql, bin_neq, bin_eqlB, bin_neqB, un_not, cond_B, gd_B, gd_undef, gdH_B, gdH_undef, pickA_B, extractA_tup, lenA_sl, lenA_row, fldA_fp, fldA_ptr, fldA_rptr, List.getElem?_cons_zero, List.getElem?_cons_succ, decide_true, decide_false, if_true, if_false, Bool.true_eq_false, Bool.false_eq_true, Bool.not_true, Bool.not_false, leave0_B]
      rw [if_neg (by simp)]
    · rw [show (l.length : Int) - 1 = ((l.length - 1 : Nat) : Int) by omega]
      exact sortedLoop hl _ (by omega) (fun j hj h => by omega)
  obtain ⟨b, e1, e2⟩ := key
  exact ⟨b, callA_args (H' := []) (rs := [B b]) rfl rfl e1 rfl, e2⟩

theorem mergeLoop {m : List E} {n2 : Option Bool} {t2 : Bool} (hl : l.length + m.length ≤ 200) : ∀ (c i k : Nat) (o : AV) (H : Heap) (acc : List E), (l.length - i) + (m.length - k) = c → i ≤ l.length → k ≤ m.length → acc.length = i + k → Lst 12 o H acc.length (acc.flatMap enc) →
    ∃ n' t', L24_8 [L nl tg l, L n2 t2 m, o, I i, I k] [] H = some ([L n' t' (acc ++ mg (l.drop i) (m.drop k))], []) := by
  intro c
  induction c with
  | zero =>
    intro i k o H acc hc hi hk ha hL
    have h1 : l.drop i = [] := List.drop_eq_nil_of_le (by omega)
    have h2 : m.drop k = [] := List.drop_eq_nil_of_le (by omega)
    obtain ⟨n', t', H', e⟩ := hL.leave1 []
    have := leave0_heap e
    subst this
    refine ⟨n', t', ?_⟩
    have g1 : ¬ (i : Int) < l.length := by omega
    have g2 : ¬ (k : Int) < m.length := by omega
    rw [L24_8_eq]
    simp only [g1, g2, obs, oms, bin_add, bin_sub, bin_lss, bin_leq, bin_gtr, bin_geq, bin_eql, bin_neq, bin_eqlB, bin_neqB, un_not, cond_B, gd_B, gd_undef, gdH_B, gdH_undef, pickA_B, extractA_tup, lenA_sl, lenA_row, fldA_fp, fldA_ptr, fldA_rptr, List.getElem?_cons_zero, List.getElem?_cons_succ, decide_true, decide_false, if_true, if_false, Bool.true_eq_false, Bool.false_eq_true, Bool.not_true, Bool.not_false]
    rw [e, h1, h2, mg_nil_left, List.append_nil]
  | succ c ih =>
    intro i k o H acc hc hi hk ha hL
    have stepL : ∀ (h : i < l.length), mg (l.drop i) (m.drop k) = l[i] :: mg (l.drop (i + 1)) (m.drop k) → ∃ n' t', ((idxA 12 (L nl tg l) (I i)).bind fun x28 => (ld true 12 x28 H).bind fun x29 => (litA false 12 [x29] H).bind fun r30 => (appA 12 96 o r30.1 r30.2).bind fun r31 => (bin .add .int (I i) (I 1)).bind fun x32 => L24_8 [L nl tg l, L n2 t2 m, r31.1, x32, I k] [] r31.2) = some ([L n' t' (acc ++ mg (l.drop i) (m.drop k))], []) := fun h he => by
      have hlit : litA false 12 [av l[i]] H = some (.p (.sl (some false) true 1 (enc l[i])), H) := rfl
      obtain ⟨o', H', ea, hL', _⟩ := hL.app (bytes := 96) (y := .p (.sl (some false) true 1 (enc l[i]))) (k := 1) (new := enc l[i]) (by simp [cellsA, hE]) (by simp [hE]) (by omega) (by simp only [room]; omega)
      obtain ⟨n', t', e⟩ := ih (i + 1) k o' H' (acc ++ [l[i]]) (by omega) (by omega) hk (by simp; omega) (by simpa using hL')
      refine ⟨n', t', ?_⟩
      simp only [lix h, lld h, hlit, ea, obs, bin_add]
      rw [wrap_id (by omega), nxt, e, he]
      simp
    have stepR : ∀ (h : k < m.length), mg (l.drop i) (m.drop k) = m[k] :: mg (l.drop i) (m.drop (k + 1)) → ∃ n' t', ((idxA 12 (L n2 t2 m) (I k)).bind fun x28 => (ld true 12 x28 H).bind fun x29 => (litA false 12 [x29] H).bind fun r30 => (appA 12 96 o r30.1 r30.2).bind fun r31 => (bin .add .int (I k) (I 1)).bind fun x32 => L24_8 [L nl tg l, L n2 t2 m, r31.1, I i, x32] [] r31.2) = some ([L n' t' (acc ++ mg (l.drop i) (m.drop k))], []) := fun h he => by
      have hlit : litA false 12 [av m[k]] H = some (.p (.sl (some false) true 1 (enc m[k])), H) := rfl
      obtain ⟨o', H', ea, hL', _⟩ := hL.app (bytes := 96) (y := .p (.sl (some false) true 1 (enc m[k]))) (k := 1) (new := enc m[k]) (by simp [cellsA, hE]) (by simp [hE]) (by omega) (by simp only [room]; omega)
      obtain ⟨n', t', e⟩ := ih i (k + 1) o' H' (acc ++ [m[k]]) (by omega) hi (by omega) (by simp; omega) (by simpa using hL')
      refine ⟨n', t', ?_⟩
      simp only [lix h, lld h, hlit, ea, obs, bin_add]
      rw [wrap_id (by omega), nxt, e, he]
      simp
    rw [L24_8_eq]
    by_cases h1 : i < l.length
    · have g1 : (i : Int) < l.length := by omega
      by_cases h2 : k < m.length
      · have g2 : ¬ (k : Int) = m.length := by omega
        simp only [g1, g2, obs, oms, bin_add, bin_sub, bin_lss, bin_leq, bin_gtr, bin_geq, bin_eql, bin_neq, bin_eqlB, bin_neqB, un_not, cond_B, gd_B, gd_undef, gdH_B, gdH_undef, pickA_B, extractA_tup, lenA_sl, lenA_row, fldA_fp, fldA_ptr, fldA_rptr, List.getElem?_cons_zero, List.getElem?_cons_succ, decide_true, decide_false, if_true, if_false, Bool.true_eq_false, Bool.false_eq_true, Bool.not_true, Bool.not_false, lix h1, lix h2, lk h1, lk h2]
        have hd1 : l.drop i = l[i] :: l.drop (i + 1) := List.drop_eq_getElem_cons h1
        have hd2 : m.drop k = m[k] :: m.drop (k + 1) := List.drop_eq_getElem_cons h2
        by_cases hle : key l[i] ≤ key m[k]
        · simp only [hle, obs, oms, bin_add, bin_sub, bin_lss, bin_leq, bin_gtr, bin_geq, bin_eql, bin_neq, bin_eqlB, bin_neqB, un_not, cond_B, gd_B, gd_undef, gdH_B, gdH_undef, pickA_B, extractA_tup, lenA_sl, lenA_row, fldA_fp, fldA_ptr, fldA_rptr, List.getElem?_cons_zero, List.getElem?_cons_succ, decide_true, decide_false, if_true, if_false, Bool.true_eq_false, Bool.false_eq_true, Bool.not_true, Bool.not_false]
          have := stepL h1 (by conv => lhs; rw [hd1, hd2]; simp only [mg]; rw [List.cons_merge_cons, if_pos (by simpa [leK] using hle), ← hd2])
          simpa only [obs, bin_add, lix h1, lld h1] using this
        · simp only [hle, obs, oms, bin_add, bin_sub, bin_lss, bin_leq, bin_gtr, bin_geq, bin_eql, bin_neq, bin_eqlB, bin_neqB, un_not, cond_B, gd_B, gd_undef, gdH_B, gdH_undef, pickA_B, extractA_tup, lenA_sl, lenA_row, fldA_fp, fldA_ptr, fldA_rptr, List.getElem?_cons_zero, List.getElem?_cons_succ, decide_true, decide_false, if_true, if_false, Bool.true_eq_false, Bool.false_eq_true, Bool.not_true, Bool.not_false]
          have := stepR h2 (by conv => lhs; rw [hd1, hd2]; simp only [mg]; rw [List.cons_merge_cons, if_neg (by simpa [leK] using hle), ← hd1])
          simpa only [obs, bin_add, lix h2, lld h2] using this
      · have g2 : (k : Int) = m.length := by omega
        simp only [g1, g2, obs, oms, bin_add, bin_sub, bin_lss, bin_leq, bin_gtr, bin_geq, bin_eql, bin_neq, bin_eqlB, bin_neqB, un_not, cond_B, gd_B, gd_undef, gdH_B, gdH_undef, pickA_B, extractA_tup, lenA_sl, lenA_row, fldA_fp, fldA_ptr, fldA_rptr, List.getElem?_cons_zero, List.getElem?_cons_succ, decide_true, decide_false, if_true, if_false, Bool.true_eq_false, Bool.false_eq_true, Bool.not_true, Bool.not_false]
        have hd2 : m.drop k = [] := List.drop_eq_nil_of_le (by omega)
        have := stepL h1 (by rw [hd2, mg_nil_right, mg_nil_right, List.drop_eq_getElem_cons h1])
        rw [g2] at this
        simpa only [obs, bin_add] using this
    · have g1 : ¬ (i : Int) < l.length := by omega
      have h2 : k < m.length := by omega
      have g3 : (k : Int) < m.length := by omega
      have g2 : ¬ (k : Int) = m.length := by omega
      simp only [g1, g2, g3, obs, oms, bin_add, bin_sub, bin_lss, bin_leq, bin_gtr, bin_geq, bin_eql, bin_neq, bin_eqlB, bin_neqB, un_not, cond_B, gd_B, gd_undef, gdH_B, gdH_undef, pickA_B, extractA_tup, lenA_sl, lenA_row, fldA_fp, fldA_ptr, fldA_rptr, List.getElem?_cons_zero, List.getElem?_cons_succ, decide_true, decide_false, if_true, if_false, Bool.true_eq_false, Bool.false_eq_true, Bool.not_true, Bool.not_false]
      have hd1 : l.drop i = [] := List.drop_eq_nil_of_le (by omega)
      have := stepR h2 (by rw [hd1, mg_nil_left, mg_nil_left, List.drop_eq_getElem_cons h2])
      simpa only [obs, bin_add] using this
end
end Rm
end Go.Proofs.Ytcgahlekjfemfaa
