import Derived.Test.YtkhbbjfdbbnojaaClXO
import Derived.Test.YtkhbbjfdbbnojaaCkM
import Derived.Test.YtkhbbjfdbbnojaaCkR
import Derived.Test.YtkhbbjfdbbnojaaEClocksTell
set_option linter.unusedVariables false
set_option linter.unusedSimpArgs false
namespace Go.Proofs.Ytkhbbjfdbbnojaa
open Go Go.AM Go.AM.Ck
namespace Cl

section
variable {l : List E} {nl : Option Bool} {tg : Bool} {th : Nat} {n2 : Option Bool} {t2 : Bool}

theorem edOk (l : List E) : Ok (ED l) (Th l) := ⟨fun i j h => h.1, fun i j h1 h2 h3 => ⟨h1, .inl ⟨h2, h3⟩⟩⟩
noncomputable abbrev VC (l : List E) (j t : Nat) : Nat := vc (ED l) (Th l) l.length j t

theorem cut1 (p : P2) (S : List P2) (H : Heap) : cutA 2 (Rw encP n2 t2 (p :: S)) (some (I 1)) none none H = some (Rw encP n2 t2 S) := by
  rw [cutA_lo (by simp; omega)]
  simp only [List.length_cons, List.flatMap_cons]
  rw [show (1 : Int).toNat * 2 = (encP p).length from rfl, List.drop_left, List.take_of_length_le (by rw [rows_length len2]; simp)]
  simp

theorem loop8 (hth : th ≤ 8) (hl : l.length ≤ 200) : ∀ (c j : Nat) (H : Heap), l.length - j = c → j ≤ l.length → H.length = j + 1 → Cx H ((0, .box ((psM l.length th j).map Prod.fst)) :: []) ((psM l.length th j).map gLl) →
    ∃ H', L129_8 [Rw enc nl tg l, I th, .bsl 0 l.length, I l.length, I j] [] H = L129_8 [Rw enc nl tg l, I th, .bsl 0 l.length, I l.length, I l.length] [] H' ∧ SS l.length th [] H' fun _ _ => 0 := by
  intro c
  induction c with
  | zero =>
    intro j H hc hj hlen h
    have : j = l.length := by omega
    subst this
    rw [made_all] at h
    exact ⟨H, rfl, h⟩
  | succ c ih =>
    intro j H hc hj hlen h
    have hlt : (j : Int) < l.length := by omega
    obtain ⟨H1, H2, e1, e2, hl2, h2⟩ := made_step (by omega) hlen h (by omega)
    obtain ⟨H', e3, h3⟩ := ih (j + 1) H2 (by omega) (by omega) hl2 h2
    refine ⟨H', ?_, h3⟩
    rw [← e3, L129_8_eq]
    have i1 : idxA 1 (.bsl 0 l.length) (I j) = some (.ptr 0 j) := rr_idx (by omega)
    simp only [hlt, e1, i1, e2, obs, oms, bin_add, bin_sub, bin_lss, bin_leq, bin_gtr, bin_geq, bin_eql, bin_neq, bin_eqlB, bin_neqB, un_not, cond_B, gd_B, gd_undef, gdH_B, gdH_undef, pickA_B, extractA_tup, lenA_sl, lenA_row, fldA_fp, fldA_ptr, fldA_rptr, List.getElem?_cons_zero, List.getElem?_cons_succ, decide_true, decide_false, if_true, if_false, Bool.true_eq_false, Bool.false_eq_true, Bool.not_true, Bool.not_false]
    rw [wrap_id (by omega), nxt]

theorem loop28 {i j : Nat} (hi : i < l.length) (hj : j < l.length) (hij : i ≠ j) (hl : l.length ≤ 200) (hth : th ≤ 8) {X : List (Nat × AObj)} {ep : AV} {p : P2} {S : List P2} : ∀ (c t : Nat) (H : Heap) (g : Nat → Nat → Nat), th - t = c → t ≤ th → SN l.length th X H g →
    ∃ H' g', L129_28 [.bsl 0 l.length, Rw encP n2 t2 (p :: S), I j, ep, Rw enc nl tg l, I l.length, I j, .row (i + 1) 0 0 th, I th, I t] [] H = L129_24 [.bsl 0 l.length, Rw encP n2 t2 S, I j, ep, Rw enc nl tg l, I l.length, I j] [] H' ∧ SN l.length th X H' g' ∧
      (∀ a b, a ≠ j → g' a b = g a b) ∧ (∀ b, g' j b = if t ≤ b ∧ b < th then max (g j b) (g i b) else g j b) := by
  intro c
  induction c with
  | zero =>
    intro t H g hc ht h
    have : t = th := by omega
    subst this
    refine ⟨H, g, ?_, h, fun _ _ _ => rfl, fun b => by rw [if_neg (by omega)]⟩
    rw [L129_28_eq]
    simp only [Int.lt_irrefl, cut1, obs, oms, bin_add, bin_sub, bin_lss, bin_leq, bin_gtr, bin_geq, bin_eql, bin_neq, bin_eqlB, bin_neqB, un_not, cond_B, gd_B, gd_undef, gdH_B, gdH_undef, pickA_B, extractA_tup, lenA_sl, lenA_row, fldA_fp, fldA_ptr, fldA_rptr, List.getElem?_cons_zero, List.getElem?_cons_succ, decide_true, decide_false, if_true, if_false, Bool.true_eq_false, Bool.false_eq_true, Bool.not_true, Bool.not_false]
  | succ c ih =>
    intro t H g hc ht h
    have ht' : t < th := by omega
    have hlt : (t : Int) < th := by omega
    obtain ⟨i1, l1, _⟩ := h.cell hi ht'
    obtain ⟨i2, l2, st⟩ := h.cell hj ht'
    obtain ⟨H1, e1, h1⟩ := st (max (g j t) (g i t)) []
    have ib : idxA 1 (.bsl 0 l.length) (I j) = some (.ptr 0 j) := rr_idx hj
    have lb := SS.ldRow h hj
    have hm : max ((g j t : Nat) : Int) (g i t) = ((max (g j t) (g i t) : Nat) : Int) := by omega
    obtain ⟨H', g', e2, h2, k1, k2⟩ := ih (t + 1) H1 _ (by omega) (by omega) h1
    refine ⟨H', g', ?_, h2, fun a b ha => ?_, fun b => ?_⟩
    · rw [← e2, L129_28_eq]
      simp only [hlt, i1, l1, i2, l2, ib, lb, bests_max, hm, e1, obs, oms, bin_add, bin_sub, bin_lss, bin_leq, bin_gtr, bin_geq, bin_eql, bin_neq, bin_eqlB, bin_neqB, un_not, cond_B, gd_B, gd_undef, gdH_B, gdH_undef, pickA_B, extractA_tup, lenA_sl, lenA_row, fldA_fp, fldA_ptr, fldA_rptr, List.getElem?_cons_zero, List.getElem?_cons_succ, decide_true, decide_false, if_true, if_false, Bool.true_eq_false, Bool.false_eq_true, Bool.not_true, Bool.not_false]
      rw [wrap_id (by omega), nxt]
    · rw [k1 a b ha]
      unfold updN
      rw [if_neg fun h => ha h.1]
    · rw [k2 b]
      unfold updN
      by_cases hb : b = t
      · subst hb
        rw [if_neg (by omega), if_pos ⟨rfl, rfl⟩, if_pos ⟨Nat.le_refl _, ht'⟩]
      · have e3 : ¬ (i = j ∧ b = t) := fun h => hij h.1
        rw [if_neg (show ¬ (j = j ∧ b = t) from fun h => hb h.2), if_neg e3]
        by_cases hc : t + 1 ≤ b ∧ b < th
        · rw [if_pos hc, if_pos (by omega)]
        · rw [if_neg hc, if_neg (by omega)]

theorem loop24 {j tj : Nat} (hj : j < l.length) (hl : l.length ≤ 200) (hth : th ≤ 8) (htj : Th l j = tj) (htj2 : tj < th) {X : List (Nat × AObj)} {pe : Nat} (hpe : (pe, bxE (l.getD j z0)) ∈ X) {tl : List P2} (htl : ∀ p, p ∈ tl → p.2 ≠ j) (hSl : tl.length < 2 ^ 40) :
    ∀ (is : List Nat) (H : Heap) (g : Nat → Nat → Nat), (∀ i, i ∈ is → i < j) → is.length < 2 ^ 40 → (∀ a b, g a b ≤ 200) → SN l.length th X H g →
    ∃ H' g', L129_24 [.bsl 0 l.length, Rw encP n2 t2 (is.map (fun i : Nat => ((i : Int), (j : Int))) ++ tl), I j, .ptr pe 0, Rw enc nl tg l, I l.length, I j] [] H = L129_20 [.bsl 0 l.length, Rw encP n2 t2 tl, Rw enc nl tg l, I l.length, I ((j + 1 : Nat) : Int)] [] H' ∧ SN l.length th X H' g' ∧
      (∀ a b, a ≠ j → g' a b = g a b) ∧ (∀ b, b < th → g' j b = (is.map fun i => g i b).foldl max (g j b) + if b = tj then 1 else 0) ∧ ∀ b, th ≤ b → g' j b = g j b := by
  intro is
  have ib : idxA 1 (.bsl 0 l.length) (I j) = some (.ptr 0 j) := rr_idx hj
  induction is with
  | nil =>
    intro H g his hisl hg h
    have lb := SS.ldRow h hj
    obtain ⟨i2, l2, st⟩ := h.cell hj htj2
    obtain ⟨H1, e1, h1⟩ := st (g j tj + 1) []
    have hpb : H[pe]? = some (bxE (l.getD j z0)) := Cx.at h (List.mem_cons_of_mem _ hpe)
    have lt := bT hpb
    have w1 : IntKind.i64.wrap ((g j tj : Int) + 1) = ((g j tj + 1 : Nat) : Int) := by have := hg j tj; rw [wrap_id (by omega), nxt]
    have w2 : IntKind.i64.wrap ((j : Int) + 1) = ((j + 1 : Nat) : Int) := by rw [wrap_id (by omega), nxt]
    refine ⟨H1, _, ?_, h1, fun a b ha => ?_, fun b hb => ?_, fun b hb => ?_⟩
    · rw [L129_24_eq]
      cases tl with
      | nil =>
        simp only [List.map_nil, List.append_nil, List.length_nil, Int.lt_irrefl, ib, lb, lt, htj, i2, l2, w1, e1, w2, obs, oms, bin_add, bin_sub, bin_lss, bin_leq, bin_gtr, bin_geq, bin_eql, bin_neq, bin_eqlB, bin_neqB, un_not, cond_B, gd_B, gd_undef, gdH_B, gdH_undef, pickA_B, extractA_tup, lenA_sl, lenA_row, fldA_fp, fldA_ptr, fldA_rptr, List.getElem?_cons_zero, List.getElem?_cons_succ, decide_true, decide_false, if_true, if_false, Bool.true_eq_false, Bool.false_eq_true, Bool.not_true, Bool.not_false]
        rfl
      | cons p tl =>
        have hp : p.2 ≠ (j : Int) := htl p (by simp)
        have h0 : (0 : Int) < ((p :: tl).length : Nat) := by simp
        have ip : idxA 2 (Rw encP n2 t2 (p :: tl)) (I 0) = some (.fp ((p :: tl).flatMap encP) (0 * 2)) := idxR (i := 0) (by simp)
        have lp : ld false 1 (.fp ((p :: tl).flatMap encP) (0 * 2 + 1)) H = some (I p.2) := by rw [fldR len2 (by simp) (by omega)]; rfl
        simp only [List.map_nil, List.nil_append, h0, ip, lp, hp, ib, lb, lt, htj, i2, l2, w1, e1, w2, obs, oms, bin_add, bin_sub, bin_lss, bin_leq, bin_gtr, bin_geq, bin_eql, bin_neq, bin_eqlB, bin_neqB, un_not, cond_B, gd_B, gd_undef, gdH_B, gdH_undef, pickA_B, extractA_tup, lenA_sl, lenA_row, fldA_fp, fldA_ptr, fldA_rptr, List.getElem?_cons_zero, List.getElem?_cons_succ, decide_true, decide_false, if_true, if_false, Bool.true_eq_false, Bool.false_eq_true, Bool.not_true, Bool.not_false]
    · unfold updN
      rw [if_neg fun h => ha h.1]
    · unfold updN
      by_cases e : b = tj
      · subst e; simp
      · simp [e]
    · unfold updN
      rw [if_neg fun h => by omega]
  | cons i is ih =>
    intro H g his hisl hg h
    have hij := his i (by simp)
    have hp : (List.map (fun i : Nat => ((i : Int), (j : Int))) (i :: is) ++ tl) = ((i : Int), (j : Int)) :: (is.map (fun i : Nat => ((i : Int), (j : Int))) ++ tl) := rfl
    rw [hp]
    obtain ⟨H1, g1, e1, h1, k1, k2⟩ := loop28 (nl := nl) (tg := tg) (n2 := n2) (t2 := t2) (p := ((i : Int), (j : Int))) (S := is.map (fun i : Nat => ((i : Int), (j : Int))) ++ tl) (ep := .ptr pe 0) (show i < l.length by omega) hj (by omega) hl hth th 0 H g rfl (by omega) h
    obtain ⟨H', g', e2, h2, k3, k4, k5⟩ := ih H1 g1 (fun q hq => his q (List.mem_cons_of_mem _ hq)) (by simp at hisl; omega) (fun a b => by
      by_cases ha : a = j
      · subst ha
        rw [k2]
        have := hg a b
        have := hg i b
        split <;> omega
      · rw [k1 a b ha]; exact hg a b) h1
    have h0 : (0 : Int) < ((((i : Int), (j : Int)) :: (is.map (fun i : Nat => ((i : Int), (j : Int))) ++ tl)).length : Nat) := by simp; omega
    have ip : idxA 2 (Rw encP n2 t2 (((i : Int), (j : Int)) :: (is.map (fun i : Nat => ((i : Int), (j : Int))) ++ tl))) (I 0) = some (.fp ((((i : Int), (j : Int)) :: (is.map (fun i : Nat => ((i : Int), (j : Int))) ++ tl)).flatMap encP) (0 * 2)) := idxR (i := 0) (by simp)
    have lp : ld false 1 (.fp ((((i : Int), (j : Int)) :: (is.map (fun i : Nat => ((i : Int), (j : Int))) ++ tl)).flatMap encP) (0 * 2 + 1)) H = some (I j) := by rw [fldR len2 (by simp) (by omega)]; rfl
    have lq : ld false 1 (.fp ((((i : Int), (j : Int)) :: (is.map (fun i : Nat => ((i : Int), (j : Int))) ++ tl)).flatMap encP) (0 * 2 + 0)) H = some (I i) := by rw [fldR len2 (by simp) (by omega)]; rfl
    have iq : idxA 1 (.bsl 0 l.length) (I i) = some (.ptr 0 i) := rr_idx (by omega)
    have lrow := SS.ldRow h (show i < l.length by omega)
    refine ⟨H', g', ?_, h2, fun a b ha => ?_, fun b hb => ?_, fun b hb => ?_⟩
    · rw [← e2, ← e1, L129_24_eq]
      simp only [h0, ip, lp, lq, iq, lrow, obs, oms, bin_add, bin_sub, bin_lss, bin_leq, bin_gtr, bin_geq, bin_eql, bin_neq, bin_eqlB, bin_neqB, un_not, cond_B, gd_B, gd_undef, gdH_B, gdH_undef, pickA_B, extractA_tup, lenA_sl, lenA_row, fldA_fp, fldA_ptr, fldA_rptr, List.getElem?_cons_zero, List.getElem?_cons_succ, decide_true, decide_false, if_true, if_false, Bool.true_eq_false, Bool.false_eq_true, Bool.not_true, Bool.not_false]
      rfl
    · rw [k3 a b ha, k1 a b ha]
    · rw [k4 b hb, k2 b, if_pos ⟨by omega, hb⟩, List.map_cons, List.foldl_cons]
      have e3 : (is.map fun i => g1 i b) = is.map fun i => g i b := List.map_congr_left fun q hq => k1 q b (by have := his q (List.mem_cons_of_mem _ hq); omega)
      rw [e3]
    · rw [k5 b hb, k2 b, if_neg (by omega)]
end
end Cl
end Go.Proofs.Ytkhbbjfdbbnojaa
