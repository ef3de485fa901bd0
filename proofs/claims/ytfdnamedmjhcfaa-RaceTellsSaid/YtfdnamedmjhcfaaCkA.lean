import Derived.Test.YtfdnamedmjhcfaaClM
import Derived.Test.YtfdnamedmjhcfaaCkM
import Derived.Test.YtfdnamedmjhcfaaCkR
import Derived.Test.YtfdnamedmjhcfaaERaceTells
set_option linter.unusedVariables false
set_option linter.unusedSimpArgs false
namespace Go.Proofs.Ytfdnamedmjhcfaa
open Go Go.AM Go.AM.Ck
namespace Cl

section
variable {l : List E} {nl : Option Bool} {tg : Bool} {th : Nat} {n2 : Option Bool} {t2 : Bool}

theorem edOk (l : List E) : Ok (ED l) (Th l) := ⟨fun i j h => h.1, fun i j h1 h2 h3 => ⟨h1, .inl ⟨h2, h3⟩⟩⟩
noncomputable abbrev VC (l : List E) (j t : Nat) : Nat := vc (ED l) (Th l) l.length j t

theorem cut1 (p : P2) (S : List P2) (H : Heap) : cutA 2 (Rw encP n2 t2 (p :: S)) (some (I 1)) none none H = some (Rw encP n2 t2 S) := by
  rw [cutA_lo (by simp; omega)]
  simp only [List.length_cons, List.flatMap_cons]
  rw [show (1 : Int).toNat * 2 = (encP p).length from rfl, List.drop_left, List.take_of_length_le (by rw [rows_length len2]; simp)]
  simp

theorem loop8 (hth : th ≤ 8) (hl : l.length ≤ 200) : ∀ (c j : Nat) (H : Heap), l.length - j = c → j ≤ l.length → H.length = j + 1 → Cx H ((0, .box ((psM l.length th j).map Prod.fst)) :: []) ((psM l.length th j).map gLl) →
    ∃ H', L25_8 [Rw enc nl tg l, I th, .bsl 0 l.length, I l.length, I j] [] H = L25_8 [Rw enc nl tg l, I th, .bsl 0 l.length, I l.length, I l.length] [] H' ∧ SS l.length th [] H' fun _ _ => 0 := by
  intro c
  induction c with
  | zero =>
    intro j H hc hj hlen h
    have : j = l.length := by omega
    subst this
    rw [made_all] at h
    exact ⟨H, rfl, h⟩
  | succ c ih =>
    intro j H hc hj hlen h
    have hlt : (j : Int) < l.length := by omega
    obtain ⟨H1, H2, e1, e2, hl2, h2⟩ := made_step (by omega) hlen h (by omega)
    obtain ⟨H', e3, h3⟩ := ih (j + 1) H2 (by omega) (by omega) hl2 h2
    refine ⟨H', ?_, h3⟩
    rw [← e3, L25_8_eq]
    have i1 : idxA 1 (.bsl 0 l.length) (I j) = some (.ptr 0 j) := rr_idx (by omega)
    simp only [hlt, e1, i1, e2, obs, oms, bin_add, bin_sub, bin_lss, bin_leq, bin_gtr, bin_geq, bin_eql, bin_neq, bin_eqlB, bin_neqB, un_not, cond_B, gd_B, gd_undef, gdH_B, gdH_undef, pickA_B, extractA_tup, lenA_sl, lenA_row, fldA_fp, fldA_ptr, fldA_rptr, List.getElem?_cons_zero, List.getElem?_cons_succ, decide_true, decide_false, if_true, if_false, Bool.true_eq_false, Bool.false_eq_true, Bool.not_true, Bool.not_false]
    rw [wrap_id (by omega), nxt]

theorem loop28 {i j : Nat} (hi : i < l.length) (hj : j < l.length) (hij : i ≠ j) (hl : l.length ≤ 200) (hth : th ≤ 8) {X : List (Nat × AObj)} {ep : AV} {p : P2} {S : List P2} : ∀ (c t : Nat) (H : Heap) (g : Nat → Nat → Nat), th - t = c → t ≤ th → SN l.length th X H g →
    ∃ H' g', L25_28 [.bsl 0 l.length, Rw encP n2 t2 (p :: S), I j, ep, Rw enc nl tg l, I l.length, I j, .row (i + 1) 0 0 th, I th, I t] [] H = L25_24 [.bsl 0 l.length, Rw encP n2 t2 S, I j, ep, Rw enc nl tg l, I l.length, I j] [] H' ∧ SN l.length th X H' g' ∧
      (∀ a b, a ≠ j → g' a b = g a b) ∧ (∀ b, g' j b = if t ≤ b ∧ b < th then max (g j b) (g i b) else g j b) := by
  intro c
  induction c with
  | zero =>
    intro t H g hc ht h
    have : t = th := by omega
    subst this
    refine ⟨H, g, ?_, h, fun _ _ _ => rfl, fun b => by rw [if_neg (by omega)]⟩
    rw [L25_28_eq]
    simp only [Int.lt_irrefl, cut1, obs, oms, bin_add, bin_sub, bin_lss, bin_leq, bin_gtr, bin_geq, bin_eql, bin_neq, bin_eqlB, bin_neqB, un_not, cond_B, gd_B, gd_undef, gdH_B, gdH_undef, pickA_B, extractA_tup, lenA_sl, lenA_row, fldA_fp, fldA_ptr, fldA_rptr, List.getElem?_cons_zero, List.getElem?_cons_succ, decide_true, decide_false, if_true, if_false, Bool.true_eq_false, Bool.false_eq_true, Bool.not_true, Bool.not_false]
  | succ c ih =>
    intro t H g hc ht h
    have ht' : t < th := by omega
    have hlt : (t : Int) < th := by omega
    obtain ⟨i1, l1, _⟩ := h.cell hi ht'
    obtain ⟨i2, l2, st⟩ := h.cell hj ht'
    obtain ⟨H1, e1, h1⟩ := st (max (g j t) (g i t)) []
    have ib : idxA 1 (.bsl 0 l.length) (I j) = some (.ptr 0 j) := rr_idx hj
    have lb := SS.ldRow h hj
    have hm : max ((g j t : Nat) : Int) (g i t) = ((max (g j t) (g i t) : Nat) : Int) := by omega
    obtain ⟨H', g', e2, h2, k1, k2⟩ := ih (t + 1) H1 _ (by omega) (by omega) h1
    refine ⟨H', g', ?_, h2, fun a b ha => ?_, fun b => ?_⟩
    · rw [← e2, L25_28_eq]
      simp only [hlt, i1, l1, i2, l2, ib, lb, bests_max, hm, e1, obs, oms, bin_add, bin_sub, bin_lss, bin_leq, bin_gtr, bin_geq, bin_eql, bin_neq, bin_eqlB, bin_neqB, un_not, cond_B, gd_B, gd_undef, gdH_B, gdH_undef, pickA_B, extractA_tup, lenA_sl, lenA_row, fldA_fp, fldA_ptr, fldA_rptr, List.getElem?_cons_zero, List.getElem?_cons_succ, decide_true, decide_false, if_true, if_false, Bool.true_eq_false, Bool.false_eq_true, Bool.not_true, Bool.not_false]
      rw [wrap_id (by omega), nxt]
    · rw [k1 a b ha]
      unfold updN
      rw [if_neg fun h => ha h.1]
    · rw [k2 b]
      unfold updN
      by_cases hb : b = t
      · subst hb
        rw [if_neg (by omega), if_pos ⟨rfl, rfl⟩, if_pos ⟨Nat.le_refl _, ht'⟩]
      · have e3 : ¬ (i = j ∧ b = t) := fun h => hij h.1
        rw [if_neg (show ¬ (j = j ∧ b = t) from fun h => hb h.2), if_neg e3]
        by_cases hc : t + 1 ≤ b ∧ b < th
        · rw [if_pos hc, if_pos (by omega)]
        · rw [if_neg hc, if_neg (by omega)]

theorem loop24 {j tj : Nat} (hj : j < l.length) (hl : l.length ≤ 200) (hth : th ≤ 8) (htj : Th l j = tj) (htj2 : tj < th) {X : List (Nat × AObj)} {pe : Nat} (hpe : (pe, bxE (l.getD j z0)) ∈ X) {tl : List P2} (htl : ∀ p, p ∈ tl → p.2 ≠ j) (hSl : tl.length < 2 ^ 40) :
    ∀ (is : List Nat) (H : Heap) (g : Nat → Nat → Nat), (∀ i, i ∈ is → i < j) → is.length < 2 ^ 40 → (∀ a b, g a b ≤ 200) → SN l.length th X H g →
    ∃ H' g', L25_24 [.bsl 0 l.length, Rw encP n2 t2 (is.map (fun i : Nat => ((i : Int), (j : Int))) ++ tl), I j, .ptr pe 0, Rw enc nl tg l, I l.length, I j] [] H = L25_20 [.bsl 0 l.length, Rw encP n2 t2 tl, Rw enc nl tg l, I l.length, I ((j + 1 : Nat) : Int)] [] H' ∧ SN l.length th X H' g' ∧
      (∀ a b, a ≠ j → g' a b = g a b) ∧ (∀ b, b < th → g' j b = (is.map fun i => g i b).foldl max (g j b) + if b = tj then 1 else 0) ∧ ∀ b, th ≤ b → g' j b = g j b := by
  intro is
  have ib : idxA 1 (.bsl 0 l.length) (I j) = some (.ptr 0 j) := rr_idx hj
  induction is with
  | nil =>
    intro H g his hisl hg h
    have lb := SS.ldRow h hj
    obtain ⟨i2, l2, st⟩ := h.cell hj htj2
    obtain ⟨H1, e1, h1⟩ := st (g j tj + 1) []
    have hpb : H[pe]? = some (bxE (l.getD j z0)) := Cx.at h (List.mem_cons_of_mem _ hpe)
    have lt := bT hpb
    have w1 : IntKind.i64.wrap ((g j tj : Int) + 1) = ((g j tj + 1 : Nat) : Int) := by have := hg j tj; rw [wrap_id (by omega), nxt]
    have w2 : IntKind.i64.wrap ((j : Int) + 1) = ((j + 1 : Nat) : Int) := by rw [wrap_id (by omega), nxt]
    refine ⟨H1, _, ?_, h1, fun a b ha => ?_, fun b hb => ?_, fun b hb => ?_⟩
    · rw [L25_24_eq]
      cases tl with
      | nil =>
        simp only [List.map_nil, List.append_nil, List.length_nil, Int.lt_irrefl, ib, lb, lt, htj, i2, l2, w1, e1, w2, obs, oms, bin_add, bin_sub, bin_lss, bin_leq, bin_gtr, bin_geq, bin_eql, bin_neq, bin_eqlB, bin_neqB, un_not, cond_B, gd_B, gd_undef, gdH_B, gdH_undef, pickA_B, extractA_tup, lenA_sl, lenA_row, fldA_fp, fldA_ptr, fldA_rptr, List.getElem?_cons_zero, List.getElem?_cons_succ, decide_true, decide_false, if_true, if_false, Bool.true_eq_false, Bool.false_eq_true, Bool.not_true, Bool.not_false]
        rfl
      | cons p tl =>
        have hp : p.2 ≠ (j : Int) := htl p (by simp)
        have h0 : (0 : Int) < ((p :: tl).length : Nat) := by simp
        have ip : idxA 2 (Rw encP n2 t2 (p :: tl)) (I 0) = some (.fp ((p :: tl).flatMap encP) (0 * 2)) := idxR (i := 0) (by simp)
        have lp : ld false 1 (.fp ((p :: tl).flatMap encP) (0 * 2 + 1)) H = some (I p.2) := by rw [fldR len2 (by simp) (by omega)]; rfl
        simp only [List.map_nil, List.nil_append, h0, ip, lp, hp, ib, lb, lt, htj, i2, l2, w1, e1, w2, obs, oms, bin_add, bin_sub, bin_lss, bin_leq, bin_gtr, bin_geq, bin_eql, bin_neq, bin_eqlB, bin_neqB, un_not, cond_B, gd_B, gd_undef, gdH_B, gdH_undef, pickA_B, extractA_tup, lenA_sl, lenA_row, fldA_fp, fldA_ptr, fldA_rptr, List.getElem?_cons_zero, List.getElem?_cons_succ, decide_true, decide_false, if_true, if_false, Bool.true_eq_false, Bool.false_eq_true, Bool.not_true, Bool.not_false]
    · unfold updN
      rw [if_neg fun h => ha h.1]
    · unfold updN
      by_cases e : b = tj
      · subst e; simp
      · simp [e]
    · unfold updN
      rw [if_neg fun h => by omega]
  | cons i is ih =>
    intro H g his hisl hg h
    have hij := his i (by simp)
    have hp : (List.map (fun i : Nat => ((i : Int), (j : Int))) (i :: is) ++ tl) = ((i : Int), (j : Int)) :: (is.map (fun i : Nat => ((i : Int), (j : Int))) ++ tl) := rfl
    rw [hp]
    obtain ⟨H1, g1, e1, h1, k1, k2⟩ := loop28 (nl := nl) (tg := tg) (n2 := n2) (t2 := t2) (p := ((i : Int), (j : Int))) (S := is.map (fun i : Nat => ((i : Int), (j : Int))) ++ tl) (ep := .ptr pe 0) (show i < l.length by omega) hj (by omega) hl hth th 0 H g rfl (by omega) h
    obtain ⟨H', g', e2, h2, k3, k4, k5⟩ := ih H1 g1 (fun q hq => his q (List.mem_cons_of_mem _ hq)) (by simp at hisl; omega) (fun a b => by
      by_cases ha : a = j
      · subst ha
        rw [k2]
        have := hg a b
        have := hg i b
        split <;> omega
      · rw [k1 a b ha]; exact hg a b) h1
    have h0 : (0 : Int) < ((((i : Int), (j : Int)) :: (is.map (fun i : Nat => ((i : Int), (j : Int))) ++ tl)).length : Nat) := by simp; omega
    have ip : idxA 2 (Rw encP n2 t2 (((i : Int), (j : Int)) :: (is.map (fun i : Nat => ((i : Int), (j : Int))) ++ tl))) (I 0) = some (.fp ((((i : Int), (j : Int)) :: (is.map (fun i : Nat => ((i : Int), (j : Int))) ++ tl)).flatMap encP) (0 * 2)) := idxR (i := 0) (by simp)
    have lp : ld false 1 (.fp ((((i : Int), (j : Int)) :: (is.map (fun i : Nat => ((i : Int), (j : Int))) ++ tl)).flatMap encP) (0 * 2 + 1)) H = some (I j) := by rw [fldR len2 (by simp) (by omega)]; rfl
    have lq : ld false 1 (.fp ((((i : Int), (j : Int)) :: (is.map (fun i : Nat => ((i : Int), (j : Int))) ++ tl)).flatMap encP) (0 * 2 + 0)) H = some (I i) := by rw [fldR len2 (by simp) (by omega)]; rfl
    have iq : idxA 1 (.bsl 0 l.length) (I i) = some (.ptr 0 i) := rr_idx (by omega)
    have lrow := SS.ldRow h (show i < l.length by omega)
    refine ⟨H', g', ?_, h2, fun a b ha => ?_, fun b hb => ?_, fun b hb => ?_⟩
    · rw [← e2, ← e1, L25_24_eq]
      simp only [h0, ip, lp, lq, iq, lrow, obs, oms, bin_add, bin_sub, bin_lss, bin_leq, bin_gtr, bin_geq, bin_eql, bin_neq, bin_eqlB, bin_neqB, un_not, cond_B, gd_B, gd_undef, gdH_B, gdH_undef, pickA_B, extractA_tup, lenA_sl, lenA_row, fldA_fp, fldA_ptr, fldA_rptr, List.getElem?_cons_zero, List.getElem?_cons_succ, decide_true, decide_false, if_true, if_false, Bool.true_eq_false, Bool.false_eq_true, Bool.not_true, Bool.not_false]
      rfl
    · rw [k3 a b ha, k1 a b ha]
    · rw [k4 b hb, k2 b, if_pos ⟨by omega, hb⟩, List.map_cons, List.foldl_cons]
      have e3 : (is.map fun i => g1 i b) = is.map fun i => g i b := List.map_congr_left fun q hq => k1 q b (by have := his q (List.mem_cons_of_mem _ hq); omega)
      rw [e3]
    · rw [k5 b hb, k2 b, if_neg (by omega)]
end
end Cl
end Go.Proofs.Ytfdnamedmjhcfaa

set_option linter.unusedVariables false
set_option linter.unusedSimpArgs false
namespace Go.Proofs.Ytfdnamedmjhcfaa
open Go Go.AM Go.AM.Ck
namespace Cl

section
variable {l : List E} {nl : Option Bool} {tg : Bool} {th : Nat} {n2 : Option Bool} {t2 : Bool}

noncomputable def isJ (l : List E) (j : Nat) : List Nat := (List.range j).filter fun q => dec (ED l q j)
theorem rw_isJ (l : List E) (j : Nat) : rw' l j j = (isJ l j).map fun i : Nat => ((i : Int), (j : Int)) := by
  unfold rw' flt isJ
  rw [List.map_map]
  rfl
theorem mem_isJ {j i : Nat} : i ∈ isJ l j ↔ i < j ∧ ED l i j := by
  unfold isJ
  rw [List.mem_filter, List.mem_range, dec_iff]

theorem loop20' (hl : l.length ≤ 200) (h0 : 0 < l.length) (hth : th ≤ 8) (hT : ∀ i, i < l.length → 0 ≤ Th l i ∧ Th l i < th) : ∀ (c j : Nat) (H : Heap) (X : List (Nat × AObj)) (g : Nat → Nat → Nat) (rest : List P2), l.length - j = c → j ≤ l.length → rf l l.length = rf l j ++ rest → rest.length < 2 ^ 40 →
    SN l.length th X H g → (∀ a b, g a b ≤ 200) → (∀ a b, a < j → b < th → g a b = VC l a b) → (∀ a b, j ≤ a → g a b = 0) →
    ∃ H' n3 t3 ds, L25_20 [.bsl 0 l.length, Rw encP n2 t2 rest, Rw enc nl tg l, I l.length, I j] [] H = some ([W n3 t3 ds], H') ∧ ints ds = (List.range l.length).map fun j => (List.range th).map fun t => (VC l j t : Int) := by
  intro c
  induction c with
  | zero =>
    intro j H X g rest hc hj hrest hrl h hg hv hz
    have : j = l.length := by omega
    subst this
    obtain ⟨ds, H', e, e2⟩ := SS.frz h h0
    have hdl : ds.length = l.length := by
      have := congrArg List.length e2
      simpa [ints] using this
    refine ⟨[], some false, false, ds, ?_, ?_⟩
    · rw [L25_20_eq]
      simp only [Int.lt_irrefl, obs, oms, bin_add, bin_sub, bin_lss, bin_leq, bin_gtr, bin_geq, bin_eql, bin_neq, bin_eqlB, bin_neqB, un_not, cond_B, gd_B, gd_undef, gdH_B, gdH_undef, pickA_B, extractA_tup, lenA_sl, lenA_row, fldA_fp, fldA_ptr, fldA_rptr, List.getElem?_cons_zero, List.getElem?_cons_succ, decide_true, decide_false, if_true, if_false, Bool.true_eq_false, Bool.false_eq_true, Bool.not_true, Bool.not_false]
      refine leave0_all (H' := H') (ps := [.sl (some false) false ds.length (ds.map us)]) ?_
      simp only [frzAll, e, obs, oms, hdl]
      rfl
    · rw [e2]
      refine List.map_congr_left fun j hj => List.map_congr_left fun t ht => ?_
      rw [hv j t (List.mem_range.mp hj) (List.mem_range.mp ht)]
  | succ c ih =>
    intro j H X g rest hc hj hrest hrl h hg hv hz
    have hj' : j < l.length := by omega
    have hlt : (j : Int) < l.length := by omega
    obtain ⟨rest2, hr2⟩ := rf_pre (l := l) (show j + 1 ≤ l.length from hj')
    have hre : rest = (isJ l j).map (fun i : Nat => ((i : Int), (j : Int))) ++ rest2 := by
      rw [rf, rw_isJ, List.append_assoc] at hr2
      rw [← hr2] at hrest
      exact (List.append_cancel_left hrest).symm
    obtain ⟨tj, htj⟩ : ∃ tj : Nat, Th l j = tj := ⟨(Th l j).toNat, by have := hT j hj'; omega⟩
    have htj2 : tj < th := by have := (hT j hj').2; omega
    have htl : ∀ p, p ∈ rest2 → p.2 ≠ j := by
      intro p hp e
      have hpm : p ∈ rf l l.length := by rw [← hr2]; exact List.mem_append_right _ hp
      obtain ⟨i, y, rfl, h1, h2⟩ := (mem_rf _ _).mp hpm
      have hy : y = j := by have e' : (y : Int) = j := e; omega
      have hq : ((i : Int), (y : Int)) ∈ rf l (j + 1) := (mem_rf _ _).mpr ⟨i, y, rfl, by omega, h2⟩
      have hs := rf_sorted (l := l) l.length
      rw [← hr2] at hs
      exact plt_irr _ ((List.pairwise_append.mp hs).2.2 _ hq _ hp)
    have hbox := SS.box h ((enc (l.getD j z0)).map .p)
    have hlen : ((isJ l j).map (fun i : Nat => ((i : Int), (j : Int))) ++ rest2).length < 2 ^ 40 := by rw [← hre]; exact hrl
    rw [List.length_append, List.length_map] at hlen
    obtain ⟨H1, g1, e1, h1, k1, k2, k3⟩ := loop24 (nl := nl) (tg := tg) (n2 := n2) (t2 := t2) hj' hl hth htj htj2 (pe := H.length) (X := (H.length, bxE (l.getD j z0)) :: X) (by simp) htl (by omega) (isJ l j) _ g (fun i hi => (mem_isJ.mp hi).1) (by omega) hg hbox
    have hok := edOk l
    have hmax : ∀ b, b < th → ((isJ l j).map fun i => g i b).foldl max (g j b) = cn (fun n => Th l n = b ∧ Bf (ED l) n j) l.length := by
      intro b hb
      rw [hz j b (Nat.le_refl _)]
      have e : ((isJ l j).map fun i => g i b) = (isJ l j).map fun i => VC l i b := List.map_congr_left fun i hi => hv i b (mem_isJ.mp hi).1 hb
      rw [e]
      refine maxl (fun x hx => ?_) ?_
      · obtain ⟨i, hi, rfl⟩ := List.mem_map.mp hx
        exact vc_le hok (mem_isJ.mp hi).2
      · rcases vc_max hok hj' b with h | ⟨i, hr, hi⟩
        · exact .inl h
        · exact .inr (List.mem_map.mpr ⟨i, mem_isJ.mpr ⟨hr.1, hr⟩, hi⟩)
    have hvj : ∀ b, b < th → g1 j b = VC l j b := by
      intro b hb
      rw [k2 b hb, hmax b hb]
      by_cases e : b = tj
      · subst e
        rw [if_pos rfl]
        unfold VC
        rw [← htj]
        exact (vc_own hok hj').symm
      · rw [if_neg e]
        exact (vc_other (t := b) (by rw [htj]; omega)).symm
    have hvle : ∀ a b, VC l a b ≤ 200 := fun a b => Nat.le_trans (cn_le _ _) hl
    obtain ⟨H', n3, t3, ds, e2, e3⟩ := ih (j + 1) H1 _ g1 rest2 (by omega) (by omega) hr2.symm (by omega) h1 (fun a b => by
        by_cases ha : a = j
        · subst ha
          by_cases hb : b < th
          · rw [hvj b hb]; exact hvle _ _
          · rw [k3 b (by omega)]; exact hg _ _
        · rw [k1 a b ha]; exact hg _ _)
      (fun a b ha hb => by
        by_cases e : a = j
        · subst e; exact hvj b hb
        · rw [k1 a b e]; exact hv a b (by omega) hb)
      (fun a b ha => by rw [k1 a b (by omega)]; exact hz a b (by omega))
    refine ⟨H', n3, t3, ds, ?_, e3⟩
    rw [← e2, ← e1, hre, L25_20_eq]
    have z12 : ([(I 0), (I 0), (I 0), (I 0), (I 0), (I 0), (I 0), (I 0), (I 0), (I 0), (I 0), (I 0)] : List AV) = (List.replicate 12 (Ia 0)).map .p := rfl
    have hs : stA 12 (.ptr H.length 0) (avE (l.getD j z0)) [] (H ++ [.box ((List.replicate 12 (Ia 0)).map .p)]) = some (H ++ [bxE (l.getD j z0)]) := stA_new rfl rfl (by omega)
    simp only [hlt, idxE hj', ldEv hj', z12, boxE, hs, obs, oms, bin_add, bin_sub, bin_lss, bin_leq, bin_gtr, bin_geq, bin_eql, bin_neq, bin_eqlB, bin_neqB, un_not, cond_B, gd_B, gd_undef, gdH_B, gdH_undef, pickA_B, extractA_tup, lenA_sl, lenA_row, fldA_fp, fldA_ptr, fldA_rptr, List.getElem?_cons_zero, List.getElem?_cons_succ, decide_true, decide_false, if_true, if_false, Bool.true_eq_false, Bool.false_eq_true, Bool.not_true, Bool.not_false]

theorem ent129 (hl : l.length ≤ 200) (hth : th ≤ 8) (hT : ∀ i, i < l.length → 0 ≤ Th l i ∧ Th l i < th) :
    ∃ H' n3 t3 ds, O.ent 25 [Rw enc nl tg l, I th] [] [] = some ([W n3 t3 ds], H') ∧ ints ds = (List.range l.length).map fun j => (List.range th).map fun t => (VC l j t : Int) := by
  obtain ⟨n2, t2, S, e, q1, q2, q3⟩ := ent128 (nl := nl) (tg := tg) hl
  have hS : S = rf l l.length := plt_uniq q1 (rf_sorted _) fun p => (q2 p).trans (mem_rf _ p).symm
  have c128 : ∀ H, callA cfg O 29 [Rw enc nl tg l] [] H = some (Rw encP n2 t2 S, H) := fun H => callA_pure (xs := [.sl nl tg l.length (l.flatMap enc)]) (rs := [Rw encP n2 t2 S]) rfl e rfl
  by_cases h0 : 0 < l.length
  · obtain ⟨H0, e0, hl0, h0'⟩ := made0 h0 (by omega) th
    obtain ⟨H1, e1, h1⟩ := loop8 (nl := nl) (tg := tg) hth hl l.length 0 H0 rfl (by omega) hl0 h0'
    obtain ⟨H', n3, t3, ds, e2, e3⟩ := loop20' (nl := nl) (tg := tg) (n2 := n2) (t2 := t2) hl h0 hth hT l.length 0 H1 [] (fun _ _ => 0) S rfl (by omega) (by rw [← hS]; rfl) (by omega) h1 (fun _ _ => Nat.zero_le _) (fun a b h => by omega) (fun _ _ _ => rfl)
    refine ⟨H', n3, t3, ds, ?_, e3⟩
    rw [f25_eq]
    simp only [lenA_sl, e0, obs]
    have e1' : L25_8 [Rw enc nl tg l, I th, .bsl 0 l.length, I l.length, I 0] [] H0 = _ := e1
    rw [e1', L25_8_eq]
    simp only [Int.lt_irrefl, c128, obs, oms, bin_add, bin_sub, bin_lss, bin_leq, bin_gtr, bin_geq, bin_eql, bin_neq, bin_eqlB, bin_neqB, un_not, cond_B, gd_B, gd_undef, gdH_B, gdH_undef, pickA_B, extractA_tup, lenA_sl, lenA_row, fldA_fp, fldA_ptr, fldA_rptr, List.getElem?_cons_zero, List.getElem?_cons_succ, decide_true, decide_false, if_true, if_false, Bool.true_eq_false, Bool.false_eq_true, Bool.not_true, Bool.not_false]
    exact e2
  · have hz : l = [] := List.length_eq_zero_iff.mp (by omega)
    subst hz
    refine ⟨[], none, false, [], ?_, rfl⟩
    rw [f25_eq]
    have hmk : mkBsl 1 24 [nilS] (I 0) (I 0) [] = some (.row 0 0 0 0, [.row 0 1 []]) := rfl
    have zz : ((0 : Nat) : Int) = 0 := rfl
    simp only [List.length_nil, zz, hmk, obs, oms, bin_add, bin_sub, bin_lss, bin_leq, bin_gtr, bin_geq, bin_eql, bin_neq, bin_eqlB, bin_neqB, un_not, cond_B, gd_B, gd_undef, gdH_B, gdH_undef, pickA_B, extractA_tup, lenA_sl, lenA_row, fldA_fp, fldA_ptr, fldA_rptr, List.getElem?_cons_zero, List.getElem?_cons_succ, decide_true, decide_false, if_true, if_false, Bool.true_eq_false, Bool.false_eq_true, Bool.not_true, Bool.not_false]
    rw [L25_8_eq]
    simp only [Int.lt_irrefl, List.length_nil, zz, c128, obs, oms, bin_add, bin_sub, bin_lss, bin_leq, bin_gtr, bin_geq, bin_eql, bin_neq, bin_eqlB, bin_neqB, un_not, cond_B, gd_B, gd_undef, gdH_B, gdH_undef, pickA_B, extractA_tup, lenA_sl, lenA_row, fldA_fp, fldA_ptr, fldA_rptr, List.getElem?_cons_zero, List.getElem?_cons_succ, decide_true, decide_false, if_true, if_false, Bool.true_eq_false, Bool.false_eq_true, Bool.not_true, Bool.not_false]
    rw [L25_20_eq]
    simp only [Int.lt_irrefl, obs, oms, bin_add, bin_sub, bin_lss, bin_leq, bin_gtr, bin_geq, bin_eql, bin_neq, bin_eqlB, bin_neqB, un_not, cond_B, gd_B, gd_undef, gdH_B, gdH_undef, pickA_B, extractA_tup, lenA_sl, lenA_row, fldA_fp, fldA_ptr, fldA_rptr, List.getElem?_cons_zero, List.getElem?_cons_succ, decide_true, decide_false, if_true, if_false, Bool.true_eq_false, Bool.false_eq_true, Bool.not_true, Bool.not_false]
    rfl
end
end Cl
end Go.Proofs.Ytfdnamedmjhcfaa

set_option linter.unusedVariables false
set_option linter.unusedSimpArgs false
namespace Go.Proofs.Ytfdnamedmjhcfaa
open Go Go.AM Go.AM.Ck
namespace Cl

section
variable {l : List E} {nl : Option Bool} {tg : Bool} {th : Nat} {n2 : Option Bool} {t2 : Bool}

theorem dsAt {ds : List Dd} (h : ints ds = (List.range l.length).map fun j => (List.range th).map fun t => (VC l j t : Int)) {i : Nat} (hi : i < l.length) : ∃ h : i < ds.length, ds[i].2.2 = (List.range th).map fun t => (VC l i t : Int) := by
  have hl := congrArg List.length h
  simp only [ints, List.length_map, List.length_range] at hl
  refine ⟨by omega, ?_⟩
  have := congrArg (fun x => x[i]?) h
  simp only [ints, List.getElem?_map] at this
  rw [List.getElem?_eq_getElem (show i < ds.length by omega), List.getElem?_range hi] at this
  simpa using this

theorem ent131 {n3 : Option Bool} {t3 : Bool} {ds : List Dd} (hds : ints ds = (List.range l.length).map fun j => (List.range th).map fun t => (VC l j t : Int)) (hT : ∀ i, i < l.length → 0 ≤ Th l i ∧ Th l i < th) {i j : Nat} (hi : i < l.length) (hj : j < l.length) :
    O.ent 28 [Rw enc nl tg l, W n3 t3 ds, I i, I j] [] [] = some ([B (dec (Bf (ED l) i j))], []) := by
  rw [f28_eq]
  obtain ⟨ti, hti⟩ : ∃ ti : Nat, Th l i = ti := ⟨(Th l i).toNat, by have := hT i hi; omega⟩
  have hti2 : ti < th := by have := (hT i hi).2; omega
  obtain ⟨d1, v1⟩ := dsAt hds hi
  obtain ⟨d2, v2⟩ := dsAt hds hj
  by_cases he : i = j
  · subst he
    have hf : dec (Bf (ED l) i i) = false := by
      cases h : dec (Bf (ED l) i i) with
      | false => rfl
      | true => have := bf_lt (edOk l) (dec_iff.mp h); omega
    rw [hf]
    simp only [idxE hi, fT hi, obs, oms, bin_add, bin_sub, bin_lss, bin_leq, bin_gtr, bin_geq, bin_eql, bin_neq, bin_eqlB, bin_neqB, un_not, cond_B, gd_B, gd_undef, gdH_B, gdH_undef, pickA_B, extractA_tup, lenA_sl, lenA_row, fldA_fp, fldA_ptr, fldA_rptr, List.getElem?_cons_zero, List.getElem?_cons_succ, decide_true, decide_false, if_true, if_false, Bool.true_eq_false, Bool.false_eq_true, Bool.not_true, Bool.not_false]
    rfl
  · have he' : ¬ (i : Int) = j := by omega
    have k1 : ti < ds[i].2.2.length := by rw [v1]; simpa using hti2
    have k2 : ti < ds[j].2.2.length := by rw [v2]; simpa using hti2
    have i1 := idxV (nl := ds[i].1) (tg := ds[i].2.1) k1
    have i2 := idxV (nl := ds[j].1) (tg := ds[j].2.1) k2
    have e1 : ds[i].2.2[ti] = (VC l i ti : Int) := by simp [v1]
    have e2 : ds[j].2.2[ti] = (VC l j ti : Int) := by simp [v2]
    have hv := vc_bf (edOk l) hi hj he
    rw [hti] at hv
    have hd : dec (Bf (ED l) i j) = decide ((VC l i ti : Int) ≤ (VC l j ti : Int)) := by
      rw [Bool.eq_iff_iff, dec_iff, decide_eq_true_eq, ← hv]
      exact Int.ofNat_le.symm
    rw [hd]
    by_cases hle : (VC l i ti : Int) ≤ (VC l j ti : Int)
    · simp only [idxE hi, fT hi, hti, he', idxW d1, ldW d1, idxW d2, ldW d2, i1, i2, ldV k1, ldV k2, e1, e2, hle, obs, oms, bin_add, bin_sub, bin_lss, bin_leq, bin_gtr, bin_geq, bin_eql, bin_neq, bin_eqlB, bin_neqB, un_not, cond_B, gd_B, gd_undef, gdH_B, gdH_undef, pickA_B, extractA_tup, lenA_sl, lenA_row, fldA_fp, fldA_ptr, fldA_rptr, List.getElem?_cons_zero, List.getElem?_cons_succ, decide_true, decide_false, if_true, if_false, Bool.true_eq_false, Bool.false_eq_true, Bool.not_true, Bool.not_false]
      rfl
    · simp only [idxE hi, fT hi, hti, he', idxW d1, ldW d1, idxW d2, ldW d2, i1, i2, ldV k1, ldV k2, e1, e2, hle, obs, oms, bin_add, bin_sub, bin_lss, bin_leq, bin_gtr, bin_geq, bin_eql, bin_neq, bin_eqlB, bin_neqB, un_not, cond_B, gd_B, gd_undef, gdH_B, gdH_undef, pickA_B, extractA_tup, lenA_sl, lenA_row, fldA_fp, fldA_ptr, fldA_rptr, List.getElem?_cons_zero, List.getElem?_cons_succ, decide_true, decide_false, if_true, if_false, Bool.true_eq_false, Bool.false_eq_true, Bool.not_true, Bool.not_false]
      rfl

/-! ### What is ahead, by looking back -/
def rB (f : Nat → Bool) (L : Nat) : List PV := (List.range L).map fun n => .v (.bool (f n))
theorem rB_set (f : Nat → Bool) (L n : Nat) : (rB f L).set n (.v (.bool true)) = rB (fun m => if m = n then true else f m) L := by
  refine List.ext_getElem (by simp [rB]) fun k a b => ?_
  simp only [rB, List.getElem_set, List.getElem_map, List.getElem_range]
  by_cases h : n = k
  · subst h; simp
  · rw [if_neg h, if_neg (fun e => h e.symm)]
theorem rB_at (f : Nat → Bool) {L n : Nat} (h : n < L) : (rB f L)[n]? = some (.v (.bool (f n))) := by simp [rB, h]
theorem rB_len (f : Nat → Bool) (L : Nat) : (rB f L).length = L := by simp [rB]
theorem rB_congr {f g : Nat → Bool} {L : Nat} (h : ∀ n, n < L → f n = g n) : rB f L = rB g L :=
  List.map_congr_left fun n hn => congrArg (fun b => PV.v (.bool b)) (h n (List.mem_range.mp hn))
theorem rB_or (P : Nat → Prop) (L i : Nat) : (rB (fun n => dec (P n)) L).set i (.v (.bool true)) = rB (fun n => dec (P n ∨ n = i)) L := by
  rw [rB_set]
  refine rB_congr fun n _ => ?_
  by_cases e : n = i
  · rw [if_pos e]; simp [dec, e]
  · rw [if_neg e, dec_congr (p := P n) (q := P n ∨ n = i) ⟨.inl, fun h => h.resolve_right e⟩]
theorem rB_dec {P Q : Nat → Prop} (L : Nat) (h : ∀ n, n < L → (P n ↔ Q n)) : rB (fun n => dec (P n)) L = rB (fun n => dec (Q n)) L :=
  rB_congr fun n hn => dec_congr (h n hn)
noncomputable abbrev HB (P Q : Nat → Prop) (L : Nat) : Heap := [.row 0 1 (rB (fun n => dec (P n)) L), .row 0 1 (rB (fun n => dec (Q n)) L)]

theorem hbI {id L n : Nat} (h : n < L) : idxA 1 (.row id 0 0 L) (I n) = some (.rptr id 0 n) := by
  have := rowI (k := 1) (id := id) (g := 0) (m := L) h
  simpa using this

theorem loop78 {k : Nat} (hk : k < l.length) (hL : l.length < 2 ^ 40) : ∀ (c i : Nat) (P Q : Nat → Prop), k - i = c → i ≤ k →
    L9_20 [Rw enc nl tg l, .row 0 0 0 l.length, .row 1 0 0 l.length, I k, I i] [] (HB P Q l.length) = L9_15 [Rw enc nl tg l, .row 0 0 0 l.length, .row 1 0 0 l.length, I k] [] (HB (fun n => P n ∨ i ≤ n ∧ n < k ∧ ED l n k) (fun n => Q n ∨ i ≤ n ∧ n < k ∧ ED l n k) l.length) := by
  intro c
  induction c with
  | zero =>
    intro i P Q hc hi
    have : i = k := by omega
    subst this
    rw [L9_20_eq]
    simp only [Int.lt_irrefl, obs, oms, bin_add, bin_sub, bin_lss, bin_leq, bin_gtr, bin_geq, bin_eql, bin_neq, bin_eqlB, bin_neqB, un_not, cond_B, gd_B, gd_undef, gdH_B, gdH_undef, pickA_B, extractA_tup, lenA_sl, lenA_row, fldA_fp, fldA_ptr, fldA_rptr, List.getElem?_cons_zero, List.getElem?_cons_succ, decide_true, decide_false, if_true, if_false, Bool.true_eq_false, Bool.false_eq_true, Bool.not_true, Bool.not_false]
    have e : ∀ P : Nat → Prop, rB (fun n => dec (P n)) l.length = rB (fun n => dec (P n ∨ i ≤ n ∧ n < i ∧ ED l n i)) l.length := fun P => rB_dec _ fun n _ => ⟨.inl, fun h => h.elim id fun h => by omega⟩
    unfold HB
    rw [e P, e Q]
  | succ c ih =>
    intro i P Q hc hi
    have hlt : (i : Int) < k := by omega
    have hi' : i < l.length := by omega
    have c74 := call74 (nl := nl) (tg := tg) (l := l) (i := i) (j := k) hi' hk hL []
    have w2 : IntKind.i64.wrap ((i : Int) + 1) = ((i + 1 : Nat) : Int) := by rw [wrap_id (by omega), nxt]
    rw [L9_20_eq]
    by_cases h : ED l i k
    · have hd : dec (ED l i k) = true := dec_iff.mpr h
      have s1 : stA 1 (.rptr 1 0 i) (B true) [] (HB P Q l.length) = some (HB P (fun n => Q n ∨ n = i) l.length) := by
        rw [stA_row (H := HB P Q l.length) (id := 1) (xs := rB (fun n => dec (Q n)) l.length) rfl (by rw [rB_len]; exact hi')]
        rw [rB_or Q]
        rfl
      have s2 : stA 1 (.rptr 0 0 i) (B true) [] (HB P (fun n => Q n ∨ n = i) l.length) = some (HB (fun n => P n ∨ n = i) (fun n => Q n ∨ n = i) l.length) := by
        rw [stA_row (H := HB P (fun n => Q n ∨ n = i) l.length) (id := 0) (xs := rB (fun n => dec (P n)) l.length) rfl (by rw [rB_len]; exact hi')]
        rw [rB_or P]
        rfl
      have fin := ih (i + 1) (fun n => P n ∨ n = i) (fun n => Q n ∨ n = i) (by omega) (by omega)
      have e : ∀ P : Nat → Prop, rB (fun n => dec ((P n ∨ n = i) ∨ i + 1 ≤ n ∧ n < k ∧ ED l n k)) l.length = rB (fun n => dec (P n ∨ i ≤ n ∧ n < k ∧ ED l n k)) l.length := fun P => rB_dec _ fun n _ => by
        constructor
        · rintro ((h1 | h1) | h1)
          · exact .inl h1
          · subst h1; exact .inr ⟨Nat.le_refl _, by omega, h⟩
          · exact .inr ⟨by omega, h1.2⟩
        · rintro (h1 | h1)
          · exact .inl (.inl h1)
          · by_cases e : n = i
            · exact .inl (.inr e)
            · exact .inr ⟨by omega, h1.2⟩
      unfold HB at fin ⊢
      rw [e P, e Q] at fin
      unfold HB at c74 s1 s2
      simp only [hlt, c74, hd, hbI hi', s1, s2, L9_23_eq, w2, obs, oms, bin_add, bin_sub, bin_lss, bin_leq, bin_gtr, bin_geq, bin_eql, bin_neq, bin_eqlB, bin_neqB, un_not, cond_B, gd_B, gd_undef, gdH_B, gdH_undef, pickA_B, extractA_tup, lenA_sl, lenA_row, fldA_fp, fldA_ptr, fldA_rptr, List.getElem?_cons_zero, List.getElem?_cons_succ, decide_true, decide_false, if_true, if_false, Bool.true_eq_false, Bool.false_eq_true, Bool.not_true, Bool.not_false]
      exact fin
    · have hd : dec (ED l i k) = false := by
        cases h2 : dec (ED l i k) with
        | false => rfl
        | true => exact (h (dec_iff.mp h2)).elim
      have fin := ih (i + 1) P Q (by omega) (by omega)
      have e : ∀ P : Nat → Prop, rB (fun n => dec (P n ∨ i + 1 ≤ n ∧ n < k ∧ ED l n k)) l.length = rB (fun n => dec (P n ∨ i ≤ n ∧ n < k ∧ ED l n k)) l.length := fun P => rB_dec _ fun n _ => by
        constructor
        · rintro (h1 | h1)
          · exact .inl h1
          · exact .inr ⟨by omega, h1.2⟩
        · rintro (h1 | h1)
          · exact .inl h1
          · refine .inr ⟨?_, h1.2⟩
            have : n ≠ i := fun e => h (e ▸ h1.2.2)
            omega
      unfold HB at fin ⊢
      rw [e P, e Q] at fin
      unfold HB at c74
      simp only [hlt, c74, hd, L9_23_eq, w2, obs, oms, bin_add, bin_sub, bin_lss, bin_leq, bin_gtr, bin_geq, bin_eql, bin_neq, bin_eqlB, bin_neqB, un_not, cond_B, gd_B, gd_undef, gdH_B, gdH_undef, pickA_B, extractA_tup, lenA_sl, lenA_row, fldA_fp, fldA_ptr, fldA_rptr, List.getElem?_cons_zero, List.getElem?_cons_succ, decide_true, decide_false, if_true, if_false, Bool.true_eq_false, Bool.false_eq_true, Bool.not_true, Bool.not_false]
      exact fin

def Dn (l : List E) (j k : Nat) : Prop := k = j ∨ Bf (ED l) k j
def Pn (l : List E) (j k n : Nat) : Prop := ∃ k', k ≤ k' ∧ ED l n k' ∧ Dn l j k'

theorem down78 {j : Nat} (hj : j < l.length) (hL : l.length < 2 ^ 40) : ∀ (k : Nat), k ≤ j + 1 →
    ∃ H', L9_12 [Rw enc nl tg l, .row 0 0 0 l.length, .row 1 0 0 l.length, I ((k : Int) - 1)] [] (HB (Pn l j k) (fun n => n = j ∨ Pn l j k n) l.length) = some ([.p (.sl (some false) false l.length (rB (fun n => dec (Bf (ED l) n j)) l.length))], H') := by
  intro k
  induction k with
  | zero =>
    intro _
    have e : rB (fun n => dec (Pn l j 0 n)) l.length = rB (fun n => dec (Bf (ED l) n j)) l.length := rB_dec _ fun n _ => by
      rw [bf_head]
      exact ⟨fun ⟨k', _, h⟩ => ⟨k', h⟩, fun ⟨k', h⟩ => ⟨k', Nat.zero_le _, h⟩⟩
    rw [← e]
    refine ⟨[], ?_⟩
    rw [L9_12_eq]
    have h1 : ¬ (0 : Int) ≤ ((0 : Nat) : Int) - 1 := by omega
    simp only [h1, obs, oms, bin_add, bin_sub, bin_lss, bin_leq, bin_gtr, bin_geq, bin_eql, bin_neq, bin_eqlB, bin_neqB, un_not, cond_B, gd_B, gd_undef, gdH_B, gdH_undef, pickA_B, extractA_tup, lenA_sl, lenA_row, fldA_fp, fldA_ptr, fldA_rptr, List.getElem?_cons_zero, List.getElem?_cons_succ, decide_true, decide_false, if_true, if_false, Bool.true_eq_false, Bool.false_eq_true, Bool.not_true, Bool.not_false]
    refine leave0_all (H' := (HB (Pn l j 0) (fun n => n = j ∨ Pn l j 0 n) l.length).set 0 (.row 1 1 [])) (ps := [.sl (some false) false l.length (rB (fun n => dec (Pn l j 0 n)) l.length)]) ?_
    have hf : frzA (HB (Pn l j 0) (fun n => n = j ∨ Pn l j 0 n) l.length) (.row 0 0 0 l.length) = some (.p (.sl (some false) false l.length (rB (fun n => dec (Pn l j 0 n)) l.length)), (HB (Pn l j 0) (fun n => n = j ∨ Pn l j 0 n) l.length).set 0 (.row 1 1 [])) := by
      have h0 : (HB (Pn l j 0) (fun n => n = j ∨ Pn l j 0 n) l.length)[0]? = some (.row 0 1 (rB (fun n => dec (Pn l j 0 n)) l.length)) := rfl
      simp only [frzA, frzLeaf, toPV, h0, Nat.zero_add, rB_len, Nat.mul_one]
      rw [if_pos ⟨trivial, Nat.le_refl _⟩, List.drop_zero, List.take_of_length_le (by rw [rB_len]; omega), if_pos (by omega)]
      rfl
    simp only [frzAll, hf, obs, oms]
    rfl
  | succ k ih =>
    intro hk
    obtain ⟨H', e⟩ := ih (by omega)
    refine ⟨H', ?_⟩
    have hk' : k < l.length := by omega
    have hi : ((k + 1 : Nat) : Int) - 1 = k := by omega
    have h0 : (0 : Int) ≤ k := by omega
    have w1 : IntKind.i64.wrap ((k : Int) - 1) = (k : Int) - 1 := wrap_id (by omega)
    have hat : ld false 1 (.rptr 1 0 k) (HB (Pn l j (k + 1)) (fun n => n = j ∨ Pn l j (k + 1) n) l.length) = some (B (dec (k = j ∨ Pn l j (k + 1) k))) := by
      rw [ld_row (H := HB (Pn l j (k + 1)) (fun n => n = j ∨ Pn l j (k + 1) n) l.length) (id := 1) (xs := rB (fun n => dec (n = j ∨ Pn l j (k + 1) n)) l.length) rfl, rB_at _ hk']
      rfl
    have hD : (k = j ∨ Pn l j (k + 1) k) ↔ Dn l j k := by
      unfold Dn
      refine or_congr Iff.rfl ?_
      rw [bf_head]
      exact ⟨fun ⟨k', _, h⟩ => ⟨k', h⟩, fun ⟨k', h⟩ => ⟨k', h.1.1, h⟩⟩
    rw [hi, L9_12_eq]
    by_cases hd : Dn l j k
    · have hdb : dec (k = j ∨ Pn l j (k + 1) k) = true := dec_iff.mpr (hD.mpr hd)
      have hstep : ∀ n, (Pn l j (k + 1) n ∨ 0 ≤ n ∧ n < k ∧ ED l n k) ↔ Pn l j k n := by
        intro n
        constructor
        · rintro (⟨k', h1, h2⟩ | ⟨_, _, h⟩)
          · exact ⟨k', by omega, h2⟩
          · exact ⟨k, Nat.le_refl _, h, hd⟩
        · rintro ⟨k', h1, h2⟩
          by_cases e : k' = k
          · subst e; exact .inr ⟨Nat.zero_le _, h2.1.1, h2.1⟩
          · exact .inl ⟨k', by omega, h2⟩
      have hl := loop78 (nl := nl) (tg := tg) hk' hL k 0 (Pn l j (k + 1)) (fun n => n = j ∨ Pn l j (k + 1) n) (by omega) (by omega)
      have e1 : rB (fun n => dec (Pn l j (k + 1) n ∨ 0 ≤ n ∧ n < k ∧ ED l n k)) l.length = rB (fun n => dec (Pn l j k n)) l.length := rB_dec _ fun n _ => hstep n
      have e2 : rB (fun n => dec ((n = j ∨ Pn l j (k + 1) n) ∨ 0 ≤ n ∧ n < k ∧ ED l n k)) l.length = rB (fun n => dec (n = j ∨ Pn l j k n)) l.length := rB_dec _ fun n _ => by
        rw [or_assoc, hstep n]
      unfold HB at hl e hat ⊢
      rw [e1, e2] at hl
      rw [hdb] at hat
      simp only [h0, hbI hk', hat, obs, oms, bin_add, bin_sub, bin_lss, bin_leq, bin_gtr, bin_geq, bin_eql, bin_neq, bin_eqlB, bin_neqB, un_not, cond_B, gd_B, gd_undef, gdH_B, gdH_undef, pickA_B, extractA_tup, lenA_sl, lenA_row, fldA_fp, fldA_ptr, fldA_rptr, List.getElem?_cons_zero, List.getElem?_cons_succ, decide_true, decide_false, if_true, if_false, Bool.true_eq_false, Bool.false_eq_true, Bool.not_true, Bool.not_false]
      rw [show (0 : Int) = ((0 : Nat) : Int) from rfl, hl, L9_15_eq]
      simp only [w1, obs, oms, bin_add, bin_sub, bin_lss, bin_leq, bin_gtr, bin_geq, bin_eql, bin_neq, bin_eqlB, bin_neqB, un_not, cond_B, gd_B, gd_undef, gdH_B, gdH_undef, pickA_B, extractA_tup, lenA_sl, lenA_row, fldA_fp, fldA_ptr, fldA_rptr, List.getElem?_cons_zero, List.getElem?_cons_succ, decide_true, decide_false, if_true, if_false, Bool.true_eq_false, Bool.false_eq_true, Bool.not_true, Bool.not_false]
      exact e
    · have hdb : dec (k = j ∨ Pn l j (k + 1) k) = false := by
        cases h2 : dec (k = j ∨ Pn l j (k + 1) k) with
        | false => rfl
        | true => exact (hd (hD.mp (dec_iff.mp h2))).elim
      have hstep : ∀ n, Pn l j k n ↔ Pn l j (k + 1) n := by
        intro n
        constructor
        · rintro ⟨k', h1, h2⟩
          have : k' ≠ k := fun e => hd (e ▸ h2.2)
          exact ⟨k', by omega, h2⟩
        · rintro ⟨k', h1, h2⟩
          exact ⟨k', by omega, h2⟩
      have e1 : rB (fun n => dec (Pn l j k n)) l.length = rB (fun n => dec (Pn l j (k + 1) n)) l.length := rB_dec _ fun n _ => hstep n
      have e2 : rB (fun n => dec (n = j ∨ Pn l j k n)) l.length = rB (fun n => dec (n = j ∨ Pn l j (k + 1) n)) l.length := rB_dec _ fun n _ => by rw [hstep n]
      unfold HB at e hat ⊢
      rw [e1, e2] at e
      rw [hdb] at hat
      simp only [h0, hbI hk', hat, L9_15_eq, w1, obs, oms, bin_add, bin_sub, bin_lss, bin_leq, bin_gtr, bin_geq, bin_eql, bin_neq, bin_eqlB, bin_neqB, un_not, cond_B, gd_B, gd_undef, gdH_B, gdH_undef, pickA_B, extractA_tup, lenA_sl, lenA_row, fldA_fp, fldA_ptr, fldA_rptr, List.getElem?_cons_zero, List.getElem?_cons_succ, decide_true, decide_false, if_true, if_false, Bool.true_eq_false, Bool.false_eq_true, Bool.not_true, Bool.not_false]
      exact e

theorem ent78 {j : Nat} (hj : j < l.length) (hL : l.length < 2 ^ 40) : ∃ H', O.ent 9 [Rw enc nl tg l, I j] [] [] = some ([.p (.sl (some false) false l.length (rB (fun n => dec (Bf (ED l) n j)) l.length))], H') := by
  obtain ⟨H', e⟩ := down78 (nl := nl) (tg := tg) hj hL (j + 1) (Nat.le_refl _)
  refine ⟨H', ?_⟩
  have hno : ∀ n, ¬ Pn l j (j + 1) n := by
    rintro n ⟨k', h1, _, h2⟩
    rcases h2 with h2 | h2
    · omega
    · have := bf_lt (edOk l) h2; omega
  have hz : zerosA l.length [(.v (.bool false))] = rB (fun n => dec (Pn l j (j + 1) n)) l.length := by
    rw [zeros_one]
    refine List.ext_getElem (by simp [rB]) fun n a b => ?_
    have : dec (Pn l j (j + 1) n) = false := by
      cases h : dec (Pn l j (j + 1) n) with
      | false => rfl
      | true => exact (hno n (dec_iff.mp h)).elim
    simp [rB, this]
  have mk : ∀ H : Heap, mkRow 1 1 [(.v (.bool false))] (I l.length) (I l.length) H = some (.row H.length 0 0 l.length, H ++ [.row 0 1 (rB (fun n => dec (Pn l j (j + 1) n)) l.length)]) := by
    intro H
    simp only [mkRow, asI, obs]
    rw [if_pos ⟨by omega, by omega, by simp only [room]; omega⟩, Int.toNat_natCast, hz]
  have mk1 := mk []
  have mk2 := mk [.row 0 1 (rB (fun n => dec (Pn l j (j + 1) n)) l.length)]
  have s1 : stA 1 (.rptr 1 0 j) (B true) [] [.row 0 1 (rB (fun n => dec (Pn l j (j + 1) n)) l.length), .row 0 1 (rB (fun n => dec (Pn l j (j + 1) n)) l.length)] = some (HB (Pn l j (j + 1)) (fun n => n = j ∨ Pn l j (j + 1) n) l.length) := by
    rw [stA_row (H := [.row 0 1 (rB (fun n => dec (Pn l j (j + 1) n)) l.length), .row 0 1 (rB (fun n => dec (Pn l j (j + 1) n)) l.length)]) (id := 1) (xs := rB (fun n => dec (Pn l j (j + 1) n)) l.length) rfl (by rw [rB_len]; exact hj), rB_or, rB_dec (P := fun n => Pn l j (j + 1) n ∨ n = j) (Q := fun n => n = j ∨ Pn l j (j + 1) n) l.length fun n _ => or_comm]
    rfl
  have hi : ((j + 1 : Nat) : Int) - 1 = j := by omega
  rw [hi] at e
  rw [f9_eq]
  simp only [List.length_nil, List.nil_append] at mk1
  simp only [List.length_singleton, List.cons_append, List.nil_append] at mk2
  simp only [lenA_sl, mk1, mk2, hbI hj, s1, obs, oms]
  exact e
end
end Cl
end Go.Proofs.Ytfdnamedmjhcfaa

set_option linter.unusedVariables false
set_option linter.unusedSimpArgs false
namespace Go.Proofs.Ytfdnamedmjhcfaa
open Go Go.AM Go.AM.Ck
namespace Cl

section
variable {l : List E} {nl : Option Bool} {tg : Bool} {n : Int} {n2 : Option Bool} {t2 : Bool}

theorem code0 (h : code l n = 0) : ∃ th : Nat, n = th ∧ th ≤ 8 ∧ l.length ≤ 200 ∧ ∀ i, i < l.length → 0 ≤ Th l i ∧ Th l i < th := by
  unfold code at h
  by_cases h1 : 200 < l.length
  · rw [if_pos h1] at h; omega
  rw [if_neg h1] at h
  by_cases h2 : n < 0 ∨ 8 < n
  · rw [if_pos h2] at h; omega
  rw [if_neg h2] at h
  by_cases h3 : dec (∃ i, i < l.length ∧ (Th l i < 0 ∨ n ≤ Th l i)) = true
  · rw [if_pos h3] at h; omega
  refine ⟨n.toNat, by omega, by omega, by omega, fun i hi => ?_⟩
  have : ¬ (Th l i < 0 ∨ n ≤ Th l i) := fun h4 => h3 (dec_iff.mpr ⟨i, hi, h4⟩)
  omega

def pcode (l : List E) (c i j : Int) : Int := if c = 0 ∧ (i < 0 ∨ (l.length : Int) ≤ i ∨ j < 0 ∨ (l.length : Int) ≤ j) then 1 else c

theorem call127 (lo : List Nat) (H : Heap) : callA cfg O 24 [Rw enc nl tg l, I n] lo H = some (I (code l n), H) := callA_pure (xs := [.sl nl tg l.length (l.flatMap enc), Ia n]) (rs := [I (code l n)]) rfl ent127 rfl

theorem call130 (i j : Int) (lo : List Nat) (H : Heap) : callA cfg O 27 [Rw enc nl tg l, I n, I i, I j] lo H = some (I (pcode l (code l n) i j), H) := by
  refine callA_pure (xs := [.sl nl tg l.length (l.flatMap enc), Ia n, Ia i, Ia j]) (H' := []) (rs := [I (pcode l (code l n) i j)]) rfl ?_ rfl
  show O.ent 27 [Rw enc nl tg l, I n, I i, I j] [] [] = _
  rw [f27_eq]
  simp only [call127, lenA_sl, obs]
  by_cases h : code l n = 0 ∧ (i < 0 ∨ (l.length : Int) ≤ i ∨ j < 0 ∨ (l.length : Int) ≤ j)
  · have hp : pcode l (code l n) i j = 1 := if_pos h
    rw [hp]
    obtain ⟨h1, h⟩ := h
    by_cases h2 : i < 0
    · simp only [h1, h2, L27_11_eq, obs, oms, bin_add, bin_sub, bin_lss, bin_leq, bin_gtr, bin_geq, bin_eql, bin_neq, bin_eqlB, bin_neqB, un_not, cond_B, gd_B, gd_undef, gdH_B, gdH_undef, pickA_B, extractA_tup, lenA_sl, lenA_row, fldA_fp, fldA_ptr, fldA_rptr, List.getElem?_cons_zero, List.getElem?_cons_succ, decide_true, decide_false, if_true, if_false, Bool.true_eq_false, Bool.false_eq_true, Bool.not_true, Bool.not_false]; rfl
    · by_cases h3 : (l.length : Int) ≤ i
      · simp only [h1, h2, h3, L27_11_eq, obs, oms, bin_add, bin_sub, bin_lss, bin_leq, bin_gtr, bin_geq, bin_eql, bin_neq, bin_eqlB, bin_neqB, un_not, cond_B, gd_B, gd_undef, gdH_B, gdH_undef, pickA_B, extractA_tup, lenA_sl, lenA_row, fldA_fp, fldA_ptr, fldA_rptr, List.getElem?_cons_zero, List.getElem?_cons_succ, decide_true, decide_false, if_true, if_false, Bool.true_eq_false, Bool.false_eq_true, Bool.not_true, Bool.not_false]; rfl
      · by_cases h4 : j < 0
        · simp only [h1, h2, h3, h4, L27_11_eq, obs, oms, bin_add, bin_sub, bin_lss, bin_leq, bin_gtr, bin_geq, bin_eql, bin_neq, bin_eqlB, bin_neqB, un_not, cond_B, gd_B, gd_undef, gdH_B, gdH_undef, pickA_B, extractA_tup, lenA_sl, lenA_row, fldA_fp, fldA_ptr, fldA_rptr, List.getElem?_cons_zero, List.getElem?_cons_succ, decide_true, decide_false, if_true, if_false, Bool.true_eq_false, Bool.false_eq_true, Bool.not_true, Bool.not_false]; rfl
        · have h5 : (l.length : Int) ≤ j := by omega
          simp only [h1, h2, h3, h4, h5, L27_11_eq, obs, oms, bin_add, bin_sub, bin_lss, bin_leq, bin_gtr, bin_geq, bin_eql, bin_neq, bin_eqlB, bin_neqB, un_not, cond_B, gd_B, gd_undef, gdH_B, gdH_undef, pickA_B, extractA_tup, lenA_sl, lenA_row, fldA_fp, fldA_ptr, fldA_rptr, List.getElem?_cons_zero, List.getElem?_cons_succ, decide_true, decide_false, if_true, if_false, Bool.true_eq_false, Bool.false_eq_true, Bool.not_true, Bool.not_false]; rfl
  · have hp : pcode l (code l n) i j = code l n := if_neg h
    rw [hp]
    by_cases h1 : code l n = 0
    · have h2 : ¬ i < 0 := by omega
      have h3 : ¬ (l.length : Int) ≤ i := by omega
      have h4 : ¬ j < 0 := by omega
      have h5 : ¬ (l.length : Int) ≤ j := by omega
      simp only [h1, h2, h3, h4, h5, L27_11_eq, obs, oms, bin_add, bin_sub, bin_lss, bin_leq, bin_gtr, bin_geq, bin_eql, bin_neq, bin_eqlB, bin_neqB, un_not, cond_B, gd_B, gd_undef, gdH_B, gdH_undef, pickA_B, extractA_tup, lenA_sl, lenA_row, fldA_fp, fldA_ptr, fldA_rptr, List.getElem?_cons_zero, List.getElem?_cons_succ, decide_true, decide_false, if_true, if_false, Bool.true_eq_false, Bool.false_eq_true, Bool.not_true, Bool.not_false]; rfl
    · simp only [h1, L27_11_eq, obs, oms, bin_add, bin_sub, bin_lss, bin_leq, bin_gtr, bin_geq, bin_eql, bin_neq, bin_eqlB, bin_neqB, un_not, cond_B, gd_B, gd_undef, gdH_B, gdH_undef, pickA_B, extractA_tup, lenA_sl, lenA_row, fldA_fp, fldA_ptr, fldA_rptr, List.getElem?_cons_zero, List.getElem?_cons_succ, decide_true, decide_false, if_true, if_false, Bool.true_eq_false, Bool.false_eq_true, Bool.not_true, Bool.not_false]; rfl

theorem call129 {th : Nat} (hth : th ≤ 8) (hl : l.length ≤ 200) (hT : ∀ i, i < l.length → 0 ≤ Th l i ∧ Th l i < th) : ∃ n3 t3 ds, (∀ lo H, callA cfg O 25 [Rw enc nl tg l, I th] lo H = some (W n3 t3 ds, H)) ∧ ints ds = (List.range l.length).map fun j => (List.range th).map fun t => (VC l j t : Int) := by
  obtain ⟨H', n3, t3, ds, e, h⟩ := ent129 (nl := nl) (tg := tg) hl hth hT
  exact ⟨n3, t3, ds, fun lo H => callA_pure (xs := [.sl nl tg l.length (l.flatMap enc), Ia th]) (rs := [W n3 t3 ds]) rfl e rfl, h⟩
theorem call131 {th : Nat} {n3 : Option Bool} {t3 : Bool} {ds : List Dd} (hds : ints ds = (List.range l.length).map fun j => (List.range th).map fun t => (VC l j t : Int)) (hT : ∀ i, i < l.length → 0 ≤ Th l i ∧ Th l i < th) {i j : Nat} (hi : i < l.length) (hj : j < l.length) (lo : List Nat) (H : Heap) :
    callA cfg O 28 [Rw enc nl tg l, W n3 t3 ds, I i, I j] lo H = some (B (dec (Bf (ED l) i j)), H) :=
  callA_pure (xs := [.sl nl tg l.length (l.flatMap enc), .sl n3 t3 ds.length (ds.map us), Ia i, Ia j]) (rs := [B (dec (Bf (ED l) i j))]) rfl (ent131 hds hT hi hj) rfl

/-- Of. -/
theorem call75 (lo : List Nat) (H : Heap) : ∃ n3 t3 ds, callA cfg O 14 [Rw enc nl tg l, I n] lo H = some (.tup [W n3 t3 ds, I (code l n)], H) ∧ (code l n ≠ 0 → ds = []) ∧ ∀ th : Nat, n = th → code l n = 0 → ints ds = (List.range l.length).map fun j => (List.range th).map fun t => (VC l j t : Int) := by
  by_cases h : code l n = 0
  · obtain ⟨th, rfl, h1, h2, h3⟩ := code0 h
    obtain ⟨n3, t3, ds, e, hds⟩ := call129 (nl := nl) (tg := tg) h1 h2 h3
    refine ⟨n3, t3, ds, callA_pure (xs := [.sl nl tg l.length (l.flatMap enc), Ia th]) (H' := []) (rs := [W n3 t3 ds, I (code l th)]) rfl ?_ rfl, fun h4 => (h4 h).elim, fun th' e _ => ?_⟩
    · show O.ent 14 [Rw enc nl tg l, I th] [] [] = _
      rw [f14_eq]
      simp only [call127, h, e, obs, oms, bin_add, bin_sub, bin_lss, bin_leq, bin_gtr, bin_geq, bin_eql, bin_neq, bin_eqlB, bin_neqB, un_not, cond_B, gd_B, gd_undef, gdH_B, gdH_undef, pickA_B, extractA_tup, lenA_sl, lenA_row, fldA_fp, fldA_ptr, fldA_rptr, List.getElem?_cons_zero, List.getElem?_cons_succ, decide_true, decide_false, if_true, if_false, Bool.true_eq_false, Bool.false_eq_true, Bool.not_true, Bool.not_false]
      rfl
    · have : th' = th := by omega
      rw [this]; exact hds
  · refine ⟨some true, true, [], callA_pure (xs := [.sl nl tg l.length (l.flatMap enc), Ia n]) (H' := []) (rs := [.p nilS, I (code l n)]) rfl ?_ rfl, fun _ => rfl, fun _ _ h2 => (h h2).elim⟩
    show O.ent 14 [Rw enc nl tg l, I n] [] [] = _
    rw [f14_eq]
    simp only [call127, h, obs, oms, bin_add, bin_sub, bin_lss, bin_leq, bin_gtr, bin_geq, bin_eql, bin_neq, bin_eqlB, bin_neqB, un_not, cond_B, gd_B, gd_undef, gdH_B, gdH_undef, pickA_B, extractA_tup, lenA_sl, lenA_row, fldA_fp, fldA_ptr, fldA_rptr, List.getElem?_cons_zero, List.getElem?_cons_succ, decide_true, decide_false, if_true, if_false, Bool.true_eq_false, Bool.false_eq_true, Bool.not_true, Bool.not_false]
    rfl

/-- Before, Apart: what is told. -/
noncomputable def bfO (l : List E) (c i j : Int) : Bool := dec (pcode l c i j = 0 ∧ Bf (ED l) i.toNat j.toNat)
noncomputable def apO (l : List E) (c i j : Int) : Bool := dec (pcode l c i j = 0 ∧ i ≠ j ∧ ¬ Bf (ED l) i.toNat j.toNat ∧ ¬ Bf (ED l) j.toNat i.toNat)

theorem dec_f {p : Prop} (h : ¬ p) : dec p = false := by
  cases h2 : dec p with
  | false => rfl
  | true => exact (h (dec_iff.mp h2)).elim

theorem pcode0 {c i j : Int} (h : pcode l c i j = 0) : c = 0 ∧ ∃ a b : Nat, i = a ∧ j = b ∧ a < l.length ∧ b < l.length := by
  unfold pcode at h
  split at h
  · omega
  · rename_i h2
    refine ⟨h, i.toNat, j.toNat, ?_, ?_, ?_, ?_⟩ <;> omega

theorem call76 (i j : Int) (lo : List Nat) (H : Heap) : callA cfg O 19 [Rw enc nl tg l, I n, I i, I j] lo H = some (.tup [B (bfO l (code l n) i j), I (pcode l (code l n) i j)], H) := by
  refine callA_pure (xs := [.sl nl tg l.length (l.flatMap enc), Ia n, Ia i, Ia j]) (H' := []) (rs := [B (bfO l (code l n) i j), I (pcode l (code l n) i j)]) rfl ?_ rfl
  show O.ent 19 [Rw enc nl tg l, I n, I i, I j] [] [] = _
  rw [f19_eq]
  by_cases h : pcode l (code l n) i j = 0
  · obtain ⟨h0, a, b, rfl, rfl, ha, hb⟩ := pcode0 h
    obtain ⟨th, rfl, h1, h2, h3⟩ := code0 h0
    obtain ⟨n3, t3, ds, e, hds⟩ := call129 (nl := nl) (tg := tg) h1 h2 h3
    have e2 := call131 (nl := nl) (tg := tg) (n3 := n3) (t3 := t3) hds h3 ha hb []
    have e3 : bfO l (code l th) a b = dec (Bf (ED l) a b) := dec_congr ⟨fun h => h.2, fun h2 => ⟨h, h2⟩⟩
    rw [e3]
    simp only [call130, h, e, e2, obs, oms, bin_add, bin_sub, bin_lss, bin_leq, bin_gtr, bin_geq, bin_eql, bin_neq, bin_eqlB, bin_neqB, un_not, cond_B, gd_B, gd_undef, gdH_B, gdH_undef, pickA_B, extractA_tup, lenA_sl, lenA_row, fldA_fp, fldA_ptr, fldA_rptr, List.getElem?_cons_zero, List.getElem?_cons_succ, decide_true, decide_false, if_true, if_false, Bool.true_eq_false, Bool.false_eq_true, Bool.not_true, Bool.not_false]
    rfl
  · have e3 : bfO l (code l n) i j = false := dec_f fun h2 => h h2.1
    rw [e3]
    simp only [call130, h, obs, oms, bin_add, bin_sub, bin_lss, bin_leq, bin_gtr, bin_geq, bin_eql, bin_neq, bin_eqlB, bin_neqB, un_not, cond_B, gd_B, gd_undef, gdH_B, gdH_undef, pickA_B, extractA_tup, lenA_sl, lenA_row, fldA_fp, fldA_ptr, fldA_rptr, List.getElem?_cons_zero, List.getElem?_cons_succ, decide_true, decide_false, if_true, if_false, Bool.true_eq_false, Bool.false_eq_true, Bool.not_true, Bool.not_false]
    rfl

theorem call77 (i j : Int) (lo : List Nat) (H : Heap) : callA cfg O 16 [Rw enc nl tg l, I n, I i, I j] lo H = some (.tup [B (apO l (code l n) i j), I (pcode l (code l n) i j)], H) := by
  refine callA_pure (xs := [.sl nl tg l.length (l.flatMap enc), Ia n, Ia i, Ia j]) (H' := []) (rs := [B (apO l (code l n) i j), I (pcode l (code l n) i j)]) rfl ?_ rfl
  show O.ent 16 [Rw enc nl tg l, I n, I i, I j] [] [] = _
  rw [f16_eq]
  by_cases h : pcode l (code l n) i j = 0
  · obtain ⟨h0, a, b, rfl, rfl, ha, hb⟩ := pcode0 h
    obtain ⟨th, rfl, h1, h2, h3⟩ := code0 h0
    obtain ⟨n3, t3, ds, e, hds⟩ := call129 (nl := nl) (tg := tg) h1 h2 h3
    have e2 := call131 (nl := nl) (tg := tg) (n3 := n3) (t3 := t3) hds h3 ha hb []
    have e2' := call131 (nl := nl) (tg := tg) (n3 := n3) (t3 := t3) hds h3 hb ha []
    have e3 : apO l (code l th) a b = (!decide ((a : Int) = b) && !dec (Bf (ED l) a b) && !dec (Bf (ED l) b a)) := by
      unfold apO
      rw [Bool.eq_iff_iff, dec_iff]
      simp only [Bool.and_eq_true, Bool.not_eq_true', decide_eq_false_iff_not, Int.toNat_natCast]
      have hf : ∀ p : Prop, dec p = false ↔ ¬ p := fun p => ⟨fun h h2 => (by rw [dec_iff.mpr h2] at h; cases h), dec_f⟩
      rw [hf, hf, and_assoc]
      exact ⟨fun h => h.2, fun h2 => ⟨h, h2⟩⟩
    have c130 : ∀ lo H, callA cfg O 27 [Rw enc nl tg l, I th, I a, I b] lo H = some (I 0, H) := fun lo H => by rw [call130, h]
    rw [e3, h]
    simp only [c130, e, obs]
    by_cases g1 : (a : Int) = b
    · simp only [c130, e, g1, Bool.false_and, obs, oms, bin_add, bin_sub, bin_lss, bin_leq, bin_gtr, bin_geq, bin_eql, bin_neq, bin_eqlB, bin_neqB, un_not, cond_B, gd_B, gd_undef, gdH_B, gdH_undef, pickA_B, extractA_tup, lenA_sl, lenA_row, fldA_fp, fldA_ptr, fldA_rptr, List.getElem?_cons_zero, List.getElem?_cons_succ, decide_true, decide_false, if_true, if_false, Bool.true_eq_false, Bool.false_eq_true, Bool.not_true, Bool.not_false]
      rfl
    · cases g2 : dec (Bf (ED l) a b) with
      | true =>
        rw [g2] at e2
        simp only [c130, e, g1, e2, Bool.false_and, Bool.and_false, obs, oms, bin_add, bin_sub, bin_lss, bin_leq, bin_gtr, bin_geq, bin_eql, bin_neq, bin_eqlB, bin_neqB, un_not, cond_B, gd_B, gd_undef, gdH_B, gdH_undef, pickA_B, extractA_tup, lenA_sl, lenA_row, fldA_fp, fldA_ptr, fldA_rptr, List.getElem?_cons_zero, List.getElem?_cons_succ, decide_true, decide_false, if_true, if_false, Bool.true_eq_false, Bool.false_eq_true, Bool.not_true, Bool.not_false]
        rfl
      | false =>
        rw [g2] at e2
        simp only [c130, e, g1, e2, e2', Bool.true_and, obs, oms, bin_add, bin_sub, bin_lss, bin_leq, bin_gtr, bin_geq, bin_eql, bin_neq, bin_eqlB, bin_neqB, un_not, cond_B, gd_B, gd_undef, gdH_B, gdH_undef, pickA_B, extractA_tup, lenA_sl, lenA_row, fldA_fp, fldA_ptr, fldA_rptr, List.getElem?_cons_zero, List.getElem?_cons_succ, decide_true, decide_false, if_true, if_false, Bool.true_eq_false, Bool.false_eq_true, Bool.not_true, Bool.not_false]
        rfl
  · have e3 : apO l (code l n) i j = false := dec_f fun h2 => h h2.1
    rw [e3]
    simp only [call130, h, obs, oms, bin_add, bin_sub, bin_lss, bin_leq, bin_gtr, bin_geq, bin_eql, bin_neq, bin_eqlB, bin_neqB, un_not, cond_B, gd_B, gd_undef, gdH_B, gdH_undef, pickA_B, extractA_tup, lenA_sl, lenA_row, fldA_fp, fldA_ptr, fldA_rptr, List.getElem?_cons_zero, List.getElem?_cons_succ, decide_true, decide_false, if_true, if_false, Bool.true_eq_false, Bool.false_eq_true, Bool.not_true, Bool.not_false]
    rfl
end
end Cl
end Go.Proofs.Ytfdnamedmjhcfaa

set_option linter.unusedVariables false
set_option linter.unusedSimpArgs false
namespace Go.Proofs.Ytfdnamedmjhcfaa
open Go Go.AM Go.AM.Ck
namespace Cl

theorem cn_t {p : Nat → Prop} {n : Nat} (h : p n) : cn p (n + 1) = cn p n + 1 := by rw [cn, if_pos h]
theorem cn_f {p : Nat → Prop} {n : Nat} (h : ¬ p n) : cn p (n + 1) = cn p n := by rw [cn, if_neg h]; rfl

theorem ent23 {n1 n2 : Option Bool} {t1 t2 : Bool} {a : List Int} (ha : a.length < 2 ^ 40) : O.ent 13 [V n1 t1 a, V n2 t2 a] [] [] = some ([B true], []) := by
  have go : ∀ (t i : Nat), a.length - i = t → i ≤ a.length → L13_10 [V n1 t1 a, V n2 t2 a, I i] [] [] = some ([B true], []) := by
    intro t
    induction t with
    | zero =>
      intro i ht hi
      have : i = a.length := by omega
      subst this
      rw [L13_10_eq]
      simp only [Int.lt_irrefl, beq_self_eq_true, obs, oms, bin_add, bin_sub, bin_lss, bin_leq, bin_gtr, bin_geq, bin_eql, bin_neq, bin_eqlB, bin_neqB, un_not, cond_B, gd_B, gd_undef, gdH_B, gdH_undef, pickA_B, extractA_tup, lenA_sl, lenA_row, fldA_fp, fldA_ptr, fldA_rptr, List.getElem?_cons_zero, List.getElem?_cons_succ, decide_true, decide_false, if_true, if_false, Bool.true_eq_false, Bool.false_eq_true, Bool.not_true, Bool.not_false]
      rfl
    | succ t ih =>
      intro i ht hi
      have hi' : i < a.length := by omega
      have hlt : (i : Int) < a.length := by omega
      rw [L13_10_eq]
      simp only [hlt, idxV hi', ldV hi', obs, oms, bin_add, bin_sub, bin_lss, bin_leq, bin_gtr, bin_geq, bin_eql, bin_neq, bin_eqlB, bin_neqB, un_not, cond_B, gd_B, gd_undef, gdH_B, gdH_undef, pickA_B, extractA_tup, lenA_sl, lenA_row, fldA_fp, fldA_ptr, fldA_rptr, List.getElem?_cons_zero, List.getElem?_cons_succ, decide_true, decide_false, if_true, if_false, Bool.true_eq_false, Bool.false_eq_true, Bool.not_true, Bool.not_false]
      rw [wrap_id (by omega), nxt]
      exact ih (i + 1) (by omega) (by omega)
  rw [f13_eq]
  simp only [obs, oms, bin_add, bin_sub, bin_lss, bin_leq, bin_gtr, bin_geq, bin_eql, bin_neq, bin_eqlB, bin_neqB, un_not, cond_B, gd_B, gd_undef, gdH_B, gdH_undef, pickA_B, extractA_tup, lenA_sl, lenA_row, fldA_fp, fldA_ptr, fldA_rptr, List.getElem?_cons_zero, List.getElem?_cons_succ, decide_true, decide_false, if_true, if_false, Bool.true_eq_false, Bool.false_eq_true, Bool.not_true, Bool.not_false]
  exact go _ 0 rfl (by omega)

theorem call23 {n1 : Option Bool} {t1 : Bool} {a : List Int} {id : Nat} {H : Heap} (hH : H[id]? = some (.row 0 1 (a.map Ia))) (ha : a.length < 2 ^ 40) (lo : List Nat) : callA cfg O 13 [V n1 t1 a, .row id 0 0 a.length] lo H = some (B true, H) := by
  have hL : Lst 1 (.row id 0 0 a.length) H a.length (a.map Ia) := Lst.row (by simp) hH
  obtain ⟨n3, t3, q, ep⟩ := pureLst hL
  refine callA_rows (H' := []) (rs := [B true]) (ys := [V n1 t1 a, V n3 t3 a]) (b := false || (q || false)) rfl ?_ (ent23 ha) rfl rfl
  simp only [pureArgs, ep, obs, oms]
  rfl

section
variable {l : List E} {nl : Option Bool} {tg : Bool} {n : Int} {n2 : Option Bool} {t2 : Bool}

theorem idxB {f : Nat → Bool} {L i : Nat} {n3 : Option Bool} {t3 : Bool} (h : i < L) : idxA 1 (.p (.sl n3 t3 L (rB f L))) (I i) = some (.fp (rB f L) i) := by
  have := idxA_sl (sz := 1) (n := L) (nl := n3) (t := t3) (xs := rB f L) (j := (i : Int)) (by omega)
  simpa using this
theorem ldB {f : Nat → Bool} {L i : Nat} (h : i < L) (H : Heap) : ld false 1 (.fp (rB f L) i) H = some (B (f i)) := by
  show ((rB f L)[i]?).map AV.p = _
  rw [rB_at f h]
  rfl

theorem call78 {j : Nat} (hj : j < l.length) (hL : l.length < 2 ^ 40) (lo : List Nat) (H : Heap) : callA cfg O 9 [Rw enc nl tg l, I j] lo H = some (.p (.sl (some false) false l.length (rB (fun n => dec (Bf (ED l) n j)) l.length)), H) := by
  obtain ⟨H', e⟩ := ent78 (nl := nl) (tg := tg) hj hL
  exact callA_pure (xs := [.sl nl tg l.length (l.flatMap enc), Ia j]) (rs := [.p (.sl (some false) false l.length (rB (fun n => dec (Bf (ED l) n j)) l.length))]) rfl e rfl

end
end Cl
end Go.Proofs.Ytfdnamedmjhcfaa
