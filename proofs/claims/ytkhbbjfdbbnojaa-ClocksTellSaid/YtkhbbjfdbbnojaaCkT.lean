import Derived.Test.YtkhbbjfdbbnojaaCkS
set_option linter.unusedVariables false
set_option linter.unusedSimpArgs false
namespace Go.Proofs.Ytkhbbjfdbbnojaa
open Go Go.AM Go.AM.Ck
namespace Cl

section
variable {l : List E} {nl : Option Bool} {tg : Bool} {th : Nat} {n2 : Option Bool} {t2 : Bool}

noncomputable def isJ (l : List E) (j : Nat) : List Nat := (List.range j).filter fun q => dec (ED l q j)
theorem rw_isJ (l : List E) (j : Nat) : rw' l j j = (isJ l j).map fun i : Nat => ((i : Int), (j : Int)) := by
  unfold rw' flt isJ
  rw [List.map_map]
  rfl
theorem mem_isJ {j i : Nat} : i ∈ isJ l j ↔ i < j ∧ ED l i j := by
  unfold isJ
  rw [List.mem_filter, List.mem_range, dec_iff]

theorem loop20' (hl : l.length ≤ 200) (h0 : 0 < l.length) (hth : th ≤ 8) (hT : ∀ i, i < l.length → 0 ≤ Th l i ∧ Th l i < th) : ∀ (c j : Nat) (H : Heap) (X : List (Nat × AObj)) (g : Nat → Nat → Nat) (rest : List P2), l.length - j = c → j ≤ l.length → rf l l.length = rf l j ++ rest → rest.length < 2 ^ 40 →
    SN l.length th X H g → (∀ a b, g a b ≤ 200) → (∀ a b, a < j → b < th → g a b = VC l a b) → (∀ a b, j ≤ a → g a b = 0) →
    ∃ H' n3 t3 ds, L129_20 [.bsl 0 l.length, Rw encP n2 t2 rest, Rw enc nl tg l, I l.length, I j] [] H = some ([W n3 t3 ds], H') ∧ ints ds = (List.range l.length).map fun j => (List.range th).map fun t => (VC l j t : Int) := by
  intro c
  induction c with
  | zero =>
    intro j H X g rest hc hj hrest hrl h hg hv hz
    have : j = l.length := by omega
    subst this
    obtain ⟨ds, H', e, e2⟩ := SS.frz h h0
    have hdl : ds.length = l.length := by
      have := congrArg List.length e2
      simpa [ints] using this
    refine ⟨[], some false, false, ds, ?_, ?_⟩
    · rw [L129_20_eq]
      simp only [Int.lt_irrefl, obs, oms, bin_add, bin_sub, bin_lss, bin_leq, bin_gtr, bin_geq, bin_eql, bin_neq, bin_eqlB, bin_neqB, un_not, cond_B, gd_B, gd_undef, gdH_B, gdH_undef, pickA_B, extractA_tup, lenA_sl, lenA_row, fldA_fp, fldA_ptr, fldA_rptr, List.getElem?_cons_zero, List.getElem?_cons_succ, decide_true, decide_false, if_true, if_false, Bool.true_eq_false, Bool.false_eq_true, Bool.not_true, Bool.not_false]
      refine leave0_all (H' := H') (ps := [.sl (some false) false ds.length (ds.map us)]) ?_
      simp only [frzAll, e, obs, oms, hdl]
      rfl
    · rw [e2]
      refine List.map_congr_left fun j hj => List.map_congr_left fun t ht => ?_
      rw [hv j t (List.mem_range.mp hj) (List.mem_range.mp ht)]
  | succ c ih =>
    intro j H X g rest hc hj hrest hrl h hg hv hz
    have hj' : j < l.length := by omega
    have hlt : (j : Int) < l.length := by omega
    obtain ⟨rest2, hr2⟩ := rf_pre (l := l) (show j + 1 ≤ l.length from hj')
    have hre : rest = (isJ l j).map (fun i : Nat => ((i : Int), (j : Int))) ++ rest2 := by
      rw [rf, rw_isJ, List.append_assoc] at hr2
      rw [← hr2] at hrest
      exact (List.append_cancel_left hrest).symm
    obtain ⟨tj, htj⟩ : ∃ tj : Nat, Th l j = tj := ⟨(Th l j).toNat, by have := hT j hj'; omega⟩
    have htj2 : tj < th := by have := (hT j hj').2; omega
    have htl : ∀ p, p ∈ rest2 → p.2 ≠ j := by
      intro p hp e
      have hpm : p ∈ rf l l.length := by rw [← hr2]; exact List.mem_append_right _ hp
      obtain ⟨i, y, rfl, h1, h2⟩ := (mem_rf _ _).mp hpm
      have hy : y = j := by have e' : (y : Int) = j := e; omega
      have hq : ((i : Int), (y : Int)) ∈ rf l (j + 1) := (mem_rf _ _).mpr ⟨i, y, rfl, by omega, h2⟩
      have hs := rf_sorted (l := l) l.length
      rw [← hr2] at hs
      exact plt_irr _ ((List.pairwise_append.mp hs).2.2 _ hq _ hp)
    have hbox := SS.box h ((enc (l.getD j z0)).map .p)
    have hlen : ((isJ l j).map (fun i : Nat => ((i : Int), (j : Int))) ++ rest2).length < 2 ^ 40 := by rw [← hre]; exact hrl
    rw [List.length_append, List.length_map] at hlen
    obtain ⟨H1, g1, e1, h1, k1, k2, k3⟩ := loop24 (nl := nl) (tg := tg) (n2 := n2) (t2 := t2) hj' hl hth htj htj2 (pe := H.length) (X := (H.length, bxE (l.getD j z0)) :: X) (by simp) htl (by omega) (isJ l j) _ g (fun i hi => (mem_isJ.mp hi).1) (by omega) hg hbox
    have hok := edOk l
    have hmax : ∀ b, b < th → ((isJ l j).map fun i => g i b).foldl max (g j b) = cn (fun n => Th l n = b ∧ Bf (ED l) n j) l.length := by
      intro b hb
      rw [hz j b (Nat.le_refl _)]
      have e : ((isJ l j).map fun i => g i b) = (isJ l j).map fun i => VC l i b := List.map_congr_left fun i hi => hv i b (mem_isJ.mp hi).1 hb
      rw [e]
      refine maxl (fun x hx => ?_) ?_
      · obtain ⟨i, hi, rfl⟩ := List.mem_map.mp hx
        exact vc_le hok (mem_isJ.mp hi).2
      · rcases vc_max hok hj' b with h | ⟨i, hr, hi⟩
        · exact .inl h
        · exact .inr (List.mem_map.mpr ⟨i, mem_isJ.mpr ⟨hr.1, hr⟩, hi⟩)
    have hvj : ∀ b, b < th → g1 j b = VC l j b := by
      intro b hb
      rw [k2 b hb, hmax b hb]
      by_cases e : b = tj
      · subst e
        rw [if_pos rfl]
        unfold VC
        rw [← htj]
        exact (vc_own hok hj').symm
      · rw [if_neg e]
        exact (vc_other (t := b) (by rw [htj]; omega)).symm
    have hvle : ∀ a b, VC l a b ≤ 200 := fun a b => Nat.le_trans (cn_le _ _) hl
    obtain ⟨H', n3, t3, ds, e2, e3⟩ := ih (j + 1) H1 _ g1 rest2 (by omega) (by omega) hr2.symm (by omega) h1 (fun a b => by
        by_cases ha : a = j
        · subst ha
          by_cases hb : b < th
          · rw [hvj b hb]; exact hvle _ _
          · rw [k3 b (by omega)]; exact hg _ _
        · rw [k1 a b ha]; exact hg _ _)
      (fun a b ha hb => by
        by_cases e : a = j
        · subst e; exact hvj b hb
        · rw [k1 a b e]; exact hv a b (by omega) hb)
      (fun a b ha => by rw [k1 a b (by omega)]; exact hz a b (by omega))
    refine ⟨H', n3, t3, ds, ?_, e3⟩
    rw [← e2, ← e1, hre, L129_20_eq]
    have z12 : ([(I 0), (I 0), (I 0), (I 0), (I 0), (I 0), (I 0), (I 0), (I 0), (I 0), (I 0), (I 0)] : List AV) = (List.replicate 12 (Ia 0)).map .p := rfl
    have hs : stA 12 (.ptr H.length 0) (avE (l.getD j z0)) [] (H ++ [.box ((List.replicate 12 (Ia 0)).map .p)]) = some (H ++ [bxE (l.getD j z0)]) := stA_new rfl rfl (by omega)
    simp only [hlt, idxE hj', ldEv hj', z12, boxE, hs, obs, oms, bin_add, bin_sub, bin_lss, bin_leq, bin_gtr, bin_geq, bin_eql, bin_neq, bin_eqlB, bin_neqB, un_not, cond_B, gd_B, gd_undef, gdH_B, gdH_undef, pickA_B, extractA_tup, lenA_sl, lenA_row, fldA_fp, fldA_ptr, fldA_rptr, List.getElem?_cons_zero, List.getElem?_cons_succ, decide_true, decide_false, if_true, if_false, Bool.true_eq_false, Bool.false_eq_true, Bool.not_true, Bool.not_false]

theorem ent129 (hl : l.length ≤ 200) (hth : th ≤ 8) (hT : ∀ i, i < l.length → 0 ≤ Th l i ∧ Th l i < th) :
    ∃ H' n3 t3 ds, O.ent 129 [Rw enc nl tg l, I th] [] [] = some ([W n3 t3 ds], H') ∧ ints ds = (List.range l.length).map fun j => (List.range th).map fun t => (VC l j t : Int) := by
  obtain ⟨n2, t2, S, e, q1, q2, q3⟩ := ent128 (nl := nl) (tg := tg) hl
  have hS : S = rf l l.length := plt_uniq q1 (rf_sorted _) fun p => (q2 p).trans (mem_rf _ p).symm
  have c128 : ∀ H, callA cfg O 128 [Rw enc nl tg l] [] H = some (Rw encP n2 t2 S, H) := fun H => callA_pure (xs := [.sl nl tg l.length (l.flatMap enc)]) (rs := [Rw encP n2 t2 S]) rfl e rfl
  by_cases h0 : 0 < l.length
  · obtain ⟨H0, e0, hl0, h0'⟩ := made0 h0 (by omega) th
    obtain ⟨H1, e1, h1⟩ := loop8 (nl := nl) (tg := tg) hth hl l.length 0 H0 rfl (by omega) hl0 h0'
    obtain ⟨H', n3, t3, ds, e2, e3⟩ := loop20' (nl := nl) (tg := tg) (n2 := n2) (t2 := t2) hl h0 hth hT l.length 0 H1 [] (fun _ _ => 0) S rfl (by omega) (by rw [← hS]; rfl) (by omega) h1 (fun _ _ => Nat.zero_le _) (fun a b h => by omega) (fun _ _ _ => rfl)
    refine ⟨H', n3, t3, ds, ?_, e3⟩
    rw [f129_eq]
    simp only [lenA_sl, e0, obs]
    have e1' : L129_8 [Rw enc nl tg l, I th, .bsl 0 l.length, I l.length, I 0] [] H0 = _ := e1
    rw [e1', L129_8_eq]
    simp only [Int.lt_irrefl, c128, obs, oms, bin_add, bin_sub, bin_lss, bin_leq, bin_gtr, bin_geq, bin_eql, bin_neq, bin_eqlB, bin_neqB, un_not, cond_B, gd_B, gd_undef, gdH_B, gdH_undef, pickA_B, extractA_tup, lenA_sl, lenA_row, fldA_fp, fldA_ptr, fldA_rptr, List.getElem?_cons_zero, List.getElem?_cons_succ, decide_true, decide_false, if_true, if_false, Bool.true_eq_false, Bool.false_eq_true, Bool.not_true, Bool.not_false]
    exact e2
  · have hz : l = [] := List.length_eq_zero_iff.mp (by omega)
    subst hz
    refine ⟨[], none, false, [], ?_, rfl⟩
    rw [f129_eq]
    have hmk : mkBsl 1 24 [nilS] (I 0) (I 0) [] = some (.row 0 0 0 0, [.row 0 1 []]) := rfl
    have zz : ((0 : Nat) : Int) = 0 := rfl
    simp only [List.length_nil, zz, hmk, obs, oms, bin_add, bin_sub, bin_lss, bin_leq, bin_gtr, bin_geq, bin_eql, bin_neq, bin_eqlB, bin_neqB, un_not, cond_B, gd_B, gd_undef, gdH_B, gdH_undef, pickA_B, extractA_tup, lenA_sl, lenA_row, fldA_fp, fldA_ptr, fldA_rptr, List.getElem?_cons_zero, List.getElem?_cons_succ, decide_true, decide_false, if_true, if_false, Bool.true_eq_false, Bool.false_eq_true, Bool.not_true, Bool.not_false]
    rw [L129_8_eq]
    simp only [Int.lt_irrefl, List.length_nil, zz, c128, obs, oms, bin_add, bin_sub, bin_lss, bin_leq, bin_gtr, bin_geq, bin_eql, bin_neq, bin_eqlB, bin_neqB, un_not, cond_B, gd_B, gd_undef, gdH_B, gdH_undef, pickA_B, extractA_tup, lenA_sl, lenA_row, fldA_fp, fldA_ptr, fldA_rptr, List.getElem?_cons_zero, List.getElem?_cons_succ, decide_true, decide_false, if_true, if_false, Bool.true_eq_false, Bool.false_eq_true, Bool.not_true, Bool.not_false]
    rw [L129_20_eq]
    simp only [Int.lt_irrefl, obs, oms, bin_add, bin_sub, bin_lss, bin_leq, bin_gtr, bin_geq, bin_eql, bin_neq, bin_eqlB, bin_neqB, un_not, cond_B, gd_B, gd_undef, gdH_B, gdH_undef, pickA_B, extractA_tup, lenA_sl, lenA_row, fldA_fp, fldA_ptr, fldA_rptr, List.getElem?_cons_zero, List.getElem?_cons_succ, decide_true, decide_false, if_true, if_false, Bool.true_eq_false, Bool.false_eq_true, Bool.not_true, Bool.not_false]
    rfl
end
end Cl
end Go.Proofs.Ytkhbbjfdbbnojaa
