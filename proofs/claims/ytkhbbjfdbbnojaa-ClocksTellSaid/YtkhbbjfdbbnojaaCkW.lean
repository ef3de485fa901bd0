import Derived.Test.YtkhbbjfdbbnojaaCkV
set_option linter.unusedVariables false
set_option linter.unusedSimpArgs false
namespace Go.Proofs.Ytkhbbjfdbbnojaa
open Go Go.AM Go.AM.Ck
namespace Cl

theorem cn_t {p : Nat → Prop} {n : Nat} (h : p n) : cn p (n + 1) = cn p n + 1 := by rw [cn, if_pos h]
theorem cn_f {p : Nat → Prop} {n : Nat} (h : ¬ p n) : cn p (n + 1) = cn p n := by rw [cn, if_neg h]; rfl

theorem ent23 {n1 n2 : Option Bool} {t1 t2 : Bool} {a : List Int} (ha : a.length < 2 ^ 40) : O.ent 23 [V n1 t1 a, V n2 t2 a] [] [] = some ([B true], []) := by
  have go : ∀ (t i : Nat), a.length - i = t → i ≤ a.length → L23_10 [V n1 t1 a, V n2 t2 a, I i] [] [] = some ([B true], []) := by
    intro t
    induction t with
    | zero =>
      intro i ht hi
      have : i = a.length := by omega
      subst this
      rw [L23_10_eq]
      simp only [Int.lt_irrefl, beq_self_eq_true, obs, oms, bin_add, bin_sub, bin_lss, bin_leq, bin_gtr, bin_geq, bin_eql, bin_neq, bin_eqlB, bin_neqB, un_not, cond_B, gd_B, gd_undef, gdH_B, gdH_undef, pickA_B, extractA_tup, lenA_sl, lenA_row, fldA_fp, fldA_ptr, fldA_rptr, List.getElem?_cons_zero, List.getElem?_cons_succ, decide_true, decide_false, if_true, if_false, Bool.true_eq_false, Bool.false_eq_true, Bool.not_true, Bool.not_false]
      rfl
    | succ t ih =>
      intro i ht hi
      have hi' : i < a.length := by omega
      have hlt : (i : Int) < a.length := by omega
      rw [L23_10_eq]
      simp only [hlt, idxV hi', ldV hi', obs, oms, bin_add, bin_sub, bin_lss, bin_leq, bin_gtr, bin_geq, bin_eql, bin_neq, bin_eqlB, bin_neqB, un_not, cond_B, gd_B, gd_undef, gdH_B, gdH_undef, pickA_B, extractA_tup, lenA_sl, lenA_row, fldA_fp, fldA_ptr, fldA_rptr, List.getElem?_cons_zero, List.getElem?_cons_succ, decide_true, decide_false, if_true, if_false, Bool.true_eq_false, Bool.false_eq_true, Bool.not_true, Bool.not_false]
      rw [wrap_id (by omega), nxt]
      exact ih (i + 1) (by omega) (by omega)
  rw [f23_eq]
  simp only [obs, oms, bin_add, bin_sub, bin_lss, bin_leq, bin_gtr, bin_geq, bin_eql, bin_neq, bin_eqlB, bin_neqB, un_not, cond_B, gd_B, gd_undef, gdH_B, gdH_undef, pickA_B, extractA_tup, lenA_sl, lenA_row, fldA_fp, fldA_ptr, fldA_rptr, List.getElem?_cons_zero, List.getElem?_cons_succ, decide_true, decide_false, if_true, if_false, Bool.true_eq_false, Bool.false_eq_true, Bool.not_true, Bool.not_false]
  exact go _ 0 rfl (by omega)

theorem call23 {n1 : Option Bool} {t1 : Bool} {a : List Int} {id : Nat} {H : Heap} (hH : H[id]? = some (.row 0 1 (a.map Ia))) (ha : a.length < 2 ^ 40) (lo : List Nat) : callA cfg O 23 [V n1 t1 a, .row id 0 0 a.length] lo H = some (B true, H) := by
  have hL : Lst 1 (.row id 0 0 a.length) H a.length (a.map Ia) := Lst.row (by simp) hH
  obtain ⟨n3, t3, q, ep⟩ := pureLst hL
  refine callA_rows (H' := []) (rs := [B true]) (ys := [V n1 t1 a, V n3 t3 a]) (b := false || (q || false)) rfl ?_ (ent23 ha) rfl rfl
  simp only [pureArgs, ep, obs, oms]
  rfl

section
variable {l : List E} {nl : Option Bool} {tg : Bool} {n : Int} {n2 : Option Bool} {t2 : Bool}

theorem idxB {f : Nat → Bool} {L i : Nat} {n3 : Option Bool} {t3 : Bool} (h : i < L) : idxA 1 (.p (.sl n3 t3 L (rB f L))) (I i) = some (.fp (rB f L) i) := by
  have := idxA_sl (sz := 1) (n := L) (nl := n3) (t := t3) (xs := rB f L) (j := (i : Int)) (by omega)
  simpa using this
theorem ldB {f : Nat → Bool} {L i : Nat} (h : i < L) (H : Heap) : ld false 1 (.fp (rB f L) i) H = some (B (f i)) := by
  show ((rB f L)[i]?).map AV.p = _
  rw [rB_at f h]
  rfl

noncomputable def owP (l : List E) (k : Nat) (t : Int) (x : Nat) : Prop := Th l x = t ∧ (x = k ∨ Bf (ED l) x k)
noncomputable def owC (l : List E) (k th q : Nat) : List Int := (List.range th).map fun t : Nat => (cn (owP l k t) q : Int)

theorem loop44 {th k id : Nat} (hl : l.length ≤ 200) (hT : ∀ i, i < l.length → 0 ≤ Th l i ∧ Th l i < th) (v9 v10 v11 v12 v13 v14 v15 v16 v17 v18 : AV) : ∀ (c q : Nat) (H : Heap), l.length - q = c → q ≤ l.length → H[id]? = some (.row 0 1 ((owC l k th q).map Ia)) →
    ∃ H', L13_44 [Rw enc nl tg l, I th, v9, v10, v11, v12, v13, v14, v15, v16, v17, v18, I k, .p (.sl (some false) false l.length (rB (fun n => dec (Bf (ED l) n k)) l.length)), .row id 0 0 th, I q] [] H =
      L13_44 [Rw enc nl tg l, I th, v9, v10, v11, v12, v13, v14, v15, v16, v17, v18, I k, .p (.sl (some false) false l.length (rB (fun n => dec (Bf (ED l) n k)) l.length)), .row id 0 0 th, I l.length] [] H' ∧ H'[id]? = some (.row 0 1 ((owC l k th l.length).map Ia)) := by
  intro c
  induction c with
  | zero =>
    intro q H hc hq h
    have : q = l.length := by omega
    subst this
    exact ⟨H, rfl, h⟩
  | succ c ih =>
    intro q H hc hq h
    have hq' : q < l.length := by omega
    have hlt : (q : Int) < l.length := by omega
    obtain ⟨tq, htq⟩ : ∃ tq : Nat, Th l q = tq := ⟨(Th l q).toNat, by have := hT q hq'; omega⟩
    have htq2 : tq < th := by have := (hT q hq').2; omega
    have w2 : IntKind.i64.wrap ((q : Int) + 1) = ((q + 1 : Nat) : Int) := by rw [wrap_id (by omega), nxt]
    by_cases hc1 : q = k ∨ Bf (ED l) q k
    · have hi : idxA 1 (.row id 0 0 th) (I tq) = some (.rptr id 0 tq) := hbI htq2
      have hlen : (owC l k th q).length = th := by simp [owC]
      have hld : ld false 1 (.rptr id 0 tq) H = some (I (cn (owP l k tq) q)) := by
        rw [ld_row h]
        simp [owC, htq2]
      have hle := cn_le (owP l k tq) q
      have w3 : IntKind.i64.wrap ((cn (owP l k tq) q : Int) + 1) = ((cn (owP l k tq) q + 1 : Nat) : Int) := by rw [wrap_id (by omega), nxt]
      have hst : stA 1 (.rptr id 0 tq) (I ((cn (owP l k tq) q + 1 : Nat) : Int)) [] H = some (H.set id (.row 0 1 ((owC l k th (q + 1)).map Ia))) := by
        rw [stA_row h (by rw [List.length_map, hlen]; exact htq2)]
        have : ((owC l k th q).map Ia).set tq (Ia ((cn (owP l k tq) q + 1 : Nat) : Int)) = (owC l k th (q + 1)).map Ia := by
          rw [← List.map_set]
          congr 1
          refine List.ext_getElem (by simp [owC]) fun m a b => ?_
          simp only [owC, List.getElem_set, List.getElem_map, List.getElem_range]
          by_cases e : tq = m
          · subst e
            rw [if_pos rfl, cn_t (p := owP l k tq) (n := q) ⟨htq, hc1⟩]
          · rw [if_neg e, cn_f (p := owP l k m) (n := q) fun h => e (by have := h.1; omega)]
        exact congrArg (fun x => some (H.set id (AObj.row 0 1 x))) this
      obtain ⟨H', e, r⟩ := ih (q + 1) _ (by omega) (by omega) (setAt h)
      refine ⟨H', ?_, r⟩
      rw [← e, L13_44_eq]
      by_cases hb : Bf (ED l) q k
      · have hd : dec (Bf (ED l) q k) = true := dec_iff.mpr hb
        simp only [hlt, idxB hq', ldB hq', hd, idxE hq', fT hq', htq, hi, hld, w3, hst, L13_47_eq, w2, obs, oms, bin_add, bin_sub, bin_lss, bin_leq, bin_gtr, bin_geq, bin_eql, bin_neq, bin_eqlB, bin_neqB, un_not, cond_B, gd_B, gd_undef, gdH_B, gdH_undef, pickA_B, extractA_tup, lenA_sl, lenA_row, fldA_fp, fldA_ptr, fldA_rptr, List.getElem?_cons_zero, List.getElem?_cons_succ, decide_true, decide_false, if_true, if_false, Bool.true_eq_false, Bool.false_eq_true, Bool.not_true, Bool.not_false]
      · have hd : dec (Bf (ED l) q k) = false := dec_f hb
        have hqk : (q : Int) = k := by have := hc1.resolve_right hb; omega
        have hqk' : q = k := hc1.resolve_right hb
        subst hqk'
        simp only [hlt, idxB hq', ldB hq', hd, idxE hq', fT hq', htq, hi, hld, w3, hst, L13_47_eq, w2, obs, oms, bin_add, bin_sub, bin_lss, bin_leq, bin_gtr, bin_geq, bin_eql, bin_neq, bin_eqlB, bin_neqB, un_not, cond_B, gd_B, gd_undef, gdH_B, gdH_undef, pickA_B, extractA_tup, lenA_sl, lenA_row, fldA_fp, fldA_ptr, fldA_rptr, List.getElem?_cons_zero, List.getElem?_cons_succ, decide_true, decide_false, if_true, if_false, Bool.true_eq_false, Bool.false_eq_true, Bool.not_true, Bool.not_false]
    · have hd : dec (Bf (ED l) q k) = false := dec_f fun h => hc1 (.inr h)
      have hqk : ¬ (q : Int) = k := fun h => hc1 (.inl (by omega))
      have hsame : owC l k th (q + 1) = owC l k th q := by
        refine List.map_congr_left fun t _ => ?_
        rw [cn_f (p := owP l k t) (n := q) fun h => hc1 h.2]
      obtain ⟨H', e, r⟩ := ih (q + 1) H (by omega) (by omega) (by rw [hsame]; exact h)
      refine ⟨H', ?_, r⟩
      rw [← e, L13_44_eq]
      simp only [hlt, idxB hq', ldB hq', hd, hqk, L13_47_eq, w2, obs, oms, bin_add, bin_sub, bin_lss, bin_leq, bin_gtr, bin_geq, bin_eql, bin_neq, bin_eqlB, bin_neqB, un_not, cond_B, gd_B, gd_undef, gdH_B, gdH_undef, pickA_B, extractA_tup, lenA_sl, lenA_row, fldA_fp, fldA_ptr, fldA_rptr, List.getElem?_cons_zero, List.getElem?_cons_succ, decide_true, decide_false, if_true, if_false, Bool.true_eq_false, Bool.false_eq_true, Bool.not_true, Bool.not_false]

theorem call78 {j : Nat} (hj : j < l.length) (hL : l.length < 2 ^ 40) (lo : List Nat) (H : Heap) : callA cfg O 78 [Rw enc nl tg l, I j] lo H = some (.p (.sl (some false) false l.length (rB (fun n => dec (Bf (ED l) n j)) l.length)), H) := by
  obtain ⟨H', e⟩ := ent78 (nl := nl) (tg := tg) hj hL
  exact callA_pure (xs := [.sl nl tg l.length (l.flatMap enc), Ia j]) (rs := [.p (.sl (some false) false l.length (rB (fun n => dec (Bf (ED l) n j)) l.length))]) rfl e rfl

def GoodC (l : List E) (n : Int) (ds : List Dd) : Prop := ds = [] ∨ ∃ th : Nat, n = th ∧ th ≤ 8 ∧ l.length ≤ 200 ∧ (∀ i, i < l.length → 0 ≤ Th l i ∧ Th l i < th) ∧ ints ds = (List.range l.length).map fun j => (List.range th).map fun t => (VC l j t : Int)

theorem loop34 {n3 : Option Bool} {t3 : Bool} {ds : List Dd} (hg : GoodC l n ds) (w v : Int) (bb aa : Bool) : ∀ (c k : Nat) (H : Heap), ds.length - k = c → k ≤ ds.length →
    L13_34 [Rw enc nl tg l, I n, W n3 t3 ds, I w, B bb, I v, B aa, I v, I w, I v, B bb, B aa, I k] [] H = some ([B true], []) := by
  intro c
  induction c with
  | zero =>
    intro k H hc hk
    have : k = ds.length := by omega
    subst this
    rw [L13_34_eq]
    simp only [Int.lt_irrefl, beq_self_eq_true, obs, oms, bin_add, bin_sub, bin_lss, bin_leq, bin_gtr, bin_geq, bin_eql, bin_neq, bin_eqlB, bin_neqB, un_not, cond_B, gd_B, gd_undef, gdH_B, gdH_undef, pickA_B, extractA_tup, lenA_sl, lenA_row, fldA_fp, fldA_ptr, fldA_rptr, List.getElem?_cons_zero, List.getElem?_cons_succ, decide_true, decide_false, if_true, if_false, Bool.true_eq_false, Bool.false_eq_true, Bool.not_true, Bool.not_false]
    rfl
  | succ c ih =>
    intro k H hc hk
    have hk' : k < ds.length := by omega
    rcases hg with rfl | ⟨th, rfl, h1, h2, h3, hds⟩
    · simp at hk'
    have hdl : ds.length = l.length := by
      have := congrArg List.length hds
      simpa [ints] using this
    have hlt : (k : Int) < ds.length := by omega
    have hkl : k < l.length := by omega
    have hz : zerosA th [(.v (.int .i64 0))] = (owC l k th 0).map Ia := by
      rw [zeros_one]
      refine List.ext_getElem (by simp [owC]) fun m a b => by simp [owC, cn]
    have hmk : mkRow 1 8 [(.v (.int .i64 0))] (I th) (I th) H = some (.row H.length 0 0 th, H ++ [.row 0 1 ((owC l k th 0).map Ia)]) := by
      simp only [mkRow, asI, obs]
      rw [if_pos ⟨by omega, by omega, by simp only [room]; omega⟩, Int.toNat_natCast, hz]
    obtain ⟨H', e, hH'⟩ := loop44 (nl := nl) (tg := tg) (k := k) h2 h3 (W n3 t3 ds) (I w) (B bb) (I v) (B aa) (I v) (I w) (I v) (B bb) (B aa) l.length 0 (H ++ [.row 0 1 ((owC l k th 0).map Ia)]) rfl (by omega) (atE H _)
    have hlen : (owC l k th l.length).length = th := by simp [owC]
    obtain ⟨d1, v1⟩ := dsAt hds hkl
    have hv : ds[k].2.2 = owC l k th l.length := by rw [v1]; rfl
    have c23 := call23 (n1 := ds[k].1) (t1 := ds[k].2.1) hH' (by rw [hlen]; omega) []
    rw [← hv] at c23
    have hlen' : ds[k].2.2.length = th := by rw [hv, hlen]
    rw [hlen'] at c23
    have w2 : IntKind.i64.wrap ((k : Int) + 1) = ((k + 1 : Nat) : Int) := by rw [wrap_id (by omega), nxt]
    have fin := ih (k + 1) H' (by omega) (by omega)
    rw [L13_34_eq]
    simp only [hlt, call78 hkl (show l.length < 2 ^ 40 by omega), hmk, obs, oms, bin_add, bin_sub, bin_lss, bin_leq, bin_gtr, bin_geq, bin_eql, bin_neq, bin_eqlB, bin_neqB, un_not, cond_B, gd_B, gd_undef, gdH_B, gdH_undef, pickA_B, extractA_tup, lenA_sl, lenA_row, fldA_fp, fldA_ptr, fldA_rptr, List.getElem?_cons_zero, List.getElem?_cons_succ, decide_true, decide_false, if_true, if_false, Bool.true_eq_false, Bool.false_eq_true, Bool.not_true, Bool.not_false]
    rw [show (0 : Int) = ((0 : Nat) : Int) from rfl, e, L13_44_eq]
    simp only [Int.lt_irrefl, idxW d1, ldW d1, c23, w2, obs, oms, bin_add, bin_sub, bin_lss, bin_leq, bin_gtr, bin_geq, bin_eql, bin_neq, bin_eqlB, bin_neqB, un_not, cond_B, gd_B, gd_undef, gdH_B, gdH_undef, pickA_B, extractA_tup, lenA_sl, lenA_row, fldA_fp, fldA_ptr, fldA_rptr, List.getElem?_cons_zero, List.getElem?_cons_succ, decide_true, decide_false, if_true, if_false, Bool.true_eq_false, Bool.false_eq_true, Bool.not_true, Bool.not_false]
    exact fin

theorem law29 {n3 : Option Bool} {t3 : Bool} {ds : List Dd} (hg : GoodC l n ds) {w v : Int} {bb aa : Bool} (hw : w ≠ 0 → ds = []) (hw0 : w = 0 → ds.length = l.length) (H : Heap) :
    L13_29 [Rw enc nl tg l, I n, W n3 t3 ds, I w, B bb, I v, B aa, I v, I w, I v, B bb, B aa] [] H = some ([B true], []) := by
  have fin := loop34 (nl := nl) (tg := tg) (n3 := n3) (t3 := t3) hg w v bb aa ds.length 0 H rfl (by omega)
  rw [L13_29_eq]
  by_cases h : w = 0
  · have h2 : (ds.length : Int) = l.length := by have := hw0 h; omega
    simp only [h, h2, obs, oms, bin_add, bin_sub, bin_lss, bin_leq, bin_gtr, bin_geq, bin_eql, bin_neq, bin_eqlB, bin_neqB, un_not, cond_B, gd_B, gd_undef, gdH_B, gdH_undef, pickA_B, extractA_tup, lenA_sl, lenA_row, fldA_fp, fldA_ptr, fldA_rptr, List.getElem?_cons_zero, List.getElem?_cons_succ, decide_true, decide_false, if_true, if_false, Bool.true_eq_false, Bool.false_eq_true, Bool.not_true, Bool.not_false]
    rw [h] at fin
    exact fin
  · have hd := hw h
    subst hd
    have zz : ((0 : Nat) : Int) = 0 := rfl
    simp only [h, List.length_nil, zz, Int.lt_irrefl, obs, oms, bin_add, bin_sub, bin_lss, bin_leq, bin_gtr, bin_geq, bin_eql, bin_neq, bin_eqlB, bin_neqB, un_not, cond_B, gd_B, gd_undef, gdH_B, gdH_undef, pickA_B, extractA_tup, lenA_sl, lenA_row, fldA_fp, fldA_ptr, fldA_rptr, List.getElem?_cons_zero, List.getElem?_cons_succ, decide_true, decide_false, if_true, if_false, Bool.true_eq_false, Bool.false_eq_true, Bool.not_true, Bool.not_false]
    exact fin

theorem law21 {n3 : Option Bool} {t3 : Bool} {ds : List Dd} (hg : GoodC l n ds) (hw : code l n ≠ 0 → ds = []) (hw0 : code l n = 0 → ds.length = l.length) (i j : Int) (H : Heap) :
    L13_21 [Rw enc nl tg l, I n, I i, I j, W n3 t3 ds, I (code l n), B (bfO l (code l n) i j), I (pcode l (code l n) i j), B (apO l (code l n) i j), I (pcode l (code l n) i j), I (code l n), I (pcode l (code l n) i j)] [] H = some ([B true], []) := by
  have fin := law29 (nl := nl) (tg := tg) (n3 := n3) (t3 := t3) (v := pcode l (code l n) i j) (bb := bfO l (code l n) i j) (aa := apO l (code l n) i j) hg hw hw0
  rw [L13_21_eq]
  by_cases h : pcode l (code l n) i j = 0
  · obtain ⟨h0, a, b, rfl, rfl, ha, hb⟩ := pcode0 h
    obtain ⟨th, rfl, h1, h2, h3⟩ := code0 h0
    have hL : l.length < 2 ^ 40 := by omega
    have e3 : apO l (code l th) a b = (!decide ((a : Int) = b) && !dec (Bf (ED l) a b) && !dec (Bf (ED l) b a)) := by
      unfold apO
      rw [Bool.eq_iff_iff, dec_iff]
      simp only [Bool.and_eq_true, Bool.not_eq_true', decide_eq_false_iff_not, Int.toNat_natCast]
      have hf : ∀ p : Prop, dec p = false ↔ ¬ p := fun p => ⟨fun h h2 => (by rw [dec_iff.mpr h2] at h; cases h), dec_f⟩
      rw [hf, hf, and_assoc]
      exact ⟨fun h => h.2, fun h2 => ⟨h, h2⟩⟩
    have e4 : bfO l (code l th) a b = dec (Bf (ED l) a b) := dec_congr ⟨fun h => h.2, fun h2 => ⟨h, h2⟩⟩
    rw [e3, e4, h] at fin ⊢
    have c1 := call78 (nl := nl) (tg := tg) hb hL []
    have c2 := call78 (nl := nl) (tg := tg) ha hL []
    simp only [c1, idxB ha, ldB ha, obs]
    by_cases g1 : (a : Int) = b
    · have g1' : a = b := by omega
      subst g1'
      simp only [decide_true, Bool.not_true, Bool.false_and] at fin
      simp only [Bool.false_and, obs, oms, bin_add, bin_sub, bin_lss, bin_leq, bin_gtr, bin_geq, bin_eql, bin_neq, bin_eqlB, bin_neqB, un_not, cond_B, gd_B, gd_undef, gdH_B, gdH_undef, pickA_B, extractA_tup, lenA_sl, lenA_row, fldA_fp, fldA_ptr, fldA_rptr, List.getElem?_cons_zero, List.getElem?_cons_succ, decide_true, decide_false, if_true, if_false, Bool.true_eq_false, Bool.false_eq_true, Bool.not_true, Bool.not_false]
      exact fin H
    · simp only [g1, decide_false, Bool.not_false, Bool.true_and] at fin
      cases g2 : dec (Bf (ED l) a b) with
      | true =>
        rw [g2] at fin
        simp only [Bool.not_true, Bool.false_and] at fin
        simp only [g1, Bool.false_and, Bool.and_false, obs, oms, bin_add, bin_sub, bin_lss, bin_leq, bin_gtr, bin_geq, bin_eql, bin_neq, bin_eqlB, bin_neqB, un_not, cond_B, gd_B, gd_undef, gdH_B, gdH_undef, pickA_B, extractA_tup, lenA_sl, lenA_row, fldA_fp, fldA_ptr, fldA_rptr, List.getElem?_cons_zero, List.getElem?_cons_succ, decide_true, decide_false, if_true, if_false, Bool.true_eq_false, Bool.false_eq_true, Bool.not_true, Bool.not_false]
        exact fin H
      | false =>
        rw [g2] at fin
        simp only [Bool.not_false, Bool.true_and] at fin
        simp only [g1, c2, idxB hb, ldB hb, Bool.true_and, obs, oms, bin_add, bin_sub, bin_lss, bin_leq, bin_gtr, bin_geq, bin_eql, bin_neq, bin_eqlB, bin_neqB, un_not, cond_B, gd_B, gd_undef, gdH_B, gdH_undef, pickA_B, extractA_tup, lenA_sl, lenA_row, fldA_fp, fldA_ptr, fldA_rptr, List.getElem?_cons_zero, List.getElem?_cons_succ, decide_true, decide_false, if_true, if_false, Bool.true_eq_false, Bool.false_eq_true, Bool.not_true, Bool.not_false]
        exact fin H
  · have e3 : apO l (code l n) i j = false := dec_f fun h2 => h h2.1
    have e4 : bfO l (code l n) i j = false := dec_f fun h2 => h h2.1
    rw [e3, e4] at fin ⊢
    simp only [h, obs, oms, bin_add, bin_sub, bin_lss, bin_leq, bin_gtr, bin_geq, bin_eql, bin_neq, bin_eqlB, bin_neqB, un_not, cond_B, gd_B, gd_undef, gdH_B, gdH_undef, pickA_B, extractA_tup, lenA_sl, lenA_row, fldA_fp, fldA_ptr, fldA_rptr, List.getElem?_cons_zero, List.getElem?_cons_succ, decide_true, decide_false, if_true, if_false, Bool.true_eq_false, Bool.false_eq_true, Bool.not_true, Bool.not_false]
    exact fin H

theorem lawT (i j : Int) : O.ent 13 [Rw enc nl tg l, I n, I i, I j] [] [] = some ([B true], []) := by
  obtain ⟨t', e64⟩ := call64 (l := l) (nl := nl) (tg := tg) 40 (by omega) [] []
  have e64' : callA cfg O 64 [Rw enc nl tg l, I 40] [] [] = _ := e64
  generalize hl2 : l.take 40 = m at *
  obtain ⟨n3, t3, ds, e75, r1, r2⟩ := call75 (l := m) (nl := nl) (tg := t') (n := n) [] []
  have c76 := call76 (l := m) (nl := nl) (tg := t') (n := n) i j [] []
  have c77 := call77 (l := m) (nl := nl) (tg := t') (n := n) i j [] []
  have c73 : callA cfg O 73 [Rw enc nl t' m, I n] [] [] = some (I (code m n), []) := callA_pure (xs := [.sl nl t' m.length (m.flatMap enc), Ia n]) (rs := [I (code m n)]) rfl ent73 rfl
  have hg : GoodC m n ds := by
    by_cases h : code m n = 0
    · obtain ⟨th, rfl, h1, h2, h3⟩ := code0 h
      exact .inr ⟨th, rfl, h1, h2, h3, r2 th rfl h⟩
    · exact .inl (r1 h)
  have hw0 : code m n = 0 → ds.length = m.length := by
    intro h
    obtain ⟨th, rfl, h1, h2, h3⟩ := code0 h
    have := congrArg List.length (r2 th rfl h)
    simpa [ints] using this
  have fin := law21 (nl := nl) (tg := t') (n3 := n3) (t3 := t3) hg r1 hw0 i j []
  rw [f13_eq]
  simp only [e64', e75, c76, c77, c73, ex0, ex1, lenA_sl, obs]
  by_cases h : code m n = 0 ∧ (i < 0 ∨ (m.length : Int) ≤ i ∨ j < 0 ∨ (m.length : Int) ≤ j)
  · have hp : pcode m (code m n) i j = 1 := if_pos h
    rw [hp] at fin ⊢
    obtain ⟨h1, h⟩ := h
    by_cases h2 : i < 0
    · simp only [h1, h2, obs, oms, bin_add, bin_sub, bin_lss, bin_leq, bin_gtr, bin_geq, bin_eql, bin_neq, bin_eqlB, bin_neqB, un_not, cond_B, gd_B, gd_undef, gdH_B, gdH_undef, pickA_B, extractA_tup, lenA_sl, lenA_row, fldA_fp, fldA_ptr, fldA_rptr, List.getElem?_cons_zero, List.getElem?_cons_succ, decide_true, decide_false, if_true, if_false, Bool.true_eq_false, Bool.false_eq_true, Bool.not_true, Bool.not_false]
      rw [h1] at fin; exact fin
    · by_cases h3 : (m.length : Int) ≤ i
      · simp only [h1, h2, h3, obs, oms, bin_add, bin_sub, bin_lss, bin_leq, bin_gtr, bin_geq, bin_eql, bin_neq, bin_eqlB, bin_neqB, un_not, cond_B, gd_B, gd_undef, gdH_B, gdH_undef, pickA_B, extractA_tup, lenA_sl, lenA_row, fldA_fp, fldA_ptr, fldA_rptr, List.getElem?_cons_zero, List.getElem?_cons_succ, decide_true, decide_false, if_true, if_false, Bool.true_eq_false, Bool.false_eq_true, Bool.not_true, Bool.not_false]
        rw [h1] at fin; exact fin
      · by_cases h4 : j < 0
        · simp only [h1, h2, h3, h4, obs, oms, bin_add, bin_sub, bin_lss, bin_leq, bin_gtr, bin_geq, bin_eql, bin_neq, bin_eqlB, bin_neqB, un_not, cond_B, gd_B, gd_undef, gdH_B, gdH_undef, pickA_B, extractA_tup, lenA_sl, lenA_row, fldA_fp, fldA_ptr, fldA_rptr, List.getElem?_cons_zero, List.getElem?_cons_succ, decide_true, decide_false, if_true, if_false, Bool.true_eq_false, Bool.false_eq_true, Bool.not_true, Bool.not_false]
          rw [h1] at fin; exact fin
        · have h5 : (m.length : Int) ≤ j := by omega
          simp only [h1, h2, h3, h4, h5, obs, oms, bin_add, bin_sub, bin_lss, bin_leq, bin_gtr, bin_geq, bin_eql, bin_neq, bin_eqlB, bin_neqB, un_not, cond_B, gd_B, gd_undef, gdH_B, gdH_undef, pickA_B, extractA_tup, lenA_sl, lenA_row, fldA_fp, fldA_ptr, fldA_rptr, List.getElem?_cons_zero, List.getElem?_cons_succ, decide_true, decide_false, if_true, if_false, Bool.true_eq_false, Bool.false_eq_true, Bool.not_true, Bool.not_false]
          rw [h1] at fin; exact fin
  · have hp : pcode m (code m n) i j = code m n := if_neg h
    rw [hp] at fin ⊢
    by_cases h1 : code m n = 0
    · have h2 : ¬ i < 0 := by omega
      have h3 : ¬ (m.length : Int) ≤ i := by omega
      have h4 : ¬ j < 0 := by omega
      have h5 : ¬ (m.length : Int) ≤ j := by omega
      simp only [h1, h2, h3, h4, h5, obs, oms, bin_add, bin_sub, bin_lss, bin_leq, bin_gtr, bin_geq, bin_eql, bin_neq, bin_eqlB, bin_neqB, un_not, cond_B, gd_B, gd_undef, gdH_B, gdH_undef, pickA_B, extractA_tup, lenA_sl, lenA_row, fldA_fp, fldA_ptr, fldA_rptr, List.getElem?_cons_zero, List.getElem?_cons_succ, decide_true, decide_false, if_true, if_false, Bool.true_eq_false, Bool.false_eq_true, Bool.not_true, Bool.not_false]
      rw [h1] at fin; exact fin
    · simp only [h1, obs, oms, bin_add, bin_sub, bin_lss, bin_leq, bin_gtr, bin_geq, bin_eql, bin_neq, bin_eqlB, bin_neqB, un_not, cond_B, gd_B, gd_undef, gdH_B, gdH_undef, pickA_B, extractA_tup, lenA_sl, lenA_row, fldA_fp, fldA_ptr, fldA_rptr, List.getElem?_cons_zero, List.getElem?_cons_succ, decide_true, decide_false, if_true, if_false, Bool.true_eq_false, Bool.false_eq_true, Bool.not_true, Bool.not_false]
      exact fin
end
end Cl
end Go.Proofs.Ytkhbbjfdbbnojaa
