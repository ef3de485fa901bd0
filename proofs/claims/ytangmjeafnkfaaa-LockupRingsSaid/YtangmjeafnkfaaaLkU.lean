import Derived.Test.YtangmjeafnkfaaaLkT
set_option linter.unusedVariables false
set_option linter.unusedSimpArgs false
namespace Go.Proofs.Ytangmjeafnkfaaa
open Go Go.AM
namespace Lk
section
variable {nl : Option Bool} {tg : Bool} {l : List Dw}

theorem btw7 (x : Int) : (decide (0 ≤ x) && decide (x ≤ 7)) = inB x := by
  unfold inB
  congr 1
  exact decide_eq_decide.mpr (by omega)

theorem loop40b (hl : l.length ≤ 8) {i : Nat} (hi : i < l.length) : ∀ (c k : Nat) (H : Heap), i - k = c → k ≤ i → L40_20 [L nl tg l, I i, I k] [] H = if ((l.take i).drop k).any (fun x => decide (x.1 = l[i].1)) = true then some ([I 6], []) else L40_10 [L nl tg l, I (i + 1 : Nat)] [] H := by
  intro c
  induction c with
  | zero =>
    intro k H hc hk
    have : k = i := by omega
    subst this
    rw [L40_20_eq, List.drop_eq_nil_of_le (by rw [List.length_take]; omega)]
    simp only [bin_lss, Int.lt_irrefl, bin_add, obs, oms, bin_add, bin_sub, bin_lss, bin_leq, bin_gtr, bin_geq, bin_eql, bin_neq, bin_eqlB, bin_neqB, un_not, cond_B, gd_B, gd_undef, gdH_B, gdH_undef, pickA_B, extractA_tup, lenA_sl, lenA_row, fldA_fp, fldA_ptr, fldA_rptr, List.getElem?_cons_zero, List.getElem?_cons_succ, decide_true, decide_false, if_true, if_false, Bool.true_eq_false, Bool.false_eq_true, Bool.not_true, Bool.not_false]
    rw [wrap_id (by omega), nxt]
    rfl
  | succ c ih =>
    intro k H hc hk
    have hk' : k < i := by omega
    have hkl : k < l.length := by omega
    have hlt : (k : Int) < i := by omega
    have hd : (l.take i).drop k = l[k] :: (l.take i).drop (k + 1) := by
      rw [List.drop_eq_getElem_cons (by simp; omega)]
      simp
    rw [L40_20_eq, hd, List.any_cons]
    simp only [bin_lss, hlt, idxD hkl, idxD hi, fldA_fp, f0 hkl, f0 hi, bin_eql, bin_add, obs, oms, bin_add, bin_sub, bin_lss, bin_leq, bin_gtr, bin_geq, bin_eql, bin_neq, bin_eqlB, bin_neqB, un_not, cond_B, gd_B, gd_undef, gdH_B, gdH_undef, pickA_B, extractA_tup, lenA_sl, lenA_row, fldA_fp, fldA_ptr, fldA_rptr, List.getElem?_cons_zero, List.getElem?_cons_succ, decide_true, decide_false, if_true, if_false, Bool.true_eq_false, Bool.false_eq_true, Bool.not_true, Bool.not_false]
    rw [wrap_id (by omega), nxt, ih (k + 1) H (by omega) (by omega)]
    by_cases e : l[k].1 = l[i].1
    · simp only [e, obs, oms, bin_add, bin_sub, bin_lss, bin_leq, bin_gtr, bin_geq, bin_eql, bin_neq, bin_eqlB, bin_neqB, un_not, cond_B, gd_B, gd_undef, gdH_B, gdH_undef, pickA_B, extractA_tup, lenA_sl, lenA_row, fldA_fp, fldA_ptr, fldA_rptr, List.getElem?_cons_zero, List.getElem?_cons_succ, decide_true, decide_false, if_true, if_false, Bool.true_eq_false, Bool.false_eq_true, Bool.not_true, Bool.not_false, Bool.true_or]
      rfl
    · simp only [e, obs, oms, bin_add, bin_sub, bin_lss, bin_leq, bin_gtr, bin_geq, bin_eql, bin_neq, bin_eqlB, bin_neqB, un_not, cond_B, gd_B, gd_undef, gdH_B, gdH_undef, pickA_B, extractA_tup, lenA_sl, lenA_row, fldA_fp, fldA_ptr, fldA_rptr, List.getElem?_cons_zero, List.getElem?_cons_succ, decide_true, decide_false, if_true, if_false, Bool.true_eq_false, Bool.false_eq_true, Bool.not_true, Bool.not_false, Bool.false_or]

theorem loop40 (hl : l.length ≤ 8) : ∀ (c i : Nat) (H : Heap), l.length - i = c → i ≤ l.length → L40_10 [L nl tg l, I i] [] H = some ([I (errF (l.take i) (l.drop i))], []) := by
  intro c
  induction c with
  | zero =>
    intro i H hc hi
    have : i = l.length := by omega
    subst this
    rw [L40_10_eq, List.drop_length]
    simp only [lenA_sl, bin_lss, Int.lt_irrefl, obs, oms, bin_add, bin_sub, bin_lss, bin_leq, bin_gtr, bin_geq, bin_eql, bin_neq, bin_eqlB, bin_neqB, un_not, cond_B, gd_B, gd_undef, gdH_B, gdH_undef, pickA_B, extractA_tup, lenA_sl, lenA_row, fldA_fp, fldA_ptr, fldA_rptr, List.getElem?_cons_zero, List.getElem?_cons_succ, decide_true, decide_false, if_true, if_false, Bool.true_eq_false, Bool.false_eq_true, Bool.not_true, Bool.not_false]
    rfl
  | succ c ih =>
    intro i H hc hi
    have hi' : i < l.length := by omega
    have hlt : (i : Int) < l.length := by omega
    have hb := loop40b (nl := nl) (tg := tg) hl hi' _ 0 H rfl (by omega)
    rw [List.drop_zero, ih (i + 1) H (by omega) (by omega)] at hb
    rw [L40_10_eq, List.drop_eq_getElem_cons hi', errF, List.take_append_getElem hi']
    unfold bad
    simp only [lenA_sl, bin_lss, hlt, idxD hi', fldA_fp, f0 hi', between_eq, btw7, un_not, obs, oms, bin_add, bin_sub, bin_lss, bin_leq, bin_gtr, bin_geq, bin_eql, bin_neq, bin_eqlB, bin_neqB, un_not, cond_B, gd_B, gd_undef, gdH_B, gdH_undef, pickA_B, extractA_tup, lenA_sl, lenA_row, fldA_fp, fldA_ptr, fldA_rptr, List.getElem?_cons_zero, List.getElem?_cons_succ, decide_true, decide_false, if_true, if_false, Bool.true_eq_false, Bool.false_eq_true, Bool.not_true, Bool.not_false]
    cases g1 : inB l[i].1 with
    | false => simp only [obs, oms, bin_add, bin_sub, bin_lss, bin_leq, bin_gtr, bin_geq, bin_eql, bin_neq, bin_eqlB, bin_neqB, un_not, cond_B, gd_B, gd_undef, gdH_B, gdH_undef, pickA_B, extractA_tup, lenA_sl, lenA_row, fldA_fp, fldA_ptr, fldA_rptr, List.getElem?_cons_zero, List.getElem?_cons_succ, decide_true, decide_false, if_true, if_false, Bool.true_eq_false, Bool.false_eq_true, Bool.not_true, Bool.not_false, Bool.true_or]; rfl
    | true =>
      simp only [idxD hi', fldA_fp, f1 hi', between_eq, btw7, un_not, obs, oms, bin_add, bin_sub, bin_lss, bin_leq, bin_gtr, bin_geq, bin_eql, bin_neq, bin_eqlB, bin_neqB, un_not, cond_B, gd_B, gd_undef, gdH_B, gdH_undef, pickA_B, extractA_tup, lenA_sl, lenA_row, fldA_fp, fldA_ptr, fldA_rptr, List.getElem?_cons_zero, List.getElem?_cons_succ, decide_true, decide_false, if_true, if_false, Bool.true_eq_false, Bool.false_eq_true, Bool.not_true, Bool.not_false, Bool.false_or]
      cases g2 : inB l[i].2.1 with
      | false => simp only [obs, oms, bin_add, bin_sub, bin_lss, bin_leq, bin_gtr, bin_geq, bin_eql, bin_neq, bin_eqlB, bin_neqB, un_not, cond_B, gd_B, gd_undef, gdH_B, gdH_undef, pickA_B, extractA_tup, lenA_sl, lenA_row, fldA_fp, fldA_ptr, fldA_rptr, List.getElem?_cons_zero, List.getElem?_cons_succ, decide_true, decide_false, if_true, if_false, Bool.true_eq_false, Bool.false_eq_true, Bool.not_true, Bool.not_false]; rfl
      | true =>
        simp only [obs, oms, bin_add, bin_sub, bin_lss, bin_leq, bin_gtr, bin_geq, bin_eql, bin_neq, bin_eqlB, bin_neqB, un_not, cond_B, gd_B, gd_undef, gdH_B, gdH_undef, pickA_B, extractA_tup, lenA_sl, lenA_row, fldA_fp, fldA_ptr, fldA_rptr, List.getElem?_cons_zero, List.getElem?_cons_succ, decide_true, decide_false, if_true, if_false, Bool.true_eq_false, Bool.false_eq_true, Bool.not_true, Bool.not_false]
        rw [show (I 0) = I (0 : Nat) from rfl, hb]
        split <;> rfl

theorem call40 (lo : List Nat) (H : Heap) : callA cfg O 40 [L nl tg l] lo H = some (I (errR l), H) := by
  refine callA_args (H' := []) (rs := [I (errR l)]) rfl rfl ?_ rfl
  rw [f40_eq]
  unfold errR
  by_cases hl : 8 < l.length
  · rw [if_pos hl]
    simp only [lenA_sl, bin_gtr, obs, cond_B]
    rw [if_pos (by simp <;> omega)]
    rfl
  · rw [if_neg hl]
    simp only [lenA_sl, bin_gtr, obs, cond_B]
    rw [if_neg (by simp <;> omega)]
    have := loop40 (nl := nl) (tg := tg) (l := l) (by omega) _ 0 [] rfl (by omega)
    simpa using this

def nv : Option Int → Int
  | none => -1
  | some v => v

theorem call95 (hl : l.length ≤ 8) (n : Int) (lo : List Nat) (H : Heap) : callA cfg O 95 [L nl tg l, I n] lo H = some (I (nv (nf l n)), H) := by
  have go : ∀ (c i : Nat) (H : Heap), l.length - i = c → i ≤ l.length → L95_6 [L nl tg l, I n, I i] [] H = some ([I (nv (nf (l.drop i) n))], []) := by
    intro c
    induction c with
    | zero =>
      intro i H hc hi
      have : i = l.length := by omega
      subst this
      rw [L95_6_eq, List.drop_length]
      simp only [lenA_sl, bin_lss, Int.lt_irrefl, obs, oms, bin_add, bin_sub, bin_lss, bin_leq, bin_gtr, bin_geq, bin_eql, bin_neq, bin_eqlB, bin_neqB, un_not, cond_B, gd_B, gd_undef, gdH_B, gdH_undef, pickA_B, extractA_tup, lenA_sl, lenA_row, fldA_fp, fldA_ptr, fldA_rptr, List.getElem?_cons_zero, List.getElem?_cons_succ, decide_true, decide_false, if_true, if_false, Bool.true_eq_false, Bool.false_eq_true, Bool.not_true, Bool.not_false]
      rfl
    | succ c ih =>
      intro i H hc hi
      have hi' : i < l.length := by omega
      have hlt : (i : Int) < l.length := by omega
      rw [L95_6_eq, List.drop_eq_getElem_cons hi']
      unfold nf
      simp only [lenA_sl, bin_lss, hlt, idxD hi', fldA_fp, f0 hi', f1 hi', bin_eql, bin_add, obs, oms, bin_add, bin_sub, bin_lss, bin_leq, bin_gtr, bin_geq, bin_eql, bin_neq, bin_eqlB, bin_neqB, un_not, cond_B, gd_B, gd_undef, gdH_B, gdH_undef, pickA_B, extractA_tup, lenA_sl, lenA_row, fldA_fp, fldA_ptr, fldA_rptr, List.getElem?_cons_zero, List.getElem?_cons_succ, decide_true, decide_false, if_true, if_false, Bool.true_eq_false, Bool.false_eq_true, Bool.not_true, Bool.not_false]
      rw [wrap_id (by omega), nxt, ih (i + 1) H (by omega) (by omega)]
      by_cases e : l[i].1 = n
      · simp only [e, List.find?_cons, obs, oms, bin_add, bin_sub, bin_lss, bin_leq, bin_gtr, bin_geq, bin_eql, bin_neq, bin_eqlB, bin_neqB, un_not, cond_B, gd_B, gd_undef, gdH_B, gdH_undef, pickA_B, extractA_tup, lenA_sl, lenA_row, fldA_fp, fldA_ptr, fldA_rptr, List.getElem?_cons_zero, List.getElem?_cons_succ, decide_true, decide_false, if_true, if_false, Bool.true_eq_false, Bool.false_eq_true, Bool.not_true, Bool.not_false]
        rfl
      · simp only [e, List.find?_cons, obs, oms, bin_add, bin_sub, bin_lss, bin_leq, bin_gtr, bin_geq, bin_eql, bin_neq, bin_eqlB, bin_neqB, un_not, cond_B, gd_B, gd_undef, gdH_B, gdH_undef, pickA_B, extractA_tup, lenA_sl, lenA_row, fldA_fp, fldA_ptr, fldA_rptr, List.getElem?_cons_zero, List.getElem?_cons_succ, decide_true, decide_false, if_true, if_false, Bool.true_eq_false, Bool.false_eq_true, Bool.not_true, Bool.not_false]
        rfl
  refine callA_args (H' := []) (rs := [I _]) rfl rfl ?_ rfl
  rw [f95_eq]
  have := go _ 0 [] rfl (by omega)
  simpa using this

theorem way41 (hl : l.length ≤ 8) (hf8 : ∀ n v, nf l n = some v → 0 ≤ v ∧ v < 8) {t : Nat} (ht : t < 8) : ∀ (c k : Nat) (o : AV) (H : Heap), 9 - k = c → k ≤ 9 →
    (∀ i, 1 ≤ i → i ≤ k → P (nf l) t i ≠ some (t : Int)) → Cx H [] [(o, 1, (pl (nf l) t k).length, (pl (nf l) t k).map Ia)] →
    (∃ m, Ret (nf l) t m ∧ ∃ n t2, L41_16 [L nl tg l, I t, o, I (nv (P (nf l) t k)), I k] [] H = some ([V n t2 (pl (nf l) t m)], [])) ∨
    ((∀ m, ¬ Ret (nf l) t m) ∧ ∃ H', L41_16 [L nl tg l, I t, o, I (nv (P (nf l) t k)), I k] [] H = L41_6 [L nl tg l, I (t + 1 : Nat)] [] H') := by
  have ht8 : (0 : Int) ≤ (t : Int) ∧ (t : Int) < 8 := by omega
  intro c
  induction c with
  | zero =>
    intro k o H hc hk hne h
    have : k = 9 := by omega
    subst this
    refine .inr ⟨fun m hm => hne m hm.1 (by have := ret_le hf8 ht8 hm; omega) hm.2.1, H, ?_⟩
    rw [L41_16_eq]
    have z : ¬ (((9 : Nat) : Int) < 9) := by omega
    simp only [bin_lss, z, bin_add, obs, oms, bin_add, bin_sub, bin_lss, bin_leq, bin_gtr, bin_geq, bin_eql, bin_neq, bin_eqlB, bin_neqB, un_not, cond_B, gd_B, gd_undef, gdH_B, gdH_undef, pickA_B, extractA_tup, lenA_sl, lenA_row, fldA_fp, fldA_ptr, fldA_rptr, List.getElem?_cons_zero, List.getElem?_cons_succ, decide_true, decide_false, if_true, if_false, Bool.true_eq_false, Bool.false_eq_true, Bool.not_true, Bool.not_false]
    rw [wrap_id (by omega), nxt]
  | succ c ih =>
    intro k o H hc hk hne h
    have hlt : (k : Int) < 9 := by omega
    rw [L41_16_eq]
    simp only [bin_lss, hlt, bin_geq, bin_add, obs, oms, bin_add, bin_sub, bin_lss, bin_leq, bin_gtr, bin_geq, bin_eql, bin_neq, bin_eqlB, bin_neqB, un_not, cond_B, gd_B, gd_undef, gdH_B, gdH_undef, pickA_B, extractA_tup, lenA_sl, lenA_row, fldA_fp, fldA_ptr, fldA_rptr, List.getElem?_cons_zero, List.getElem?_cons_succ, decide_true, decide_false, if_true, if_false, Bool.true_eq_false, Bool.false_eq_true, Bool.not_true, Bool.not_false]
    cases hP : P (nf l) t k with
    | none =>
      refine .inr ⟨fun m hm => ?_, H, ?_⟩
      · rcases Nat.lt_or_ge k m with e | e
        · have := P_none hP m (by omega)
          rw [hm.2.1] at this
          cases this
        · exact hne m hm.1 e hm.2.1
      · have z : ¬ (0 : Int) ≤ nv none := by simp [nv]
        simp only [z, obs, oms, bin_add, bin_sub, bin_lss, bin_leq, bin_gtr, bin_geq, bin_eql, bin_neq, bin_eqlB, bin_neqB, un_not, cond_B, gd_B, gd_undef, gdH_B, gdH_undef, pickA_B, extractA_tup, lenA_sl, lenA_row, fldA_fp, fldA_ptr, fldA_rptr, List.getElem?_cons_zero, List.getElem?_cons_succ, decide_true, decide_false, if_true, if_false, Bool.true_eq_false, Bool.false_eq_true, Bool.not_true, Bool.not_false]
        rw [wrap_id (by omega), nxt]
    | some x =>
      have hx := P_range hf8 ht8 k x hP
      have z : (0 : Int) ≤ nv (some x) := hx.1
      obtain ⟨o', H1, q1, q2, _⟩ := Cx.app (bytes := 8) (y := .p (.sl (some false) true 1 [Ia x])) [] h (cells1 _ _) rfl (by omega) (by rw [pl_len]; simp only [room]; omega)
      have hP1 : P (nf l) t (k + 1) = nf l x := by show (P (nf l) t k).bind (nf l) = _; rw [hP]; rfl
      have hpl : pl (nf l) t (k + 1) = pl (nf l) t k ++ [x] := by rw [pl_succ, hP]; rfl
      have hnv : nv (some x) = x := rfl
      simp only [z, hnv, lit1, q1, call95 (nl := nl) (tg := tg) hl, bin_eql, obs, oms, bin_add, bin_sub, bin_lss, bin_leq, bin_gtr, bin_geq, bin_eql, bin_neq, bin_eqlB, bin_neqB, un_not, cond_B, gd_B, gd_undef, gdH_B, gdH_undef, pickA_B, extractA_tup, lenA_sl, lenA_row, fldA_fp, fldA_ptr, fldA_rptr, List.getElem?_cons_zero, List.getElem?_cons_succ, decide_true, decide_false, if_true, if_false, Bool.true_eq_false, Bool.false_eq_true, Bool.not_true, Bool.not_false]
      rw [hnv] at z
      simp only [z, lit1, q1, call95 (nl := nl) (tg := tg) hl, bin_eql, obs, oms, bin_add, bin_sub, bin_lss, bin_leq, bin_gtr, bin_geq, bin_eql, bin_neq, bin_eqlB, bin_neqB, un_not, cond_B, gd_B, gd_undef, gdH_B, gdH_undef, pickA_B, extractA_tup, lenA_sl, lenA_row, fldA_fp, fldA_ptr, fldA_rptr, List.getElem?_cons_zero, List.getElem?_cons_succ, decide_true, decide_false, if_true, if_false, Bool.true_eq_false, Bool.false_eq_true, Bool.not_true, Bool.not_false]
      have c2 : Cx H1 [] [(o', 1, (pl (nf l) t (k + 1)).length, (pl (nf l) t (k + 1)).map Ia)] := by rw [hpl]; simpa using q2
      by_cases e : nv (nf l x) = t
      · left
        have hfx : nf l x = some (t : Int) := by
          cases hh : nf l x with
          | none => rw [hh] at e; have e : (-1 : Int) = t := e; omega
          | some v => rw [hh] at e; exact congrArg some e
        have hr : Ret (nf l) t (k + 1) := ⟨by omega, by rw [hP1, hfx], fun i h1 h2 => hne i h1 (by omega)⟩
        obtain ⟨n, t2, H', e2⟩ := c2.hd.leave1 []
        have e0 : H' = [] := leave0_heap e2
        rw [e0] at e2
        refine ⟨k + 1, hr, n, t2, ?_⟩
        simp only [e, obs, oms, bin_add, bin_sub, bin_lss, bin_leq, bin_gtr, bin_geq, bin_eql, bin_neq, bin_eqlB, bin_neqB, un_not, cond_B, gd_B, gd_undef, gdH_B, gdH_undef, pickA_B, extractA_tup, lenA_sl, lenA_row, fldA_fp, fldA_ptr, fldA_rptr, List.getElem?_cons_zero, List.getElem?_cons_succ, decide_true, decide_false, if_true, if_false, Bool.true_eq_false, Bool.false_eq_true, Bool.not_true, Bool.not_false]
        exact e2
      · simp only [e, obs, oms, bin_add, bin_sub, bin_lss, bin_leq, bin_gtr, bin_geq, bin_eql, bin_neq, bin_eqlB, bin_neqB, un_not, cond_B, gd_B, gd_undef, gdH_B, gdH_undef, pickA_B, extractA_tup, lenA_sl, lenA_row, fldA_fp, fldA_ptr, fldA_rptr, List.getElem?_cons_zero, List.getElem?_cons_succ, decide_true, decide_false, if_true, if_false, Bool.true_eq_false, Bool.false_eq_true, Bool.not_true, Bool.not_false]
        rw [wrap_id (by omega), nxt]
        have := ih (k + 1) o' H1 (by omega) (by omega) (fun i h1 h2 => by
          rcases Nat.lt_or_ge k i with e3 | e3
          · have : i = k + 1 := by omega
            subst this
            rw [hP1]
            intro e4
            rw [e4] at e
            exact e rfl
          · exact hne i h1 e3) c2
        rw [hP1] at this
        exact this

theorem loop41 (hl : l.length ≤ 8) (hf8 : ∀ n v, nf l n = some v → 0 ≤ v ∧ v < 8) : ∀ (c t : Nat) (H : Heap), 8 - t = c → t ≤ 8 →
    (∃ zs n t2, ringFrom (nf l) c = some zs ∧ L41_6 [L nl tg l, I t] [] H = some ([V n t2 zs], [])) ∨ (ringFrom (nf l) c = none ∧ L41_6 [L nl tg l, I t] [] H = some ([.p nilS], [])) := by
  intro c
  induction c with
  | zero =>
    intro t H hc ht
    have : t = 8 := by omega
    subst this
    right
    refine ⟨rfl, ?_⟩
    rw [L41_6_eq]
    have z : ¬ (((8 : Nat) : Int) < 8) := by omega
    simp only [bin_lss, z, obs, oms, bin_add, bin_sub, bin_lss, bin_leq, bin_gtr, bin_geq, bin_eql, bin_neq, bin_eqlB, bin_neqB, un_not, cond_B, gd_B, gd_undef, gdH_B, gdH_undef, pickA_B, extractA_tup, lenA_sl, lenA_row, fldA_fp, fldA_ptr, fldA_rptr, List.getElem?_cons_zero, List.getElem?_cons_succ, decide_true, decide_false, if_true, if_false, Bool.true_eq_false, Bool.false_eq_true, Bool.not_true, Bool.not_false]
    rfl
  | succ c ih =>
    intro t H hc ht
    have hlt : (t : Int) < 8 := by omega
    have htc : 8 - (c + 1) = t := by omega
    have hgo : L41_6 [L nl tg l, I t] [] H = L41_16 [L nl tg l, I t, .p nilS, I (nv (P (nf l) t 0)), I (0 : Nat)] [] H := by
      rw [L41_6_eq]
      simp only [bin_lss, hlt, obs, oms, bin_add, bin_sub, bin_lss, bin_leq, bin_gtr, bin_geq, bin_eql, bin_neq, bin_eqlB, bin_neqB, un_not, cond_B, gd_B, gd_undef, gdH_B, gdH_undef, pickA_B, extractA_tup, lenA_sl, lenA_row, fldA_fp, fldA_ptr, fldA_rptr, List.getElem?_cons_zero, List.getElem?_cons_succ, decide_true, decide_false, if_true, if_false, Bool.true_eq_false, Bool.false_eq_true, Bool.not_true, Bool.not_false]
      rfl
    rw [hgo, ringFrom, htc]
    rcases way41 (nl := nl) (tg := tg) hl hf8 (t := t) (by omega) _ 0 (.p nilS) H rfl (by omega) (fun i h1 h2 => by omega) ((Cx.nil H).newNil 1) with ⟨m, hr, n, t2, e⟩ | ⟨hno, H', e⟩
    · left
      exact ⟨_, n, t2, by rw [ringAt_some hr]; rfl, e⟩
    · rw [ringAt_none hno, e]
      exact ih (t + 1) H' (by omega) (by omega)

theorem call41 (h0 : errR l = 0) (lo : List Nat) (H : Heap) : ∃ n t2, callA cfg O 41 [L nl tg l] lo H = some (V n t2 ((ring l).getD []), H) := by
  have hl : l.length ≤ 8 := by
    unfold errR at h0
    split at h0
    · cases h0
    · omega
  have hF : errF [] l = 0 := by
    unfold errR at h0
    rwa [if_neg (by omega)] at h0
  unfold ring
  rw [if_pos h0]
  rcases loop41 (nl := nl) (tg := tg) hl (fun n v hv => nf_range (errF_zero l [] hF) hv) 8 0 [] rfl (by omega) with ⟨zs, n, t2, q1, q2⟩ | ⟨q1, q2⟩
  · rw [q1]
    refine ⟨n, t2, callA_args (H' := []) (rs := [_]) rfl rfl ?_ rfl⟩
    rw [f41_eq]
    exact q2
  · rw [q1]
    refine ⟨some true, true, callA_args (H' := []) (rs := [_]) rfl rfl ?_ rfl⟩
    rw [f41_eq]
    exact q2
end

/-! ### The document's order -/
section
variable {nl : Option Bool} {tg : Bool} {p : List Dp}

theorem insApp {H : Heap} {a : AV} {zs : List Int} {l2 : List Ll} (n : Int) (hz : zs.length < 2 ^ 40) (h : Cx H [] ((a, 1, zs.length, zs.map Ia) :: l2)) (hc : zs.contains n = false) :
    ∃ a' H', appA 1 8 a (.p (.sl (some false) true 1 [Ia n])) H = some (a', H') ∧ Cx H' [] ((a', 1, (ins zs n).length, (ins zs n).map Ia) :: l2) := by
  obtain ⟨o', H1, q1, q2, _⟩ := Cx.app (bytes := 8) (y := .p (.sl (some false) true 1 [Ia n])) [] h (cells1 _ _) rfl (by omega) (by simp only [room]; omega)
  refine ⟨o', H1, q1, ?_⟩
  have : ins zs n = zs ++ [n] := by unfold ins; rw [hc]; rfl
  rw [this]
  simpa using q2

theorem lp8 (hl : p.length ≤ 200) : ∀ (c i : Nat) (a : AV) (H : Heap), p.length - i = c → i ≤ p.length → Cx H [] [(a, 1, (allOf (p.take i)).length, (allOf (p.take i)).map Ia)] →
    ∃ a' H', L42_8 [Lp nl tg p, a, .p nilS, I i] [] H = L42_20 [Lp nl tg p, a', .p nilS] [] H' ∧ Cx H' [] [(a', 1, (allOf p).length, (allOf p).map Ia)] := by
  intro c
  induction c with
  | zero =>
    intro i a H hc hi h
    have : i = p.length := by omega
    subst this
    rw [List.take_length] at h
    refine ⟨a, H, ?_, h⟩
    rw [L42_8_eq]
    simp only [lenA_sl, bin_lss, Int.lt_irrefl, obs, oms, bin_add, bin_sub, bin_lss, bin_leq, bin_gtr, bin_geq, bin_eql, bin_neq, bin_eqlB, bin_neqB, un_not, cond_B, gd_B, gd_undef, gdH_B, gdH_undef, pickA_B, extractA_tup, lenA_sl, lenA_row, fldA_fp, fldA_ptr, fldA_rptr, List.getElem?_cons_zero, List.getElem?_cons_succ, decide_true, decide_false, if_true, if_false, Bool.true_eq_false, Bool.false_eq_true, Bool.not_true, Bool.not_false]
  | succ c ih =>
    intro i a H hc hi h
    have hi' : i < p.length := by omega
    have hlt : (i : Int) < p.length := by omega
    have ht : p.take i ++ [p[i]] = p.take (i + 1) := List.take_append_getElem hi'
    have hal := allOf_len (p.take i)
    have hle : (p.take i).length ≤ 200 := by simp; omega
    have nx : ∀ a H, L42_11 [Lp nl tg p, a, .p nilS, I i] [] H = L42_8 [Lp nl tg p, a, .p nilS, I (i + 1 : Nat)] [] H := by
      intro a H
      rw [L42_11_eq]
      simp only [bin_add, obs]
      rw [wrap_id (by omega), nxt]
    have second : ∀ a H, Cx H [] [(a, 1, (ins (allOf (p.take i)) p[i].1).length, (ins (allOf (p.take i)) p[i].1).map Ia)] → ∃ a' H', L42_17 [Lp nl tg p, a, .p nilS, I i] [] H = L42_20 [Lp nl tg p, a', .p nilS] [] H' ∧ Cx H' [] [(a', 1, (allOf p).length, (allOf p).map Ia)] := by
      intro a H h
      have hil := ins_len (l := allOf (p.take i)) (n := p[i].1)
      rw [L42_17_eq]
      simp only [idxP hi', fldA_fp, p1 hi', call96 (zs := ins (allOf (p.take i)) p[i].1) (by omega) h.hd, un_not, obs, oms, bin_add, bin_sub, bin_lss, bin_leq, bin_gtr, bin_geq, bin_eql, bin_neq, bin_eqlB, bin_neqB, un_not, cond_B, gd_B, gd_undef, gdH_B, gdH_undef, pickA_B, extractA_tup, lenA_sl, lenA_row, fldA_fp, fldA_ptr, fldA_rptr, List.getElem?_cons_zero, List.getElem?_cons_succ, decide_true, decide_false, if_true, if_false, Bool.true_eq_false, Bool.false_eq_true, Bool.not_true, Bool.not_false]
      cases hc2 : (ins (allOf (p.take i)) p[i].1).contains p[i].2 with
      | true =>
        have : ins (ins (allOf (p.take i)) p[i].1) p[i].2 = ins (allOf (p.take i)) p[i].1 := if_pos hc2
        simp only [obs, oms, bin_add, bin_sub, bin_lss, bin_leq, bin_gtr, bin_geq, bin_eql, bin_neq, bin_eqlB, bin_neqB, un_not, cond_B, gd_B, gd_undef, gdH_B, gdH_undef, pickA_B, extractA_tup, lenA_sl, lenA_row, fldA_fp, fldA_ptr, fldA_rptr, List.getElem?_cons_zero, List.getElem?_cons_succ, decide_true, decide_false, if_true, if_false, Bool.true_eq_false, Bool.false_eq_true, Bool.not_true, Bool.not_false, nx]
        exact ih (i + 1) a H (by omega) (by omega) (by rw [← ht, allOf_snoc, this]; exact h)
      | false =>
        obtain ⟨a', H', q1, q2⟩ := insApp p[i].2 (by omega) h hc2
        simp only [lit1, q1, obs, oms, bin_add, bin_sub, bin_lss, bin_leq, bin_gtr, bin_geq, bin_eql, bin_neq, bin_eqlB, bin_neqB, un_not, cond_B, gd_B, gd_undef, gdH_B, gdH_undef, pickA_B, extractA_tup, lenA_sl, lenA_row, fldA_fp, fldA_ptr, fldA_rptr, List.getElem?_cons_zero, List.getElem?_cons_succ, decide_true, decide_false, if_true, if_false, Bool.true_eq_false, Bool.false_eq_true, Bool.not_true, Bool.not_false, nx]
        exact ih (i + 1) a' H' (by omega) (by omega) (by rw [← ht, allOf_snoc]; exact q2)
    rw [L42_8_eq]
    simp only [lenA_sl, bin_lss, hlt, idxP hi', fldA_fp, p0 hi', call96 (zs := allOf (p.take i)) (by omega) h.hd, un_not, obs, oms, bin_add, bin_sub, bin_lss, bin_leq, bin_gtr, bin_geq, bin_eql, bin_neq, bin_eqlB, bin_neqB, un_not, cond_B, gd_B, gd_undef, gdH_B, gdH_undef, pickA_B, extractA_tup, lenA_sl, lenA_row, fldA_fp, fldA_ptr, fldA_rptr, List.getElem?_cons_zero, List.getElem?_cons_succ, decide_true, decide_false, if_true, if_false, Bool.true_eq_false, Bool.false_eq_true, Bool.not_true, Bool.not_false]
    cases hc2 : (allOf (p.take i)).contains p[i].1 with
    | true =>
      have : ins (allOf (p.take i)) p[i].1 = allOf (p.take i) := by unfold ins; rw [hc2]; rfl
      simp only [obs, oms, bin_add, bin_sub, bin_lss, bin_leq, bin_gtr, bin_geq, bin_eql, bin_neq, bin_eqlB, bin_neqB, un_not, cond_B, gd_B, gd_undef, gdH_B, gdH_undef, pickA_B, extractA_tup, lenA_sl, lenA_row, fldA_fp, fldA_ptr, fldA_rptr, List.getElem?_cons_zero, List.getElem?_cons_succ, decide_true, decide_false, if_true, if_false, Bool.true_eq_false, Bool.false_eq_true, Bool.not_true, Bool.not_false]
      exact second a H (by rw [this]; exact h)
    | false =>
      obtain ⟨a', H', q1, q2⟩ := insApp p[i].1 (by omega) h hc2
      simp only [lit1, q1, obs, oms, bin_add, bin_sub, bin_lss, bin_leq, bin_gtr, bin_geq, bin_eql, bin_neq, bin_eqlB, bin_neqB, un_not, cond_B, gd_B, gd_undef, gdH_B, gdH_undef, pickA_B, extractA_tup, lenA_sl, lenA_row, fldA_fp, fldA_ptr, fldA_rptr, List.getElem?_cons_zero, List.getElem?_cons_succ, decide_true, decide_false, if_true, if_false, Bool.true_eq_false, Bool.false_eq_true, Bool.not_true, Bool.not_false]
      exact second a' H' q2

/-- A list under way is looked into. -/
theorem lst_at {o : AV} {H : Heap} {zs : List Int} (h : Lst 1 o H zs.length (zs.map Ia)) {k : Nat} (hk : k < zs.length) : ∃ x, idxA 1 o (I k) = some x ∧ ld false 1 x H = some (I zs[k]) := by
  obtain ⟨hl, ⟨nl, rfl, h1⟩ | ⟨id, g, rfl, ho⟩⟩ := h
  · exact ⟨_, idxV hk, ldV hk H⟩
  · have e := idxA_row (sz := 1) (id := id) (g := g) (off := 0) (n := zs.length) (j := (k : Int)) (by omega)
    simp only [Int.toNat_natCast, Nat.mul_one, Nat.zero_add] at e
    exact ⟨_, e, by rw [ld_row ho]; simp [hk]⟩

theorem lp34 (hl : p.length ≤ 200) {out : List Int} (hout : out.length ≤ 400) {a o : AV} {H : Heap} {best : Int} {sm : Bool} {k : Nat} (hk : k < (allOf p).length) (hal : (allOf p).length ≤ 400) (h : Cx H [] [(a, 1, (allOf p).length, (allOf p).map Ia), (o, 1, out.length, out.map Ia)]) : ∀ (c i : Nat) (fr : Bool), p.length - i = c → i ≤ p.length →
    L42_34 [Lp nl tg p, a, o, I best, B sm, I k, B fr, I i] [] H = (if (fr && decide (cnt (p.drop i) out (allOf p)[k] = 0) && (!sm || decide ((allOf p)[k] < best))) = true then L42_26 [Lp nl tg p, a, o, I (allOf p)[k], B true, I (k + 1 : Nat)] [] H else L42_26 [Lp nl tg p, a, o, I best, B sm, I (k + 1 : Nat)] [] H) := by
  obtain ⟨x, e1, e2⟩ := lst_at h.hd hk
  have nx : ∀ b s, L42_29 [Lp nl tg p, a, o, I b, B s, I k] [] H = L42_26 [Lp nl tg p, a, o, I b, B s, I (k + 1 : Nat)] [] H := by
    intro b s
    rw [L42_29_eq]
    simp only [bin_add, obs]
    rw [wrap_id (by omega), nxt]
  intro c
  induction c with
  | zero =>
    intro i fr hc hi
    have : i = p.length := by omega
    subst this
    have hz : cnt (p.drop p.length) out (allOf p)[k] = 0 := by rw [List.drop_length]; rfl
    rw [L42_34_eq]
    simp only [lenA_sl, bin_lss, Int.lt_irrefl, e1, e2, hz, obs, oms, bin_add, bin_sub, bin_lss, bin_leq, bin_gtr, bin_geq, bin_eql, bin_neq, bin_eqlB, bin_neqB, un_not, cond_B, gd_B, gd_undef, gdH_B, gdH_undef, pickA_B, extractA_tup, lenA_sl, lenA_row, fldA_fp, fldA_ptr, fldA_rptr, List.getElem?_cons_zero, List.getElem?_cons_succ, decide_true, decide_false, if_true, if_false, Bool.true_eq_false, Bool.false_eq_true, Bool.not_true, Bool.not_false]
    cases fr with
    | false => simp only [obs, oms, bin_add, bin_sub, bin_lss, bin_leq, bin_gtr, bin_geq, bin_eql, bin_neq, bin_eqlB, bin_neqB, un_not, cond_B, gd_B, gd_undef, gdH_B, gdH_undef, pickA_B, extractA_tup, lenA_sl, lenA_row, fldA_fp, fldA_ptr, fldA_rptr, List.getElem?_cons_zero, List.getElem?_cons_succ, decide_true, decide_false, if_true, if_false, Bool.true_eq_false, Bool.false_eq_true, Bool.not_true, Bool.not_false, Bool.false_and, nx]
    | true =>
      cases sm with
      | false => simp only [obs, oms, bin_add, bin_sub, bin_lss, bin_leq, bin_gtr, bin_geq, bin_eql, bin_neq, bin_eqlB, bin_neqB, un_not, cond_B, gd_B, gd_undef, gdH_B, gdH_undef, pickA_B, extractA_tup, lenA_sl, lenA_row, fldA_fp, fldA_ptr, fldA_rptr, List.getElem?_cons_zero, List.getElem?_cons_succ, decide_true, decide_false, if_true, if_false, Bool.true_eq_false, Bool.false_eq_true, Bool.not_true, Bool.not_false, Bool.true_and, Bool.true_or, e1, e2, nx]
      | true =>
        simp only [obs, oms, bin_add, bin_sub, bin_lss, bin_leq, bin_gtr, bin_geq, bin_eql, bin_neq, bin_eqlB, bin_neqB, un_not, cond_B, gd_B, gd_undef, gdH_B, gdH_undef, pickA_B, extractA_tup, lenA_sl, lenA_row, fldA_fp, fldA_ptr, fldA_rptr, List.getElem?_cons_zero, List.getElem?_cons_succ, decide_true, decide_false, if_true, if_false, Bool.true_eq_false, Bool.false_eq_true, Bool.not_true, Bool.not_false, Bool.true_and, Bool.false_or, e1, e2, bin_lss]
        by_cases hb : (allOf p)[k] < best
        · simp only [hb, obs, oms, bin_add, bin_sub, bin_lss, bin_leq, bin_gtr, bin_geq, bin_eql, bin_neq, bin_eqlB, bin_neqB, un_not, cond_B, gd_B, gd_undef, gdH_B, gdH_undef, pickA_B, extractA_tup, lenA_sl, lenA_row, fldA_fp, fldA_ptr, fldA_rptr, List.getElem?_cons_zero, List.getElem?_cons_succ, decide_true, decide_false, if_true, if_false, Bool.true_eq_false, Bool.false_eq_true, Bool.not_true, Bool.not_false, e1, e2, nx]
        · simp only [hb, obs, oms, bin_add, bin_sub, bin_lss, bin_leq, bin_gtr, bin_geq, bin_eql, bin_neq, bin_eqlB, bin_neqB, un_not, cond_B, gd_B, gd_undef, gdH_B, gdH_undef, pickA_B, extractA_tup, lenA_sl, lenA_row, fldA_fp, fldA_ptr, fldA_rptr, List.getElem?_cons_zero, List.getElem?_cons_succ, decide_true, decide_false, if_true, if_false, Bool.true_eq_false, Bool.false_eq_true, Bool.not_true, Bool.not_false, e1, e2, nx]
  | succ c ih =>
    intro i fr hc hi
    have hi' : i < p.length := by omega
    have hlt : (i : Int) < p.length := by omega
    have nx2 : ∀ fr, L42_37 [Lp nl tg p, a, o, I best, B sm, I k, B fr, I i] [] H = L42_34 [Lp nl tg p, a, o, I best, B sm, I k, B fr, I (i + 1 : Nat)] [] H := by
      intro fr
      rw [L42_37_eq]
      simp only [bin_add, obs]
      rw [wrap_id (by omega), nxt]
    have hd : p.drop i = p[i] :: p.drop (i + 1) := List.drop_eq_getElem_cons hi'
    have key : cnt (p.drop i) out (allOf p)[k] = (if p[i].2 = (allOf p)[k] ∧ p[i].1 ∉ out then 1 else 0) + cnt (p.drop (i + 1)) out (allOf p)[k] := by rw [hd, cnt_cons]
    rw [L42_34_eq]
    simp only [lenA_sl, bin_lss, hlt, idxP hi', fldA_fp, p1 hi', e1, e2, bin_eql, obs, oms, bin_add, bin_sub, bin_lss, bin_leq, bin_gtr, bin_geq, bin_eql, bin_neq, bin_eqlB, bin_neqB, un_not, cond_B, gd_B, gd_undef, gdH_B, gdH_undef, pickA_B, extractA_tup, lenA_sl, lenA_row, fldA_fp, fldA_ptr, fldA_rptr, List.getElem?_cons_zero, List.getElem?_cons_succ, decide_true, decide_false, if_true, if_false, Bool.true_eq_false, Bool.false_eq_true, Bool.not_true, Bool.not_false]
    by_cases g1 : p[i].2 = (allOf p)[k]
    · simp only [g1, idxP hi', fldA_fp, p0 hi', call96 (zs := out) (by omega) h.tl.hd, un_not, obs, oms, bin_add, bin_sub, bin_lss, bin_leq, bin_gtr, bin_geq, bin_eql, bin_neq, bin_eqlB, bin_neqB, un_not, cond_B, gd_B, gd_undef, gdH_B, gdH_undef, pickA_B, extractA_tup, lenA_sl, lenA_row, fldA_fp, fldA_ptr, fldA_rptr, List.getElem?_cons_zero, List.getElem?_cons_succ, decide_true, decide_false, if_true, if_false, Bool.true_eq_false, Bool.false_eq_true, Bool.not_true, Bool.not_false]
      cases g2 : out.contains p[i].1 with
      | true =>
        have hm : p[i].1 ∈ out := by simpa using g2
        have : cnt (p.drop i) out (allOf p)[k] = cnt (p.drop (i + 1)) out (allOf p)[k] := by rw [key]; simp [hm]
        simp only [obs, oms, bin_add, bin_sub, bin_lss, bin_leq, bin_gtr, bin_geq, bin_eql, bin_neq, bin_eqlB, bin_neqB, un_not, cond_B, gd_B, gd_undef, gdH_B, gdH_undef, pickA_B, extractA_tup, lenA_sl, lenA_row, fldA_fp, fldA_ptr, fldA_rptr, List.getElem?_cons_zero, List.getElem?_cons_succ, decide_true, decide_false, if_true, if_false, Bool.true_eq_false, Bool.false_eq_true, Bool.not_true, Bool.not_false, nx2]
        rw [ih (i + 1) fr (by omega) (by omega), this]
      | false =>
        have hm : p[i].1 ∉ out := by simpa using g2
        have : ¬ cnt (p.drop i) out (allOf p)[k] = 0 := by rw [key, if_pos ⟨g1, hm⟩]; omega
        simp only [obs, oms, bin_add, bin_sub, bin_lss, bin_leq, bin_gtr, bin_geq, bin_eql, bin_neq, bin_eqlB, bin_neqB, un_not, cond_B, gd_B, gd_undef, gdH_B, gdH_undef, pickA_B, extractA_tup, lenA_sl, lenA_row, fldA_fp, fldA_ptr, fldA_rptr, List.getElem?_cons_zero, List.getElem?_cons_succ, decide_true, decide_false, if_true, if_false, Bool.true_eq_false, Bool.false_eq_true, Bool.not_true, Bool.not_false, nx2]
        rw [ih (i + 1) false (by omega) (by omega)]
        simp [this]
    · have : cnt (p.drop i) out (allOf p)[k] = cnt (p.drop (i + 1)) out (allOf p)[k] := by rw [key]; simp [g1]
      simp only [g1, obs, oms, bin_add, bin_sub, bin_lss, bin_leq, bin_gtr, bin_geq, bin_eql, bin_neq, bin_eqlB, bin_neqB, un_not, cond_B, gd_B, gd_undef, gdH_B, gdH_undef, pickA_B, extractA_tup, lenA_sl, lenA_row, fldA_fp, fldA_ptr, fldA_rptr, List.getElem?_cons_zero, List.getElem?_cons_succ, decide_true, decide_false, if_true, if_false, Bool.true_eq_false, Bool.false_eq_true, Bool.not_true, Bool.not_false, nx2]
      rw [ih (i + 1) fr (by omega) (by omega), this]

def Res2 (R : Option (List Int)) (rs : List AV) : Prop := ∃ n t2, rs = [V n t2 (R.getD []), B R.isSome]

theorem lp20 (hl : p.length ≤ 200) {a : AV} : ∀ (c : Nat) (out : List Int) (o : AV) (H : Heap), out.length + c = (allOf p).length → Shut p out → Cx H [] [(a, 1, (allOf p).length, (allOf p).map Ia), (o, 1, out.length, out.map Ia)] →
    ∃ R rs, Goes p c out R ∧ Res2 R rs ∧ L42_20 [Lp nl tg p, a, o] [] H = some (rs, []) := by
  have hal : (allOf p).length ≤ 400 := by have := allOf_len p; omega
  intro c
  induction c with
  | zero =>
    intro out o H hc hS h
    obtain ⟨n, t2, H', e⟩ := h.tl.hd.leave2 [] (Bc true)
    have e0 : H' = [] := leave0_heap e
    rw [e0] at e
    refine ⟨some out, _, ⟨by omega, rfl⟩, ⟨n, t2, rfl⟩, ?_⟩
    rw [L42_20_eq]
    have z : ¬ ((out.length : Nat) : Int) < ((allOf p).length : Nat) := by omega
    simp only [h.hd.len, h.tl.hd.len, bin_lss, z, obs, oms, bin_add, bin_sub, bin_lss, bin_leq, bin_gtr, bin_geq, bin_eql, bin_neq, bin_eqlB, bin_neqB, un_not, cond_B, gd_B, gd_undef, gdH_B, gdH_undef, pickA_B, extractA_tup, lenA_sl, lenA_row, fldA_fp, fldA_ptr, fldA_rptr, List.getElem?_cons_zero, List.getElem?_cons_succ, decide_true, decide_false, if_true, if_false, Bool.true_eq_false, Bool.false_eq_true, Bool.not_true, Bool.not_false]
    exact e
  | succ c ih =>
    intro out o H hc hS h
    have hout : out.length ≤ 400 := by have := hS.len; omega
    have go : ∀ (r k : Nat) (best : Int) (sm : Bool), (allOf p).length - k = r → k ≤ (allOf p).length → (∀ n ∈ (allOf p).take k, free p out n → sm = true ∧ best ≤ n) → (sm = true → free p out best) →
        ∃ R rs, Goes p (c + 1) out R ∧ Res2 R rs ∧ L42_26 [Lp nl tg p, a, o, I best, B sm, I k] [] H = some (rs, []) := by
      intro r
      induction r with
      | zero =>
        intro k best sm hr hk hinv hsm
        have : k = (allOf p).length := by omega
        subst this
        rw [List.take_length] at hinv
        rw [L42_26_eq]
        simp only [h.hd.len, bin_lss, Int.lt_irrefl, un_not, obs, oms, bin_add, bin_sub, bin_lss, bin_leq, bin_gtr, bin_geq, bin_eql, bin_neq, bin_eqlB, bin_neqB, un_not, cond_B, gd_B, gd_undef, gdH_B, gdH_undef, pickA_B, extractA_tup, lenA_sl, lenA_row, fldA_fp, fldA_ptr, fldA_rptr, List.getElem?_cons_zero, List.getElem?_cons_succ, decide_true, decide_false, if_true, if_false, Bool.true_eq_false, Bool.false_eq_true, Bool.not_true, Bool.not_false]
        cases sm with
        | false =>
          refine ⟨none, _, ⟨hc, .inr ⟨fun b hb => ?_, rfl⟩⟩, ⟨some true, true, rfl⟩, rfl⟩
          have := (hinv b hb.1 hb).1
          cases this
        | true =>
          have hfree := hsm rfl
          obtain ⟨o', H1, q1, q2, _⟩ := Cx.app (bytes := 8) (y := .p (.sl (some false) true 1 [Ia best])) [(a, 1, (allOf p).length, (allOf p).map Ia)] h (cells1 _ _) rfl (by omega) (by simp only [room]; omega)
          obtain ⟨R, rs, g1, g2, g3⟩ := ih (out ++ [best]) o' H1 (by simp; omega) (hS.next hfree) (by simpa using q2)
          refine ⟨R, rs, ⟨hc, .inl ⟨best, ⟨hfree, fun n hn => (hinv n hn.1 hn).2⟩, g1⟩⟩, g2, ?_⟩
          simp only [lit1, q1, obs, oms, bin_add, bin_sub, bin_lss, bin_leq, bin_gtr, bin_geq, bin_eql, bin_neq, bin_eqlB, bin_neqB, un_not, cond_B, gd_B, gd_undef, gdH_B, gdH_undef, pickA_B, extractA_tup, lenA_sl, lenA_row, fldA_fp, fldA_ptr, fldA_rptr, List.getElem?_cons_zero, List.getElem?_cons_succ, decide_true, decide_false, if_true, if_false, Bool.true_eq_false, Bool.false_eq_true, Bool.not_true, Bool.not_false]
          exact g3
      | succ r ihr =>
        intro k best sm hr hk hinv hsm
        have hk' : k < (allOf p).length := by omega
        have hlt : (k : Int) < ((allOf p).length : Nat) := by omega
        obtain ⟨x, e1, e2⟩ := lst_at h.hd hk'
        have ht : (allOf p).take k ++ [(allOf p)[k]] = (allOf p).take (k + 1) := List.take_append_getElem hk'
        have h34 := lp34 (nl := nl) (tg := tg) hl hout (best := best) (sm := sm) hk' hal h _ 0 (!out.contains (allOf p)[k]) rfl (by omega)
        rw [List.drop_zero] at h34
        rw [L42_26_eq]
        simp only [h.hd.len, bin_lss, hlt, e1, e2, call96 (zs := out) (by omega) h.tl.hd, un_not, obs, oms, bin_add, bin_sub, bin_lss, bin_leq, bin_gtr, bin_geq, bin_eql, bin_neq, bin_eqlB, bin_neqB, un_not, cond_B, gd_B, gd_undef, gdH_B, gdH_undef, pickA_B, extractA_tup, lenA_sl, lenA_row, fldA_fp, fldA_ptr, fldA_rptr, List.getElem?_cons_zero, List.getElem?_cons_succ, decide_true, decide_false, if_true, if_false, Bool.true_eq_false, Bool.false_eq_true, Bool.not_true, Bool.not_false]
        rw [show (I 0) = I (0 : Nat) from rfl, h34]
        have hfr : free p out (allOf p)[k] ↔ (!out.contains (allOf p)[k] && decide (cnt p out (allOf p)[k] = 0)) = true := by
          simp only [free, Bool.and_eq_true, Bool.not_eq_true', decide_eq_true_eq, List.contains_eq_mem, decide_eq_false_iff_not]
          exact ⟨fun h => h.2, fun h => ⟨List.getElem_mem hk', h⟩⟩
        split
        · rename_i hcond
          rw [Bool.and_eq_true] at hcond
          have hf := hfr.mpr hcond.1
          refine ihr (k + 1) _ true (by omega) (by omega) (fun n hn hfn => ⟨rfl, ?_⟩) fun _ => hf
          rw [← ht] at hn
          rcases List.mem_append.mp hn with e | e
          · obtain ⟨g1, g2⟩ := hinv n e hfn
            have := hcond.2
            rw [g1] at this
            simp at this
            omega
          · simp at e; rw [e]; exact Int.le_refl _
        · rename_i hcond
          refine ihr (k + 1) best sm (by omega) (by omega) (fun n hn hfn => ?_) hsm
          rw [← ht] at hn
          rcases List.mem_append.mp hn with e | e
          · exact hinv n e hfn
          · simp at e
            subst e
            have hf := hfr.mp hfn
            rw [hf, Bool.true_and] at hcond
            simp at hcond
            exact ⟨hcond.1, by omega⟩
    rw [L42_20_eq]
    have z : ((out.length : Nat) : Int) < ((allOf p).length : Nat) := by omega
    simp only [h.hd.len, h.tl.hd.len, bin_lss, z, obs, oms, bin_add, bin_sub, bin_lss, bin_leq, bin_gtr, bin_geq, bin_eql, bin_neq, bin_eqlB, bin_neqB, un_not, cond_B, gd_B, gd_undef, gdH_B, gdH_undef, pickA_B, extractA_tup, lenA_sl, lenA_row, fldA_fp, fldA_ptr, fldA_rptr, List.getElem?_cons_zero, List.getElem?_cons_succ, decide_true, decide_false, if_true, if_false, Bool.true_eq_false, Bool.false_eq_true, Bool.not_true, Bool.not_false]
    rw [show (I 0) = I (0 : Nat) from rfl]
    exact go _ 0 0 false rfl (by omega) (fun n hn => by cases hn) fun e => by cases e

theorem call42 (hl : p.length ≤ 200) (lo : List Nat) (H : Heap) : ∃ R n t2, Goes p (allOf p).length [] R ∧ callA cfg O 42 [Lp nl tg p] lo H = some (.tup [V n t2 (R.getD []), B R.isSome], H) := by
  obtain ⟨a, H1, e1, c1⟩ := lp8 (nl := nl) (tg := tg) hl _ 0 (.p nilS) [] rfl (by omega) ((Cx.nil []).newNil 1)
  obtain ⟨R, rs, g1, ⟨n, t2, rfl⟩, g3⟩ := lp20 (nl := nl) (tg := tg) hl (allOf p).length [] (.p nilS) H1 (by simp) Shut.nil (c1.putNil 1)
  refine ⟨R, n, t2, g1, callA_args (H' := []) (rs := [_, _]) rfl rfl ?_ rfl⟩
  rw [f42_eq]
  exact e1.trans g3
end

/-! ### The law -/
theorem fin {a1 a2 b1 b2 : List Int} {n1 n2 n3 n4 : Option Bool} {t1 t2 t3 t4 : Bool} {is ok : Bool} {e f : Int} (h1 : a1.length < 2 ^ 62) (h2 : b1.length < 2 ^ 62) (ha : a1 = a2) (hb : b1 = b2) (hi : is = decide (0 < (a2.length : Int))) :
    L9_25 [V n1 t1 a1, B is, I e, V n2 t2 b1, B ok, I f, I e, I f, V n3 t3 a2, V n4 t4 b2, B ok] [] [] = some ([B true], []) := by
  subst ha hb hi
  rw [L9_25_eq]
  have e1 := call17 (n1 := n1) (n2 := n3) (t1 := t1) (t2 := t3) (a := a1) (b := a1) (lo := []) (H := []) (by omega)
  have e2 := call17 (n1 := n2) (n2 := n4) (t1 := t2) (t2 := t4) (a := b1) (b := b1) (lo := []) (H := []) (by omega)
  simp only [e1, e2, bin_gtr, beq_self_eq_true, obs, oms, bin_add, bin_sub, bin_lss, bin_leq, bin_gtr, bin_geq, bin_eql, bin_neq, bin_eqlB, bin_neqB, un_not, cond_B, gd_B, gd_undef, gdH_B, gdH_undef, pickA_B, extractA_tup, lenA_sl, lenA_row, fldA_fp, fldA_ptr, fldA_rptr, List.getElem?_cons_zero, List.getElem?_cons_succ, decide_true, decide_false, if_true, if_false, Bool.true_eq_false, Bool.false_eq_true, Bool.not_true, Bool.not_false]
  rfl

theorem law {n1 n2 : Option Bool} {t1 t2 : Bool} {l : List Dw} {p : List Dp} : ∃ H', O.ent 9 [L n1 t1 l, Lp n2 t2 p] [] [] = some ([B true], H') := by
  refine ⟨[], ?_⟩
  obtain ⟨m1, s1, e1⟩ := call38 (nl := n1) (tg := t1) (l := l) [] []
  have e3 := call40 (nl := n1) (tg := t1) (l := l) [] []
  have hring : ((ring l).getD []).length < 2 ^ 62 ∧ (ring l).isSome = decide (0 < (((ring l).getD []).length : Int)) := by
    cases hr : ring l with
    | none => simp
    | some zs =>
      unfold ring at hr
      split at hr
      · have hlen := ringFrom_len 8 hr
        have h8 : zs.length ≤ 8 := by
          rename_i h0
          have hF : errF [] l = 0 := by
            unfold errR at h0
            split at h0
            · cases h0
            · exact h0
          have key : ∀ c zs, c ≤ 8 → ringFrom (nf l) c = some zs → zs.length ≤ 8 := by
            intro c
            induction c with
            | zero => intro zs _ h; cases h
            | succ c ih =>
              intro zs hc8 h
              rw [ringFrom] at h
              cases hr2 : ringAt (nf l) ((8 - (c + 1) : Nat) : Int) with
              | some ys =>
                rw [hr2] at h
                cases h
                unfold ringAt at hr2
                split at hr2
                · rename_i hx
                  cases hr2
                  rw [pl_len]
                  exact ret_le (fun n v hv => nf_range (errF_zero l [] hF) hv) (by omega) hx.choose_spec
                · cases hr2
              | none => rw [hr2] at h; exact ih zs (by omega) h
          exact key 8 zs (by omega) hr
        simp
        omega
      · cases hr
  have fin2 : ∀ (zs : List Int) (n3 : Option Bool) (t3 : Bool), zs = (ring l).getD [] → L9_19 [Lp n2 t2 p, V m1 s1 ((ring l).getD []), B (ring l).isSome, I (errR l), (resP p (none : Option (List Int)))[0]!, (resP p (none : Option (List Int)))[1]!, (resP p (none : Option (List Int)))[2]!, I (errR l), I 0, V n3 t3 zs, .p nilS, B false] [] [] = some ([B true], []) → True := fun _ _ _ _ _ => trivial
  have main : ∀ (zs : List Int) (n3 : Option Bool) (t3 : Bool), zs = (ring l).getD [] → ∃ x6 x7 x8, callA cfg O 39 [Lp n2 t2 p] [] [] = some (.tup [x6, x7, x8], []) ∧ L9_19 [Lp n2 t2 p, V m1 s1 ((ring l).getD []), B (ring l).isSome, I (errR l), x6, x7, x8, I (errR l), I 0, V n3 t3 zs, .p nilS, B false] [] [] = some ([B true], []) := by
    intro zs n3 t3 hz
    by_cases hl : 200 < p.length
    · have e2 := call39 (nl := n2) (tg := t2) (p := p) (R := none) (fun h => (h hl).elim) [] []
      have hres : resP p none = [.p nilS, B false, I 2] := by unfold resP; rw [if_pos hl]
      rw [hres] at e2
      refine ⟨_, _, _, e2, ?_⟩
      rw [L9_19_eq]
      have z : (200 : Int) < p.length := by omega
      simp only [lenA_sl, bin_gtr, z, obs, oms, bin_add, bin_sub, bin_lss, bin_leq, bin_gtr, bin_geq, bin_eql, bin_neq, bin_eqlB, bin_neqB, un_not, cond_B, gd_B, gd_undef, gdH_B, gdH_undef, pickA_B, extractA_tup, lenA_sl, lenA_row, fldA_fp, fldA_ptr, fldA_rptr, List.getElem?_cons_zero, List.getElem?_cons_succ, decide_true, decide_false, if_true, if_false, Bool.true_eq_false, Bool.false_eq_true, Bool.not_true, Bool.not_false]
      exact fin (n2 := some true) (t2 := true) (b1 := []) (n4 := some true) (t4 := true) (b2 := []) hring.1 (by simp) hz.symm rfl (by rw [hz]; exact hring.2)
    · obtain ⟨R, m4, s4, hG, e4⟩ := call42 (nl := n2) (tg := t2) (p := p) (by omega) [] []
      have e2 := call39 (nl := n2) (tg := t2) (p := p) (R := R) (fun _ => hG) [] []
      have hres : resP p R = res R := by unfold resP; rw [if_neg hl]
      rw [hres] at e2
      have hlen : (R.getD []).length < 2 ^ 62 := by
        have := allOf_len p
        cases hR : R with
        | none => simp
        | some zs =>
          have := hG.len _ _ _ zs hR
          simp
          omega
      have z : ¬ (200 : Int) < p.length := by omega
      cases R with
      | none =>
        refine ⟨_, _, _, e2, ?_⟩
        rw [L9_19_eq]
        simp only [lenA_sl, bin_gtr, z, e4, obs, oms, bin_add, bin_sub, bin_lss, bin_leq, bin_gtr, bin_geq, bin_eql, bin_neq, bin_eqlB, bin_neqB, un_not, cond_B, gd_B, gd_undef, gdH_B, gdH_undef, pickA_B, extractA_tup, lenA_sl, lenA_row, fldA_fp, fldA_ptr, fldA_rptr, List.getElem?_cons_zero, List.getElem?_cons_succ, decide_true, decide_false, if_true, if_false, Bool.true_eq_false, Bool.false_eq_true, Bool.not_true, Bool.not_false]
        exact fin (n2 := some true) (t2 := true) (b1 := []) (b2 := []) hring.1 (by simp) hz.symm rfl (by rw [hz]; exact hring.2)
      | some ys =>
        refine ⟨_, _, _, e2, ?_⟩
        rw [L9_19_eq]
        simp only [lenA_sl, bin_gtr, z, e4, obs, oms, bin_add, bin_sub, bin_lss, bin_leq, bin_gtr, bin_geq, bin_eql, bin_neq, bin_eqlB, bin_neqB, un_not, cond_B, gd_B, gd_undef, gdH_B, gdH_undef, pickA_B, extractA_tup, lenA_sl, lenA_row, fldA_fp, fldA_ptr, fldA_rptr, List.getElem?_cons_zero, List.getElem?_cons_succ, decide_true, decide_false, if_true, if_false, Bool.true_eq_false, Bool.false_eq_true, Bool.not_true, Bool.not_false]
        unfold fz
        by_cases hy : ys = []
        · subst hy
          rw [if_pos rfl]
          exact fin (n2 := some true) (t2 := true) (b1 := []) (b2 := []) hring.1 (by simp) hz.symm rfl (by rw [hz]; exact hring.2)
        · rw [if_neg hy]
          exact fin hring.1 hlen hz.symm rfl (by rw [hz]; exact hring.2)
  rw [f9_eq]
  by_cases h0 : errR l = 0
  · obtain ⟨m3, s3, e5⟩ := call41 (nl := n1) (tg := t1) h0 [] []
    obtain ⟨x6, x7, x8, q1, q2⟩ := main _ m3 s3 rfl
    rw [h0] at e1 e3 q2
    simp only [e1, e3, q1, e5, bin_eql, obs, oms, bin_add, bin_sub, bin_lss, bin_leq, bin_gtr, bin_geq, bin_eql, bin_neq, bin_eqlB, bin_neqB, un_not, cond_B, gd_B, gd_undef, gdH_B, gdH_undef, pickA_B, extractA_tup, lenA_sl, lenA_row, fldA_fp, fldA_ptr, fldA_rptr, List.getElem?_cons_zero, List.getElem?_cons_succ, decide_true, decide_false, if_true, if_false, Bool.true_eq_false, Bool.false_eq_true, Bool.not_true, Bool.not_false]
    exact q2
  · have hz : ring l = none := by unfold ring; rw [if_neg h0]
    obtain ⟨x6, x7, x8, q1, q2⟩ := main [] (some true) true (by rw [hz]; rfl)
    simp only [e1, e3, q1, bin_eql, h0, obs, oms, bin_add, bin_sub, bin_lss, bin_leq, bin_gtr, bin_geq, bin_eql, bin_neq, bin_eqlB, bin_neqB, un_not, cond_B, gd_B, gd_undef, gdH_B, gdH_undef, pickA_B, extractA_tup, lenA_sl, lenA_row, fldA_fp, fldA_ptr, fldA_rptr, List.getElem?_cons_zero, List.getElem?_cons_succ, decide_true, decide_false, if_true, if_false, Bool.true_eq_false, Bool.false_eq_true, Bool.not_true, Bool.not_false]
    exact q2

end Lk
end Go.Proofs.Ytangmjeafnkfaaa
