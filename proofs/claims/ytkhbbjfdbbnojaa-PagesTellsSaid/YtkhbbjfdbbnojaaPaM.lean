import Derived.Test.YtkhbbjfdbbnojaaEPagesTells
import Derived.Test.YtkhbbjfdbbnojaaTy
import Derived.Test.YtkhbbjfdbbnojaaAm32
set_option linter.unusedVariables false
set_option linter.unusedSimpArgs false
namespace Go.Proofs.Ytkhbbjfdbbnojaa
open Go Go.AM
namespace Pa

open Classical in
noncomputable def dec (p : Prop) : Bool := decide p
theorem dec_iff {p : Prop} : dec p = true ↔ p := by unfold dec; simp
theorem dec_congr {p q : Prop} (h : p ↔ q) : dec p = dec q := by
  rw [Bool.eq_iff_iff, dec_iff, dec_iff]; exact h
theorem dec_f {p : Prop} (h : ¬ p) : dec p = false := by
  cases h2 : dec p with
  | false => rfl
  | true => exact (h (dec_iff.mp h2)).elim
theorem call83 (a b c : Int) (lo : List Nat) (H : Heap) : callA cfg O 83 [I a, I b, I c] lo H = some (B (decide (b ≤ a) && decide (a ≤ c)), H) := by
  refine callA_pure (xs := [Ia a, Ia b, Ia c]) (H' := []) (rs := [B (decide (b ≤ a) && decide (a ≤ c))]) rfl ?_ rfl
  show O.ent 83 [I a, I b, I c] [] [] = _
  rw [f83_eq]
  by_cases h : b ≤ a
  · by_cases h2 : a ≤ c <;> simp only [h, h2, Bool.and_true, Bool.and_false, obs, oms, bin_add, bin_sub, bin_lss, bin_leq, bin_gtr, bin_geq, bin_eql, bin_neq, bin_eqlB, bin_neqB, un_not, cond_B, gd_B, gd_undef, gdH_B, gdH_undef, pickA_B, extractA_tup, lenA_sl, lenA_row, fldA_fp, fldA_ptr, fldA_rptr, List.getElem?_cons_zero, List.getElem?_cons_succ, decide_true, decide_false, if_true, if_false, Bool.true_eq_false, Bool.false_eq_true, Bool.not_true, Bool.not_false] <;> rfl
  · simp only [h, Bool.false_and, obs, oms, bin_add, bin_sub, bin_lss, bin_leq, bin_gtr, bin_geq, bin_eql, bin_neq, bin_eqlB, bin_neqB, un_not, cond_B, gd_B, gd_undef, gdH_B, gdH_undef, pickA_B, extractA_tup, lenA_sl, lenA_row, fldA_fp, fldA_ptr, fldA_rptr, List.getElem?_cons_zero, List.getElem?_cons_succ, decide_true, decide_false, if_true, if_false, Bool.true_eq_false, Bool.false_eq_true, Bool.not_true, Bool.not_false]; rfl

/-! ### Lists compared -/
section
variable {n1 n2 : Option Bool} {t1 t2 : Bool} {a b : List Int}
theorem drop_iff {i : Nat} (ha : i < a.length) (hb : i < b.length) : a.drop i = b.drop i ↔ a[i] = b[i] ∧ a.drop (i + 1) = b.drop (i + 1) := by
  rw [List.drop_eq_getElem_cons ha, List.drop_eq_getElem_cons hb, List.cons.injEq]
theorem ent23 (hl : a.length < 2 ^ 63) : O.ent 23 [V n1 t1 a, V n2 t2 b] [] [] = some ([B (dec (a = b))], []) := by
  rw [f23_eq]
  by_cases h : a.length = b.length
  · have h' : (a.length : Int) = b.length := by omega
    have go : ∀ (c i : Nat), a.length - i = c → i ≤ a.length → L23_10 [V n1 t1 a, V n2 t2 b, I i] [] [] = some ([B (dec (a.drop i = b.drop i))], []) := by
      intro c
      induction c with
      | zero =>
        intro i hc hi
        have : i = a.length := by omega
        subst this
        rw [L23_10_eq, dec_iff.mpr (by rw [List.drop_length, h, List.drop_length])]
        simp only [Int.lt_irrefl, obs, oms, bin_add, bin_sub, bin_lss, bin_leq, bin_gtr, bin_geq, bin_eql, bin_neq, bin_eqlB, bin_neqB, un_not, cond_B, gd_B, gd_undef, gdH_B, gdH_undef, pickA_B, extractA_tup, lenA_sl, lenA_row, fldA_fp, fldA_ptr, fldA_rptr, List.getElem?_cons_zero, List.getElem?_cons_succ, decide_true, decide_false, if_true, if_false, Bool.true_eq_false, Bool.false_eq_true, Bool.not_true, Bool.not_false]
        rfl
      | succ c ih =>
        intro i hc hi
        have ha : i < a.length := by omega
        have hb : i < b.length := by omega
        have hlt : (i : Int) < a.length := by omega
        have w : IntKind.i64.wrap ((i : Int) + 1) = ((i + 1 : Nat) : Int) := by rw [wrap_id (by omega), nxt]
        rw [L23_10_eq]
        by_cases he : a[i] = b[i]
        · have fin := ih (i + 1) (by omega) (by omega)
          rw [dec_congr (show a.drop (i + 1) = b.drop (i + 1) ↔ a.drop i = b.drop i by rw [drop_iff ha hb]; simp [he])] at fin
          simp only [hlt, idxV ha, ldV ha, idxV hb, ldV hb, he, w, obs, oms, bin_add, bin_sub, bin_lss, bin_leq, bin_gtr, bin_geq, bin_eql, bin_neq, bin_eqlB, bin_neqB, un_not, cond_B, gd_B, gd_undef, gdH_B, gdH_undef, pickA_B, extractA_tup, lenA_sl, lenA_row, fldA_fp, fldA_ptr, fldA_rptr, List.getElem?_cons_zero, List.getElem?_cons_succ, decide_true, decide_false, if_true, if_false, Bool.true_eq_false, Bool.false_eq_true, Bool.not_true, Bool.not_false]
          exact fin
        · rw [dec_f fun h => he ((drop_iff ha hb).mp h).1]
          simp only [hlt, idxV ha, ldV ha, idxV hb, ldV hb, he, obs, oms, bin_add, bin_sub, bin_lss, bin_leq, bin_gtr, bin_geq, bin_eql, bin_neq, bin_eqlB, bin_neqB, un_not, cond_B, gd_B, gd_undef, gdH_B, gdH_undef, pickA_B, extractA_tup, lenA_sl, lenA_row, fldA_fp, fldA_ptr, fldA_rptr, List.getElem?_cons_zero, List.getElem?_cons_succ, decide_true, decide_false, if_true, if_false, Bool.true_eq_false, Bool.false_eq_true, Bool.not_true, Bool.not_false]
          rfl
    simp only [h', obs, oms, bin_add, bin_sub, bin_lss, bin_leq, bin_gtr, bin_geq, bin_eql, bin_neq, bin_eqlB, bin_neqB, un_not, cond_B, gd_B, gd_undef, gdH_B, gdH_undef, pickA_B, extractA_tup, lenA_sl, lenA_row, fldA_fp, fldA_ptr, fldA_rptr, List.getElem?_cons_zero, List.getElem?_cons_succ, decide_true, decide_false, if_true, if_false, Bool.true_eq_false, Bool.false_eq_true, Bool.not_true, Bool.not_false]
    have := go a.length 0 rfl (by omega)
    simpa using this
  · have h' : ¬ (a.length : Int) = b.length := by omega
    rw [dec_f fun e => h (by rw [e])]
    simp only [h', obs, oms, bin_add, bin_sub, bin_lss, bin_leq, bin_gtr, bin_geq, bin_eql, bin_neq, bin_eqlB, bin_neqB, un_not, cond_B, gd_B, gd_undef, gdH_B, gdH_undef, pickA_B, extractA_tup, lenA_sl, lenA_row, fldA_fp, fldA_ptr, fldA_rptr, List.getElem?_cons_zero, List.getElem?_cons_succ, decide_true, decide_false, if_true, if_false, Bool.true_eq_false, Bool.false_eq_true, Bool.not_true, Bool.not_false]
    rfl
theorem ent101 (hl : a.length < 2 ^ 63) : O.ent 101 [V n1 t1 a, V n2 t2 b] [] [] = some ([B (dec (a = b))], []) := by
  rw [f101_eq]
  by_cases h : a.length = b.length
  · have h' : (a.length : Int) = b.length := by omega
    have go : ∀ (c i : Nat), a.length - i = c → i ≤ a.length → L101_10 [V n1 t1 a, V n2 t2 b, I a.length, I i] [] [] = some ([B (dec (a.drop i = b.drop i))], []) := by
      intro c
      induction c with
      | zero =>
        intro i hc hi
        have : i = a.length := by omega
        subst this
        rw [L101_10_eq, dec_iff.mpr (by rw [List.drop_length, h, List.drop_length])]
        simp only [Int.lt_irrefl, obs, oms, bin_add, bin_sub, bin_lss, bin_leq, bin_gtr, bin_geq, bin_eql, bin_neq, bin_eqlB, bin_neqB, un_not, cond_B, gd_B, gd_undef, gdH_B, gdH_undef, pickA_B, extractA_tup, lenA_sl, lenA_row, fldA_fp, fldA_ptr, fldA_rptr, List.getElem?_cons_zero, List.getElem?_cons_succ, decide_true, decide_false, if_true, if_false, Bool.true_eq_false, Bool.false_eq_true, Bool.not_true, Bool.not_false]
        rfl
      | succ c ih =>
        intro i hc hi
        have ha : i < a.length := by omega
        have hb : i < b.length := by omega
        have hlt : (i : Int) < a.length := by omega
        have w : IntKind.i64.wrap ((i : Int) + 1) = ((i + 1 : Nat) : Int) := by rw [wrap_id (by omega), nxt]
        rw [L101_10_eq]
        by_cases he : a[i] = b[i]
        · have fin := ih (i + 1) (by omega) (by omega)
          rw [dec_congr (show a.drop (i + 1) = b.drop (i + 1) ↔ a.drop i = b.drop i by rw [drop_iff ha hb]; simp [he])] at fin
          simp only [hlt, idxV ha, ldV ha, idxV hb, ldV hb, he, w, obs, oms, bin_add, bin_sub, bin_lss, bin_leq, bin_gtr, bin_geq, bin_eql, bin_neq, bin_eqlB, bin_neqB, un_not, cond_B, gd_B, gd_undef, gdH_B, gdH_undef, pickA_B, extractA_tup, lenA_sl, lenA_row, fldA_fp, fldA_ptr, fldA_rptr, List.getElem?_cons_zero, List.getElem?_cons_succ, decide_true, decide_false, if_true, if_false, Bool.true_eq_false, Bool.false_eq_true, Bool.not_true, Bool.not_false]
          exact fin
        · rw [dec_f fun h => he ((drop_iff ha hb).mp h).1]
          simp only [hlt, idxV ha, ldV ha, idxV hb, ldV hb, he, obs, oms, bin_add, bin_sub, bin_lss, bin_leq, bin_gtr, bin_geq, bin_eql, bin_neq, bin_eqlB, bin_neqB, un_not, cond_B, gd_B, gd_undef, gdH_B, gdH_undef, pickA_B, extractA_tup, lenA_sl, lenA_row, fldA_fp, fldA_ptr, fldA_rptr, List.getElem?_cons_zero, List.getElem?_cons_succ, decide_true, decide_false, if_true, if_false, Bool.true_eq_false, Bool.false_eq_true, Bool.not_true, Bool.not_false]
          rfl
    have hg := go a.length 0 rfl (by omega)
    simp only [List.drop_zero] at hg
    rw [h] at hg
    simp only [h, obs, oms, bin_add, bin_sub, bin_lss, bin_leq, bin_gtr, bin_geq, bin_eql, bin_neq, bin_eqlB, bin_neqB, un_not, cond_B, gd_B, gd_undef, gdH_B, gdH_undef, pickA_B, extractA_tup, lenA_sl, lenA_row, fldA_fp, fldA_ptr, fldA_rptr, List.getElem?_cons_zero, List.getElem?_cons_succ, decide_true, decide_false, if_true, if_false, Bool.true_eq_false, Bool.false_eq_true, Bool.not_true, Bool.not_false]
    exact hg
  · have h' : ¬ (a.length : Int) = b.length := by omega
    rw [dec_f fun e => h (by rw [e])]
    simp only [h', obs, oms, bin_add, bin_sub, bin_lss, bin_leq, bin_gtr, bin_geq, bin_eql, bin_neq, bin_eqlB, bin_neqB, un_not, cond_B, gd_B, gd_undef, gdH_B, gdH_undef, pickA_B, extractA_tup, lenA_sl, lenA_row, fldA_fp, fldA_ptr, fldA_rptr, List.getElem?_cons_zero, List.getElem?_cons_succ, decide_true, decide_false, if_true, if_false, Bool.true_eq_false, Bool.false_eq_true, Bool.not_true, Bool.not_false]
    rfl
theorem call23 (hl : a.length < 2 ^ 63) (lo : List Nat) (H : Heap) : callA cfg O 23 [V n1 t1 a, V n2 t2 b] lo H = some (B (dec (a = b)), H) :=
  callA_pure (xs := [.sl n1 t1 a.length (a.map Ia), .sl n2 t2 b.length (b.map Ia)]) (rs := [B (dec (a = b))]) rfl (ent23 hl) rfl
theorem call23o {o : AV} {H : Heap} (hl : a.length < 2 ^ 63) (h : Lst 1 o H b.length (b.map Ia)) (lo : List Nat) : callA cfg O 23 [V n1 t1 a, o] lo H = some (B (dec (a = b)), H) := by
  obtain ⟨n3, t3, q, ep⟩ := pureLst h
  refine callA_rows (H' := []) (rs := [B (dec (a = b))]) (ys := [V n1 t1 a, V n3 t3 b]) (b := false || (q || false)) rfl ?_ (ent23 hl) rfl rfl
  simp only [pureArgs, ep, obs, oms]
  rfl
theorem call101 (hl : a.length < 2 ^ 63) (lo : List Nat) (H : Heap) : callA cfg O 101 [V n1 t1 a, V n2 t2 b] lo H = some (B (dec (a = b)), H) :=
  callA_pure (xs := [.sl n1 t1 a.length (a.map Ia), .sl n2 t2 b.length (b.map Ia)]) (rs := [B (dec (a = b))]) rfl (ent101 hl) rfl
end

/-! ### A store -/
abbrev Pg := A_A4i64
abbrev encG := enc_A4i64
theorem len4 (p : Pg) : (encG p).length = 4 := rfl
def zg : Pg := (0, 0, 0, 0)
structure SD where
  np : Option Bool
  tp : Bool
  P : List Pg
  nu : Option Bool
  tu : Bool
  U : List Int
  nr : Option Bool
  tr : Bool
  R : List Dd
abbrev pvP (s : SD) : PV := .sl s.np s.tp s.P.length (s.P.flatMap encG)
abbrev pvU (s : SD) : PV := .sl s.nu s.tu s.U.length (s.U.map Ia)
abbrev pvR (s : SD) : PV := .sl s.nr s.tr s.R.length (s.R.map us)
def cellsS (s : SD) : List PV := [pvP s, pvU s, pvR s]
def avS (s : SD) : AV := .agg ((cellsS s).map .p)
abbrev bxS (s : SD) : AObj := .box ((cellsS s).map .p)

section
variable {s : SD} {H : Heap} {id : Nat}
theorem boxS (s : SD) (H : Heap) : boxO [] (AV.cells (avS s)) H = some (.ptr H.length 0, H ++ [bxS s]) := boxO_p (cellsS s) H
theorem ldP0 (h : H[id]? = some (bxS s)) : ld false 1 (.ptr id (0 + 0)) H = some (.p (pvP s)) := by rw [ld_box h]; rfl
theorem ldU0 (h : H[id]? = some (bxS s)) : ld false 1 (.ptr id (0 + 1)) H = some (.p (pvU s)) := by rw [ld_box h]; rfl
theorem ldR0 (h : H[id]? = some (bxS s)) : ld false 1 (.ptr id (0 + 2)) H = some (.p (pvR s)) := by rw [ld_box h]; rfl
theorem ldS0 (h : H[id]? = some (bxS s)) : ld true 3 (.ptr id 0) H = some (avS s) := by
  rw [ldAgg_box h (by simp [cellsS]) (by simp [cellsS])]
  rfl
theorem idxG {l : List Pg} {nl : Option Bool} {tg : Bool} {i : Nat} (h : i < l.length) : idxA 4 (.p (.sl nl tg l.length (l.flatMap encG))) (I i) = some (.fp (l.flatMap encG) (i * 4)) := idxR h
def avG (p : Pg) : AV := .agg ((encG p).map .p)
theorem ldG {l : List Pg} {i : Nat} (h : i < l.length) (H : Heap) : ld true 4 (.fp (l.flatMap encG) (i * 4)) H = some (avG l[i]) := by rw [ldR len4 h]; rfl
theorem neG (p q : Pg) : bin .neq (.arr 4 [(0, .int), (1, .int), (2, .int), (3, .int)]) (avG p) (avG q) = some (B (!decide (p = q))) := by
  have e : decide (p = q) = (decide (p.1 = q.1) && (decide (p.2.1 = q.2.1) && (decide (p.2.2.1 = q.2.2.1) && (decide (p.2.2.2 = q.2.2.2) && true)))) := by
    rw [Bool.eq_iff_iff]; simp [Prod.ext_iff]
  rw [e]
  rfl
theorem eqG (p q : Pg) : bin .eql (.arr 4 [(0, .int), (1, .int), (2, .int), (3, .int)]) (avG p) (avG q) = some (B (decide (p = q))) := by
  have e : decide (p = q) = (decide (p.1 = q.1) && (decide (p.2.1 = q.2.1) && (decide (p.2.2.1 = q.2.2.1) && (decide (p.2.2.2 = q.2.2.2) && true)))) := by
    rw [Bool.eq_iff_iff]; simp [Prod.ext_iff]
  rw [e]
  rfl
end

/-! ### Lists of lists compared -/
section
variable {n1 n2 : Option Bool} {t1 t2 : Bool} {a b : List Dd}
theorem ent39 (hl : a.length < 2 ^ 63) (hi : ∀ d ∈ a, d.2.2.length < 2 ^ 63) : O.ent 39 [W n1 t1 a, W n2 t2 b] [] [] = some ([B (dec (ints a = ints b))], []) := by
  rw [f39_eq]
  have hal : (ints a).length = a.length := by simp [ints]
  have hbl : (ints b).length = b.length := by simp [ints]
  by_cases h : a.length = b.length
  · have h' : (a.length : Int) = b.length := by omega
    have go : ∀ (c i : Nat), a.length - i = c → i ≤ a.length → L39_10 [W n1 t1 a, W n2 t2 b, I i] [] [] = some ([B (dec ((ints a).drop i = (ints b).drop i))], []) := by
      intro c
      induction c with
      | zero =>
        intro i hc hi
        have : i = a.length := by omega
        subst this
        rw [L39_10_eq, dec_iff.mpr (by rw [List.drop_of_length_le (by omega), List.drop_of_length_le (by omega)])]
        simp only [Int.lt_irrefl, obs, oms, bin_add, bin_sub, bin_lss, bin_leq, bin_gtr, bin_geq, bin_eql, bin_neq, bin_eqlB, bin_neqB, un_not, cond_B, gd_B, gd_undef, gdH_B, gdH_undef, pickA_B, extractA_tup, lenA_sl, lenA_row, fldA_fp, fldA_ptr, fldA_rptr, List.getElem?_cons_zero, List.getElem?_cons_succ, decide_true, decide_false, if_true, if_false, Bool.true_eq_false, Bool.false_eq_true, Bool.not_true, Bool.not_false]
        rfl
      | succ c ih =>
        intro i hc hi'
        have ha : i < a.length := by omega
        have hb : i < b.length := by omega
        have hlt : (i : Int) < a.length := by omega
        have w : IntKind.i64.wrap ((i : Int) + 1) = ((i + 1 : Nat) : Int) := by rw [wrap_id (by omega), nxt]
        have c23 := call23 (n1 := a[i].1) (t1 := a[i].2.1) (n2 := b[i].1) (t2 := b[i].2.1) (b := b[i].2.2) (hi a[i] (List.getElem_mem _)) [] []
        have hd : (ints a).drop i = (ints b).drop i ↔ a[i].2.2 = b[i].2.2 ∧ (ints a).drop (i + 1) = (ints b).drop (i + 1) := by
          rw [List.drop_eq_getElem_cons (by omega), List.drop_eq_getElem_cons (show i < (ints b).length by omega), List.cons.injEq]
          simp [ints]
        rw [L39_10_eq]
        by_cases he : a[i].2.2 = b[i].2.2
        · have fin := ih (i + 1) (by omega) (by omega)
          rw [dec_congr (show (ints a).drop (i + 1) = (ints b).drop (i + 1) ↔ (ints a).drop i = (ints b).drop i by rw [hd]; simp [he])] at fin
          rw [dec_iff.mpr he] at c23
          simp only [hlt, idxW ha, ldW ha, idxW hb, ldW hb, c23, w, obs, oms, bin_add, bin_sub, bin_lss, bin_leq, bin_gtr, bin_geq, bin_eql, bin_neq, bin_eqlB, bin_neqB, un_not, cond_B, gd_B, gd_undef, gdH_B, gdH_undef, pickA_B, extractA_tup, lenA_sl, lenA_row, fldA_fp, fldA_ptr, fldA_rptr, List.getElem?_cons_zero, List.getElem?_cons_succ, decide_true, decide_false, if_true, if_false, Bool.true_eq_false, Bool.false_eq_true, Bool.not_true, Bool.not_false]
          exact fin
        · rw [dec_f fun h => he (hd.mp h).1]
          rw [dec_f he] at c23
          simp only [hlt, idxW ha, ldW ha, idxW hb, ldW hb, c23, obs, oms, bin_add, bin_sub, bin_lss, bin_leq, bin_gtr, bin_geq, bin_eql, bin_neq, bin_eqlB, bin_neqB, un_not, cond_B, gd_B, gd_undef, gdH_B, gdH_undef, pickA_B, extractA_tup, lenA_sl, lenA_row, fldA_fp, fldA_ptr, fldA_rptr, List.getElem?_cons_zero, List.getElem?_cons_succ, decide_true, decide_false, if_true, if_false, Bool.true_eq_false, Bool.false_eq_true, Bool.not_true, Bool.not_false]
          rfl
    simp only [h', obs, oms, bin_add, bin_sub, bin_lss, bin_leq, bin_gtr, bin_geq, bin_eql, bin_neq, bin_eqlB, bin_neqB, un_not, cond_B, gd_B, gd_undef, gdH_B, gdH_undef, pickA_B, extractA_tup, lenA_sl, lenA_row, fldA_fp, fldA_ptr, fldA_rptr, List.getElem?_cons_zero, List.getElem?_cons_succ, decide_true, decide_false, if_true, if_false, Bool.true_eq_false, Bool.false_eq_true, Bool.not_true, Bool.not_false]
    have := go a.length 0 rfl (by omega)
    simpa using this
  · have h' : ¬ (a.length : Int) = b.length := by omega
    rw [dec_f fun e => h (by have := congrArg List.length e; omega)]
    simp only [h', obs, oms, bin_add, bin_sub, bin_lss, bin_leq, bin_gtr, bin_geq, bin_eql, bin_neq, bin_eqlB, bin_neqB, un_not, cond_B, gd_B, gd_undef, gdH_B, gdH_undef, pickA_B, extractA_tup, lenA_sl, lenA_row, fldA_fp, fldA_ptr, fldA_rptr, List.getElem?_cons_zero, List.getElem?_cons_succ, decide_true, decide_false, if_true, if_false, Bool.true_eq_false, Bool.false_eq_true, Bool.not_true, Bool.not_false]
    rfl
end
end Pa
end Go.Proofs.Ytkhbbjfdbbnojaa

set_option linter.unusedVariables false
set_option linter.unusedSimpArgs false
namespace Go.Proofs.Ytkhbbjfdbbnojaa
open Go Go.AM
namespace Pa

section
variable {s s2 : SD}

/-- Two stores that hold the same. -/
def Same (s s2 : SD) : Prop := s.P = s2.P ∧ s.U = s2.U ∧ ints s.R = ints s2.R

theorem ent51 (hu : s.U.length < 2 ^ 63) (hp : s.P.length < 2 ^ 63) (hr : s.R.length < 2 ^ 63) (hi : ∀ d ∈ s.R, d.2.2.length < 2 ^ 63) : O.ent 51 [avS s, avS s2] [] [] = some ([B (dec (Same s s2))], []) := by
  have b1 : boxO [] (AV.cells (avS s)) [] = some (.ptr 0 0, [bxS s]) := boxS s []
  have b2 : boxO [] (AV.cells (avS s2)) [bxS s] = some (.ptr 1 0, [bxS s, bxS s2]) := boxS s2 [bxS s]
  have g0 : ([bxS s, bxS s2] : Heap)[0]? = some (bxS s) := rfl
  have g1 : ([bxS s, bxS s2] : Heap)[1]? = some (bxS s2) := rfl
  have c23 : callA cfg O 23 [.p (pvU s), .p (pvU s2)] [] [bxS s, bxS s2] = some (B (dec (s.U = s2.U)), [bxS s, bxS s2]) := call23 hu [] _
  have c39 : callA cfg O 39 [.p (pvR s), .p (pvR s2)] [] [bxS s, bxS s2] = some (B (dec (ints s.R = ints s2.R)), [bxS s, bxS s2]) := callA_pure (xs := [pvR s, pvR s2]) (rs := [B (dec (ints s.R = ints s2.R))]) rfl (ent39 hr hi) rfl
  rw [f51_eq]
  by_cases h1 : s.P.length = s2.P.length
  · have h1' : (s.P.length : Int) = s2.P.length := by omega
    by_cases h2 : s.U = s2.U
    · rw [dec_iff.mpr h2] at c23
      by_cases h3 : ints s.R = ints s2.R
      · rw [dec_iff.mpr h3] at c39
        have go : ∀ (c i : Nat), s.P.length - i = c → i ≤ s.P.length → L51_10 [.ptr 0 0, .ptr 1 0, I i] [] [bxS s, bxS s2] = some ([B (dec (s.P.drop i = s2.P.drop i))], []) := by
          intro c
          induction c with
          | zero =>
            intro i hc hi
            have : i = s.P.length := by omega
            subst this
            rw [L51_10_eq, dec_iff.mpr (by rw [List.drop_of_length_le (by omega), List.drop_of_length_le (by omega)])]
            simp only [fldA_ptr, ldP0 g0, Int.lt_irrefl, obs, oms, bin_add, bin_sub, bin_lss, bin_leq, bin_gtr, bin_geq, bin_eql, bin_neq, bin_eqlB, bin_neqB, un_not, cond_B, gd_B, gd_undef, gdH_B, gdH_undef, pickA_B, extractA_tup, lenA_sl, lenA_row, fldA_fp, fldA_ptr, fldA_rptr, List.getElem?_cons_zero, List.getElem?_cons_succ, decide_true, decide_false, if_true, if_false, Bool.true_eq_false, Bool.false_eq_true, Bool.not_true, Bool.not_false]
            rfl
          | succ c ih =>
            intro i hc hi'
            have ha : i < s.P.length := by omega
            have hb : i < s2.P.length := by omega
            have hlt : (i : Int) < s.P.length := by omega
            have w : IntKind.i64.wrap ((i : Int) + 1) = ((i + 1 : Nat) : Int) := by rw [wrap_id (by omega), nxt]
            have hd : s.P.drop i = s2.P.drop i ↔ s.P[i] = s2.P[i] ∧ s.P.drop (i + 1) = s2.P.drop (i + 1) := by
              rw [List.drop_eq_getElem_cons ha, List.drop_eq_getElem_cons hb, List.cons.injEq]
            rw [L51_10_eq]
            by_cases he : s.P[i] = s2.P[i]
            · have fin := ih (i + 1) (by omega) (by omega)
              rw [dec_congr (show s.P.drop (i + 1) = s2.P.drop (i + 1) ↔ s.P.drop i = s2.P.drop i by rw [hd]; simp [he])] at fin
              simp only [fldA_ptr, ldP0 g0, ldP0 g1, hlt, idxG ha, ldG ha, idxG hb, ldG hb, neG, he, w, obs, oms, bin_add, bin_sub, bin_lss, bin_leq, bin_gtr, bin_geq, bin_eql, bin_neq, bin_eqlB, bin_neqB, un_not, cond_B, gd_B, gd_undef, gdH_B, gdH_undef, pickA_B, extractA_tup, lenA_sl, lenA_row, fldA_fp, fldA_ptr, fldA_rptr, List.getElem?_cons_zero, List.getElem?_cons_succ, decide_true, decide_false, if_true, if_false, Bool.true_eq_false, Bool.false_eq_true, Bool.not_true, Bool.not_false]
              exact fin
            · rw [dec_f fun h => he (hd.mp h).1]
              simp only [fldA_ptr, ldP0 g0, ldP0 g1, hlt, idxG ha, ldG ha, idxG hb, ldG hb, neG, he, obs, oms, bin_add, bin_sub, bin_lss, bin_leq, bin_gtr, bin_geq, bin_eql, bin_neq, bin_eqlB, bin_neqB, un_not, cond_B, gd_B, gd_undef, gdH_B, gdH_undef, pickA_B, extractA_tup, lenA_sl, lenA_row, fldA_fp, fldA_ptr, fldA_rptr, List.getElem?_cons_zero, List.getElem?_cons_succ, decide_true, decide_false, if_true, if_false, Bool.true_eq_false, Bool.false_eq_true, Bool.not_true, Bool.not_false]
              rfl
        have fin := go s.P.length 0 rfl (by omega)
        rw [dec_congr (show s.P.drop 0 = s2.P.drop 0 ↔ Same s s2 from ⟨fun h => ⟨by simpa using h, h2, h3⟩, fun h => by simpa using h.1⟩)] at fin
        simp only [b1, b2, fldA_ptr, ldP0 g0, ldP0 g1, ldU0 g0, ldU0 g1, ldR0 g0, ldR0 g1, h1', c23, c39, obs, oms, bin_add, bin_sub, bin_lss, bin_leq, bin_gtr, bin_geq, bin_eql, bin_neq, bin_eqlB, bin_neqB, un_not, cond_B, gd_B, gd_undef, gdH_B, gdH_undef, pickA_B, extractA_tup, lenA_sl, lenA_row, fldA_fp, fldA_ptr, fldA_rptr, List.getElem?_cons_zero, List.getElem?_cons_succ, decide_true, decide_false, if_true, if_false, Bool.true_eq_false, Bool.false_eq_true, Bool.not_true, Bool.not_false]
        exact fin
      · rw [dec_f h3] at c39
        rw [dec_f fun h : Same s s2 => h3 h.2.2]
        simp only [b1, b2, fldA_ptr, ldP0 g0, ldP0 g1, ldU0 g0, ldU0 g1, ldR0 g0, ldR0 g1, h1', c23, c39, obs, oms, bin_add, bin_sub, bin_lss, bin_leq, bin_gtr, bin_geq, bin_eql, bin_neq, bin_eqlB, bin_neqB, un_not, cond_B, gd_B, gd_undef, gdH_B, gdH_undef, pickA_B, extractA_tup, lenA_sl, lenA_row, fldA_fp, fldA_ptr, fldA_rptr, List.getElem?_cons_zero, List.getElem?_cons_succ, decide_true, decide_false, if_true, if_false, Bool.true_eq_false, Bool.false_eq_true, Bool.not_true, Bool.not_false]
        rfl
    · rw [dec_f h2] at c23
      rw [dec_f fun h : Same s s2 => h2 h.2.1]
      simp only [b1, b2, fldA_ptr, ldP0 g0, ldP0 g1, ldU0 g0, ldU0 g1, h1', c23, obs, oms, bin_add, bin_sub, bin_lss, bin_leq, bin_gtr, bin_geq, bin_eql, bin_neq, bin_eqlB, bin_neqB, un_not, cond_B, gd_B, gd_undef, gdH_B, gdH_undef, pickA_B, extractA_tup, lenA_sl, lenA_row, fldA_fp, fldA_ptr, fldA_rptr, List.getElem?_cons_zero, List.getElem?_cons_succ, decide_true, decide_false, if_true, if_false, Bool.true_eq_false, Bool.false_eq_true, Bool.not_true, Bool.not_false]
      rfl
  · have h1' : ¬ (s.P.length : Int) = s2.P.length := by omega
    rw [dec_f fun h : Same s s2 => h1 (by rw [h.1])]
    simp only [b1, b2, fldA_ptr, ldP0 g0, ldP0 g1, h1', obs, oms, bin_add, bin_sub, bin_lss, bin_leq, bin_gtr, bin_geq, bin_eql, bin_neq, bin_eqlB, bin_neqB, un_not, cond_B, gd_B, gd_undef, gdH_B, gdH_undef, pickA_B, extractA_tup, lenA_sl, lenA_row, fldA_fp, fldA_ptr, fldA_rptr, List.getElem?_cons_zero, List.getElem?_cons_succ, decide_true, decide_false, if_true, if_false, Bool.true_eq_false, Bool.false_eq_true, Bool.not_true, Bool.not_false]
    rfl

/-! ### How often a page stands in all versions -/
def cnt (R : List (List Int)) (p : Int) : Nat := R.flatten.count p
theorem cnt_take {R : List (List Int)} {p : Int} {i : Nat} (h : i < R.length) : cnt (R.take (i + 1)) p = cnt (R.take i) p + R[i].count p := by
  unfold cnt
  rw [List.take_add_one, List.getElem?_eq_getElem h, List.flatten_append, List.count_append]
  simp
theorem count_take {r : List Int} {p : Int} {k : Nat} (h : k < r.length) : (r.take (k + 1)).count p = (r.take k).count p + if r[k] = p then 1 else 0 := by
  rw [List.take_add_one, List.getElem?_eq_getElem h, List.count_append]
  simp only [Option.toList_some, List.count_singleton, beq_iff_eq]
theorem cnt_le (R : List (List Int)) (p : Int) : cnt R p ≤ R.flatten.length := List.count_le_length
theorem flat_take (R : List (List Int)) (i : Nat) : (R.take i).flatten.length ≤ R.flatten.length := by
  conv => rhs; rw [← List.take_append_drop i R, List.flatten_append, List.length_append]
  omega
theorem row_le {R : List (List Int)} {i : Nat} (h : i < R.length) : (R.take i).flatten.length + R[i].length ≤ R.flatten.length := by
  conv => rhs; rw [← List.take_append_drop i R, List.drop_eq_getElem_cons h, List.flatten_append, List.flatten_cons, List.length_append, List.length_append]
  omega

theorem ent108 (hb : (ints s.R).flatten.length < 2 ^ 62) (hr : s.R.length < 2 ^ 62) (p : Int) : O.ent 108 [avS s, I p] [] [] = some ([I (cnt (ints s.R) p)], []) := by
  have b1 : boxO [] (AV.cells (avS s)) [] = some (.ptr 0 0, [bxS s]) := boxS s []
  have g0 : ([bxS s] : Heap)[0]? = some (bxS s) := rfl
  have hil : (ints s.R).length = s.R.length := by simp [ints]
  have hat : ∀ {i : Nat} (h : i < s.R.length), (ints s.R)[i]'(by omega) = s.R[i].2.2 := fun h => by simp [ints]
  have inner : ∀ (i : Nat) (hi : i < s.R.length) (c k : Nat), s.R[i].2.2.length - k = c → k ≤ s.R[i].2.2.length →
      L108_14 [I p, .ptr 0 0, I ((cnt ((ints s.R).take i) p + (s.R[i].2.2.take k).count p : Nat) : Int), I i, I k] [] [bxS s] = L108_8 [I p, .ptr 0 0, I (cnt ((ints s.R).take (i + 1)) p), I ((i + 1 : Nat) : Int)] [] [bxS s] := by
    intro i hi c
    have hc1 := cnt_take (R := ints s.R) (p := p) (i := i) (by omega)
    rw [hat hi] at hc1
    have hrow := row_le (R := ints s.R) (i := i) (by omega)
    rw [hat hi] at hrow
    have hw := idxW (nl := s.nr) (tg := s.tr) hi
    have hlw := ldW hi
    induction c with
    | zero =>
      intro k hc hk
      have : k = s.R[i].2.2.length := by omega
      subst this
      rw [List.take_length, ← hc1, L108_14_eq]
      simp only [fldA_ptr, ldR0 g0, hw, hlw, Int.lt_irrefl, obs, oms, bin_add, bin_sub, bin_lss, bin_leq, bin_gtr, bin_geq, bin_eql, bin_neq, bin_eqlB, bin_neqB, un_not, cond_B, gd_B, gd_undef, gdH_B, gdH_undef, pickA_B, extractA_tup, lenA_sl, lenA_row, fldA_fp, fldA_ptr, fldA_rptr, List.getElem?_cons_zero, List.getElem?_cons_succ, decide_true, decide_false, if_true, if_false, Bool.true_eq_false, Bool.false_eq_true, Bool.not_true, Bool.not_false]
      rw [wrap_id (by omega), nxt]
    | succ c ih =>
      intro k hc hk
      have hk' : k < s.R[i].2.2.length := by omega
      have hlt : (k : Int) < s.R[i].2.2.length := by omega
      have w : IntKind.i64.wrap ((k : Int) + 1) = ((k + 1 : Nat) : Int) := by rw [wrap_id (by omega), nxt]
      have hct := count_take (p := p) hk'
      have hle1 := cnt_le ((ints s.R).take i) p
      have hle2 : (s.R[i].2.2.take k).count p ≤ k := Nat.le_trans List.count_le_length (by simp; omega)
      have fin := ih (k + 1) (by omega) (by omega)
      rw [← fin, hct]
      conv => lhs; rw [L108_14_eq]
      by_cases he : s.R[i].2.2[k] = p
      · rw [if_pos he]
        have w2 : IntKind.i64.wrap (((cnt ((ints s.R).take i) p + (s.R[i].2.2.take k).count p : Nat) : Int) + 1) = ((cnt ((ints s.R).take i) p + ((s.R[i].2.2.take k).count p + 1) : Nat) : Int) := by rw [wrap_id (by omega)]; omega
        simp only [fldA_ptr, ldR0 g0, hw, hlw, hlt, idxV hk', ldV hk', he, w2, L108_17_eq, w, obs, oms, bin_add, bin_sub, bin_lss, bin_leq, bin_gtr, bin_geq, bin_eql, bin_neq, bin_eqlB, bin_neqB, un_not, cond_B, gd_B, gd_undef, gdH_B, gdH_undef, pickA_B, extractA_tup, lenA_sl, lenA_row, fldA_fp, fldA_ptr, fldA_rptr, List.getElem?_cons_zero, List.getElem?_cons_succ, decide_true, decide_false, if_true, if_false, Bool.true_eq_false, Bool.false_eq_true, Bool.not_true, Bool.not_false]
      · rw [if_neg he, Nat.add_zero]
        simp only [fldA_ptr, ldR0 g0, hw, hlw, hlt, idxV hk', ldV hk', he, L108_17_eq, w, obs, oms, bin_add, bin_sub, bin_lss, bin_leq, bin_gtr, bin_geq, bin_eql, bin_neq, bin_eqlB, bin_neqB, un_not, cond_B, gd_B, gd_undef, gdH_B, gdH_undef, pickA_B, extractA_tup, lenA_sl, lenA_row, fldA_fp, fldA_ptr, fldA_rptr, List.getElem?_cons_zero, List.getElem?_cons_succ, decide_true, decide_false, if_true, if_false, Bool.true_eq_false, Bool.false_eq_true, Bool.not_true, Bool.not_false]
  have outer : ∀ (c i : Nat), s.R.length - i = c → i ≤ s.R.length → L108_8 [I p, .ptr 0 0, I (cnt ((ints s.R).take i) p), I i] [] [bxS s] = some ([I (cnt (ints s.R) p)], []) := by
    intro c
    induction c with
    | zero =>
      intro i hc hi
      have : i = s.R.length := by omega
      subst this
      rw [List.take_of_length_le (by omega), L108_8_eq]
      simp only [fldA_ptr, ldR0 g0, Int.lt_irrefl, obs, oms, bin_add, bin_sub, bin_lss, bin_leq, bin_gtr, bin_geq, bin_eql, bin_neq, bin_eqlB, bin_neqB, un_not, cond_B, gd_B, gd_undef, gdH_B, gdH_undef, pickA_B, extractA_tup, lenA_sl, lenA_row, fldA_fp, fldA_ptr, fldA_rptr, List.getElem?_cons_zero, List.getElem?_cons_succ, decide_true, decide_false, if_true, if_false, Bool.true_eq_false, Bool.false_eq_true, Bool.not_true, Bool.not_false]
      rfl
    | succ c ih =>
      intro i hc hi
      have hi' : i < s.R.length := by omega
      have hlt : (i : Int) < s.R.length := by omega
      have e := inner i hi' s.R[i].2.2.length 0 rfl (by omega)
      rw [List.take_zero, List.count_nil, Nat.add_zero] at e
      rw [L108_8_eq]
      simp only [fldA_ptr, ldR0 g0, hlt, obs, oms, bin_add, bin_sub, bin_lss, bin_leq, bin_gtr, bin_geq, bin_eql, bin_neq, bin_eqlB, bin_neqB, un_not, cond_B, gd_B, gd_undef, gdH_B, gdH_undef, pickA_B, extractA_tup, lenA_sl, lenA_row, fldA_fp, fldA_ptr, fldA_rptr, List.getElem?_cons_zero, List.getElem?_cons_succ, decide_true, decide_false, if_true, if_false, Bool.true_eq_false, Bool.false_eq_true, Bool.not_true, Bool.not_false]
      exact e.trans (ih (i + 1) (by omega) (by omega))
  rw [f108_eq]
  simp only [b1, obs]
  exact outer s.R.length 0 rfl (by omega)
theorem call108 (hb : (ints s.R).flatten.length < 2 ^ 62) (hr : s.R.length < 2 ^ 62) (p : Int) (lo : List Nat) (H : Heap) : callA cfg O 108 [avS s, I p] lo H = some (I (cnt (ints s.R) p), H) := by
  refine callA_args (H' := []) (rs := [I (cnt (ints s.R) p)]) rfl ?_ (ent108 hb hr p) rfl
  have : ∀ xs : List PV, pureLeaves H (xs.map .p) = some (xs.map .p, false) := by
    intro xs
    induction xs with
    | nil => rfl
    | cons x xs ih => simp [pureLeaves, pureLeaf, ih]
  simp only [pureArgs, pureArg, avS, this, oms, obs]
  rfl
end
end Pa
end Go.Proofs.Ytkhbbjfdbbnojaa

set_option linter.unusedVariables false
set_option linter.unusedSimpArgs false
namespace Go.Proofs.Ytkhbbjfdbbnojaa
open Go Go.AM
namespace Pa

theorem rem_nat (k : IntKind) (a b : Nat) (hb : b ≠ 0) : bin .rem .int (.p (.v (.int k a))) (.p (.v (.int k b))) = some (.p (.v (.int k ((a % b : Nat) : Int)))) := by
  have : bin .rem .int (.p (.v (.int k a))) (.p (.v (.int k b))) = (if (isShift .rem || decide (k = k)) = true then (if (b : Int) = 0 then none else some (Value.int k ((a : Int).tmod b))).map fun v => AV.p (.v v) else none) := rfl
  rw [this, if_pos (by simp), if_neg (by omega)]
  simp [Int.tmod_eq_emod_of_nonneg]
theorem quo_nat (k : IntKind) (a b : Nat) (hb : b ≠ 0) : bin .quo .int (.p (.v (.int k a))) (.p (.v (.int k b))) = some (.p (.v (.int k (k.wrap ((a / b : Nat) : Int))))) := by
  have : bin .quo .int (.p (.v (.int k a))) (.p (.v (.int k b))) = (if (isShift .quo || decide (k = k)) = true then (if (b : Int) = 0 then none else some (Value.int k (k.wrap ((a : Int).tdiv b)))).map fun v => AV.p (.v v) else none) := rfl
  rw [this, if_pos (by simp), if_neg (by omega)]
  simp [Int.ofNat_tdiv]

section
variable {s : SD}

/-- The page that a stored number names; a negative one names the empty page. -/
def pgOf (P : List Pg) (x : Int) : Pg := if h : 0 ≤ x ∧ x.toNat < P.length then P[x.toNat] else zg

theorem pgOf_neg {P : List Pg} {x : Int} (h : ¬ 0 ≤ x) : pgOf P x = zg := dif_neg fun e => h e.1
theorem pgOf_nat {P : List Pg} {k : Nat} (h : k < P.length) : pgOf P (k : Int) = P[k] := by
  unfold pgOf
  rw [dif_pos ⟨by omega, by simpa using h⟩]
  simp

theorem arrNewG (H : Heap) : mkArr 1 [(.v (.int .i64 0)), (.v (.int .i64 0)), (.v (.int .i64 0)), (.v (.int .i64 0))] H = (.rptr H.length 0 0, H ++ [.row 0 1 [Ia 0, Ia 0, Ia 0, Ia 0]]) := _root_.id rfl
theorem arrSt (b : AObj) (p : Pg) : stA 4 (.rptr 1 0 0) (avG p) [] [b, .row 0 1 [Ia 0, Ia 0, Ia 0, Ia 0]] = some [b, .row 0 1 (encG p)] := by
  obtain ⟨x, y, z, w⟩ := p
  rfl
theorem arrLd (b : AObj) (p : Pg) : ld true 4 (.rptr 1 0 0) [b, .row 0 1 (encG p)] = some (avG p) := by
  obtain ⟨x, y, z, w⟩ := p
  rfl
theorem buildZ : buildA [(I 0), (I 0), (I 0), (I 0)] [] = some (avG zg) := by
  rfl

theorem ent103 (hl : ∀ d ∈ s.R, d.2.2.length < 2 ^ 63) {v a : Nat} (hv : v < s.R.length) (ha : a / 4 < s.R[v].2.2.length) (hx : s.R[v].2.2[a / 4] < s.P.length) :
    O.ent 103 [avS s, I v, I a] [] [] = some ([avG (pgOf s.P s.R[v].2.2[a / 4])], []) := by
  have b1 : boxO [] (AV.cells (avS s)) [] = some (.ptr 0 0, [bxS s]) := boxS s []
  have m1 : mkArr 1 [(.v (.int .i64 0)), (.v (.int .i64 0)), (.v (.int .i64 0)), (.v (.int .i64 0))] [bxS s] = (.rptr 1 0 0, [bxS s, .row 0 1 [Ia 0, Ia 0, Ia 0, Ia 0]]) := arrNewG [bxS s]
  have g0 : ([bxS s, .row 0 1 [Ia 0, Ia 0, Ia 0, Ia 0]] : Heap)[0]? = some (bxS s) := rfl
  have hrow := hl s.R[v] (List.getElem_mem hv)
  have hq : bin .quo .int (I a) (I 4) = some (I (a / 4 : Nat)) := by
    have := quo_nat .i64 a 4 (by omega)
    rw [wrap_id (by omega)] at this
    exact this
  rw [f103_eq]
  by_cases h0 : 0 ≤ s.R[v].2.2[a / 4]
  · obtain ⟨k, hk⟩ := Int.eq_ofNat_of_zero_le h0
    have hk' : k < s.P.length := by omega
    rw [hk, pgOf_nat hk']
    have hge : (0 : Int) ≤ (k : Int) := by omega
    simp only [b1, m1, fldA_ptr, ldR0 g0, ldP0 g0, idxW hv, ldW hv, hq, idxV ha, ldV ha, hk, hge, idxG hk', ldG hk', arrSt, arrLd, obs, oms, bin_add, bin_sub, bin_lss, bin_leq, bin_gtr, bin_geq, bin_eql, bin_neq, bin_eqlB, bin_neqB, un_not, cond_B, gd_B, gd_undef, gdH_B, gdH_undef, pickA_B, extractA_tup, lenA_sl, lenA_row, fldA_fp, fldA_ptr, fldA_rptr, List.getElem?_cons_zero, List.getElem?_cons_succ, decide_true, decide_false, if_true, if_false, Bool.true_eq_false, Bool.false_eq_true, Bool.not_true, Bool.not_false]
    rfl
  · rw [pgOf_neg h0]
    simp only [b1, m1, fldA_ptr, ldR0 g0, ldP0 g0, idxW hv, ldW hv, hq, idxV ha, ldV ha, h0, buildZ, arrSt, arrLd, obs, oms, bin_add, bin_sub, bin_lss, bin_leq, bin_gtr, bin_geq, bin_eql, bin_neq, bin_eqlB, bin_neqB, un_not, cond_B, gd_B, gd_undef, gdH_B, gdH_undef, pickA_B, extractA_tup, lenA_sl, lenA_row, fldA_fp, fldA_ptr, fldA_rptr, List.getElem?_cons_zero, List.getElem?_cons_succ, decide_true, decide_false, if_true, if_false, Bool.true_eq_false, Bool.false_eq_true, Bool.not_true, Bool.not_false]
    rfl
end
end Pa
end Go.Proofs.Ytkhbbjfdbbnojaa

set_option linter.unusedVariables false
set_option linter.unusedSimpArgs false
namespace Go.Proofs.Ytkhbbjfdbbnojaa
open Go Go.AM
namespace Pa

section
variable {s : SD}

/-- A page's cell. -/
def cG (p : Pg) : Nat → Int
  | 0 => p.1
  | 1 => p.2.1
  | 2 => p.2.2.1
  | _ => p.2.2.2
theorem cG_zg (j : Nat) : cG zg j = 0 := by
  match j with
  | 0 => rfl
  | 1 => rfl
  | 2 => rfl
  | _ + 3 => rfl
theorem encG_get (p : Pg) {j : Nat} (h : j < 4) : ((encG p)[j]?).map AV.p = some (I (cG p j)) := by
  obtain ⟨x, y, z, w⟩ := p
  match j, h with
  | 0, _ => rfl
  | 1, _ => rfl
  | 2, _ => rfl
  | 3, _ => rfl
theorem arrC (xs : List PV) (o : Nat) {j : Nat} (h : j < 4) : idxArr 1 4 (.fp xs o) (I j) = some (.fp xs (o + j)) := by
  simp only [idxArr]
  rw [if_pos ⟨by omega, by omega⟩]
  simp
theorem ldC {l : List Pg} {i j : Nat} (h : i < l.length) (hj : j < 4) (H : Heap) : ld false 1 (.fp (l.flatMap encG) (i * 4 + j)) H = some (I (cG l[i] j)) := by
  rw [fldR len4 h hj, encG_get _ hj]

theorem ent46 {v a : Nat} (hl : ∀ d ∈ s.R, d.2.2.length < 2 ^ 63) (hv : v < s.R.length) (ha : a / 4 < s.R[v].2.2.length) (hx : s.R[v].2.2[a / 4] < s.P.length) :
    O.ent 46 [avS s, I v, I a] [] [] = some ([I (cG (pgOf s.P s.R[v].2.2[a / 4]) (a % 4))], []) := by
  have b1 : boxO [] (AV.cells (avS s)) [] = some (.ptr 0 0, [bxS s]) := boxS s []
  have g0 : ([bxS s] : Heap)[0]? = some (bxS s) := rfl
  have hrow := hl s.R[v] (List.getElem_mem hv)
  have hq : bin .quo .int (I a) (I 4) = some (I (a / 4 : Nat)) := by
    have := quo_nat .i64 a 4 (by omega)
    rw [wrap_id (by omega)] at this
    exact this
  have hr : bin .rem .int (I a) (I 4) = some (I (a % 4 : Nat)) := rem_nat .i64 a 4 (by omega)
  have hm : a % 4 < 4 := Nat.mod_lt _ (by omega)
  rw [f46_eq]
  by_cases h0 : 0 ≤ s.R[v].2.2[a / 4]
  · obtain ⟨k, hk⟩ := Int.eq_ofNat_of_zero_le h0
    have hk' : k < s.P.length := by omega
    rw [hk, pgOf_nat hk']
    have hge : ¬ ((k : Int) < 0) := by omega
    simp only [b1, fldA_ptr, ldR0 g0, ldP0 g0, idxW hv, ldW hv, hq, hr, idxV ha, ldV ha, hk, hge, idxG hk', arrC _ _ hm, ldC hk' hm, obs, oms, bin_add, bin_sub, bin_lss, bin_leq, bin_gtr, bin_geq, bin_eql, bin_neq, bin_eqlB, bin_neqB, un_not, cond_B, gd_B, gd_undef, gdH_B, gdH_undef, pickA_B, extractA_tup, lenA_sl, lenA_row, fldA_fp, fldA_ptr, fldA_rptr, List.getElem?_cons_zero, List.getElem?_cons_succ, decide_true, decide_false, if_true, if_false, Bool.true_eq_false, Bool.false_eq_true, Bool.not_true, Bool.not_false]
    rfl
  · rw [pgOf_neg h0, cG_zg]
    have h0' : s.R[v].2.2[a / 4] < 0 := by omega
    simp only [b1, fldA_ptr, ldR0 g0, ldP0 g0, idxW hv, ldW hv, hq, hr, idxV ha, ldV ha, h0', obs, oms, bin_add, bin_sub, bin_lss, bin_leq, bin_gtr, bin_geq, bin_eql, bin_neq, bin_eqlB, bin_neqB, un_not, cond_B, gd_B, gd_undef, gdH_B, gdH_undef, pickA_B, extractA_tup, lenA_sl, lenA_row, fldA_fp, fldA_ptr, fldA_rptr, List.getElem?_cons_zero, List.getElem?_cons_succ, decide_true, decide_false, if_true, if_false, Bool.true_eq_false, Bool.false_eq_true, Bool.not_true, Bool.not_false]
    rfl

/-! ### What a store must be -/
def okX (n : Nat) (x : Int) : Prop := -1 ≤ x ∧ x ≤ (n : Int) - 1
def okRow (n : Nat) (r : List Int) : Prop := (r.length = 0 ∨ r.length = 16) ∧ ∀ x ∈ r, okX n x
def okAt (s : SD) (j : Nat) : Prop := s.U[j]? = some ((cnt (ints s.R) j : Nat) : Int) ∧ (s.P[j]? = some zg ↔ cnt (ints s.R) j = 0)
/-- Nought for a law that holds, three for one that does not. -/
noncomputable def er (p : Prop) : Int := if dec p = true then 0 else 3
theorem er_t {p : Prop} (h : p) : er p = 0 := if_pos (dec_iff.mpr h)
theorem er_f {p : Prop} (h : ¬ p) : er p = 3 := if_neg fun e => h (dec_iff.mp e)
theorem er_congr {p q : Prop} (h : p ↔ q) : er p = er q := by rw [er, er, dec_congr h]

theorem pg_ext {p : Pg} : p = zg ↔ cG p 0 = 0 ∧ cG p 1 = 0 ∧ cG p 2 = 0 ∧ cG p 3 = 0 := by
  obtain ⟨x, y, z, w⟩ := p
  simp [cG, zg]

theorem loop34 (hu : s.U.length = s.P.length) (hp : s.P.length < 2 ^ 62) (hb : (ints s.R).flatten.length < 2 ^ 62) (hr : s.R.length < 2 ^ 62) :
    ∀ (c i : Nat), s.P.length - i = c → i ≤ s.P.length → L44_34 [.ptr 0 0, I i] [] [bxS s] = some ([I (er (∀ j, i ≤ j → j < s.P.length → okAt s j))], []) := by
  have g0 : ([bxS s] : Heap)[0]? = some (bxS s) := rfl
  intro c
  induction c with
  | zero =>
    intro i hc hi
    have : i = s.P.length := by omega
    subst this
    rw [er_t (fun j h1 h2 => absurd h2 (by omega)), L44_34_eq]
    simp only [fldA_ptr, ldP0 g0, Int.lt_irrefl, obs, oms, bin_add, bin_sub, bin_lss, bin_leq, bin_gtr, bin_geq, bin_eql, bin_neq, bin_eqlB, bin_neqB, un_not, cond_B, gd_B, gd_undef, gdH_B, gdH_undef, pickA_B, extractA_tup, lenA_sl, lenA_row, fldA_fp, fldA_ptr, fldA_rptr, List.getElem?_cons_zero, List.getElem?_cons_succ, decide_true, decide_false, if_true, if_false, Bool.true_eq_false, Bool.false_eq_true, Bool.not_true, Bool.not_false]
    rfl
  | succ c ih =>
    intro i hc hi'
    have hi : i < s.P.length := by omega
    have hlt : (i : Int) < s.P.length := by omega
    have hiu : i < s.U.length := by omega
    have w : IntKind.i64.wrap ((i : Int) + 1) = ((i + 1 : Nat) : Int) := by rw [wrap_id (by omega), nxt]
    have hat : okAt s i ↔ s.U[i] = ((cnt (ints s.R) i : Nat) : Int) ∧ (s.P[i] = zg ↔ cnt (ints s.R) i = 0) := by
      unfold okAt
      rw [List.getElem?_eq_getElem hiu, List.getElem?_eq_getElem hi, Option.some.injEq, Option.some.injEq]
    have a0 := arrC (s.P.flatMap encG) (i * 4) (j := 0) (by omega)
    have a1 := arrC (s.P.flatMap encG) (i * 4) (j := 1) (by omega)
    have a2 := arrC (s.P.flatMap encG) (i * 4) (j := 2) (by omega)
    have a3 := arrC (s.P.flatMap encG) (i * 4) (j := 3) (by omega)
    have l0 := ldC (j := 0) hi (by omega) [bxS s]
    have l1 := ldC (j := 1) hi (by omega) [bxS s]
    have l2 := ldC (j := 2) hi (by omega) [bxS s]
    have l3 := ldC (j := 3) hi (by omega) [bxS s]
    have c8 := call108 hb hr (i : Int) [] [bxS s]
    have z0 : I ((0 : Nat) : Int) = I 0 := rfl
    have z1 : I ((1 : Nat) : Int) = I 1 := rfl
    have z2 : I ((2 : Nat) : Int) = I 2 := rfl
    have z3 : I ((3 : Nat) : Int) = I 3 := rfl
    rw [z0] at a0
    rw [z1] at a1
    rw [z2] at a2
    rw [z3] at a3
    have hz := pg_ext (p := s.P[i])
    have fin := ih (i + 1) (by omega) (by omega)
    have hgo : okAt s i → ((∀ j, i + 1 ≤ j → j < s.P.length → okAt s j) ↔ ∀ j, i ≤ j → j < s.P.length → okAt s j) := fun h =>
      ⟨fun g j h1 h2 => if e : j = i then e ▸ h else g j (by omega) h2, fun g j h1 h2 => g j (by omega) h2⟩
    rw [L44_34_eq]
    by_cases hU : s.U[i] = ((cnt (ints s.R) i : Nat) : Int)
    · by_cases hc0 : cnt (ints s.R) i = 0
      · have hn : ((cnt (ints s.R) i : Nat) : Int) = 0 := by omega
        by_cases e0 : cG s.P[i] 0 = 0 <;> by_cases e1 : cG s.P[i] 1 = 0 <;> by_cases e2 : cG s.P[i] 2 = 0 <;> by_cases e3 : cG s.P[i] 3 = 0
        case pos => 
          rw [er_congr (hgo (hat.mpr ⟨hU, by simp [hz, e0, e1, e2, e3, hc0]⟩))] at fin
          simp only [fldA_ptr, ldP0 g0, ldU0 g0, ldS0 g0, c8, hlt, idxG hi, idxV hiu, ldV hiu, hU, hn, a0, a1, a2, a3, l0, l1, l2, l3, e0, e1, e2, e3, w, obs, oms, bin_add, bin_sub, bin_lss, bin_leq, bin_gtr, bin_geq, bin_eql, bin_neq, bin_eqlB, bin_neqB, un_not, cond_B, gd_B, gd_undef, gdH_B, gdH_undef, pickA_B, extractA_tup, lenA_sl, lenA_row, fldA_fp, fldA_ptr, fldA_rptr, List.getElem?_cons_zero, List.getElem?_cons_succ, decide_true, decide_false, if_true, if_false, Bool.true_eq_false, Bool.false_eq_true, Bool.not_true, Bool.not_false]
          exact fin
        all_goals
          rw [er_f fun h => by have := (hat.mp (h i (by omega) hi)).2.mpr hc0; rw [hz] at this; omega]
          simp only [fldA_ptr, ldP0 g0, ldU0 g0, ldS0 g0, c8, hlt, idxG hi, idxV hiu, ldV hiu, hU, hn, a0, a1, a2, a3, l0, l1, l2, l3, e0, e1, e2, e3, w, obs, oms, bin_add, bin_sub, bin_lss, bin_leq, bin_gtr, bin_geq, bin_eql, bin_neq, bin_eqlB, bin_neqB, un_not, cond_B, gd_B, gd_undef, gdH_B, gdH_undef, pickA_B, extractA_tup, lenA_sl, lenA_row, fldA_fp, fldA_ptr, fldA_rptr, List.getElem?_cons_zero, List.getElem?_cons_succ, decide_true, decide_false, if_true, if_false, Bool.true_eq_false, Bool.false_eq_true, Bool.not_true, Bool.not_false]
          rfl
      · have hn : ¬ ((cnt (ints s.R) i : Nat) : Int) = 0 := by omega
        by_cases e0 : cG s.P[i] 0 = 0 <;> by_cases e1 : cG s.P[i] 1 = 0 <;> by_cases e2 : cG s.P[i] 2 = 0 <;> by_cases e3 : cG s.P[i] 3 = 0
        case pos =>
          rw [er_f fun h => hc0 ((hat.mp (h i (by omega) hi)).2.mp (hz.mpr ⟨e0, e1, e2, e3⟩))]
          simp only [fldA_ptr, ldP0 g0, ldU0 g0, ldS0 g0, c8, hlt, idxG hi, idxV hiu, ldV hiu, hU, hn, a0, a1, a2, a3, l0, l1, l2, l3, e0, e1, e2, e3, w, obs, oms, bin_add, bin_sub, bin_lss, bin_leq, bin_gtr, bin_geq, bin_eql, bin_neq, bin_eqlB, bin_neqB, un_not, cond_B, gd_B, gd_undef, gdH_B, gdH_undef, pickA_B, extractA_tup, lenA_sl, lenA_row, fldA_fp, fldA_ptr, fldA_rptr, List.getElem?_cons_zero, List.getElem?_cons_succ, decide_true, decide_false, if_true, if_false, Bool.true_eq_false, Bool.false_eq_true, Bool.not_true, Bool.not_false]
          rfl
        all_goals
          rw [er_congr (hgo (hat.mpr ⟨hU, by rw [hz]; exact ⟨fun e => absurd e (by omega), fun e => absurd e hc0⟩⟩))] at fin
          simp only [fldA_ptr, ldP0 g0, ldU0 g0, ldS0 g0, c8, hlt, idxG hi, idxV hiu, ldV hiu, hU, hn, a0, a1, a2, a3, l0, l1, l2, l3, e0, e1, e2, e3, w, obs, oms, bin_add, bin_sub, bin_lss, bin_leq, bin_gtr, bin_geq, bin_eql, bin_neq, bin_eqlB, bin_neqB, un_not, cond_B, gd_B, gd_undef, gdH_B, gdH_undef, pickA_B, extractA_tup, lenA_sl, lenA_row, fldA_fp, fldA_ptr, fldA_rptr, List.getElem?_cons_zero, List.getElem?_cons_succ, decide_true, decide_false, if_true, if_false, Bool.true_eq_false, Bool.false_eq_true, Bool.not_true, Bool.not_false]
          exact fin
    · rw [er_f fun h => hU (hat.mp (h i (by omega) hi)).1]
      by_cases e0 : cG s.P[i] 0 = 0 <;> by_cases e1 : cG s.P[i] 1 = 0 <;> by_cases e2 : cG s.P[i] 2 = 0 <;>
        simp only [fldA_ptr, ldP0 g0, ldU0 g0, ldS0 g0, c8, hlt, idxG hi, idxV hiu, ldV hiu, hU, a0, a1, a2, a3, l0, l1, l2, l3, e0, e1, e2, w, obs, oms, bin_add, bin_sub, bin_lss, bin_leq, bin_gtr, bin_geq, bin_eql, bin_neq, bin_eqlB, bin_neqB, un_not, cond_B, gd_B, gd_undef, gdH_B, gdH_undef, pickA_B, extractA_tup, lenA_sl, lenA_row, fldA_fp, fldA_ptr, fldA_rptr, List.getElem?_cons_zero, List.getElem?_cons_succ, decide_true, decide_false, if_true, if_false, Bool.true_eq_false, Bool.false_eq_true, Bool.not_true, Bool.not_false] <;> rfl
end
end Pa
end Go.Proofs.Ytkhbbjfdbbnojaa

set_option linter.unusedVariables false
set_option linter.unusedSimpArgs false
namespace Go.Proofs.Ytkhbbjfdbbnojaa
open Go Go.AM
namespace Pa

section
variable {s : SD}

theorem loop24 (hp : s.P.length < 2 ^ 62) (hl : ∀ d ∈ s.R, d.2.2.length < 2 ^ 63) (hr : s.R.length < 2 ^ 62) {i : Nat} (hi : i < s.R.length) :
    ∀ (c k : Nat), s.R[i].2.2.length - k = c → k ≤ s.R[i].2.2.length → L44_24 [.ptr 0 0, I i, I k] [] [bxS s] =
      if dec (∀ x ∈ s.R[i].2.2.drop k, okX s.P.length x) = true then L44_14 [.ptr 0 0, I ((i + 1 : Nat) : Int)] [] [bxS s] else some ([I 3], []) := by
  have g0 : ([bxS s] : Heap)[0]? = some (bxS s) := rfl
  have hrow := hl s.R[i] (List.getElem_mem hi)
  have hw := idxW (nl := s.nr) (tg := s.tr) hi
  have hlw := ldW hi
  have w1 : IntKind.i64.wrap ((s.P.length : Int) - 1) = (s.P.length : Int) - 1 := wrap_id (by omega)
  intro c
  induction c with
  | zero =>
    intro k hc hk
    have : k = s.R[i].2.2.length := by omega
    subst this
    rw [if_pos (dec_iff.mpr (by rw [List.drop_length]; simp)), L44_24_eq]
    simp only [fldA_ptr, ldR0 g0, hw, hlw, Int.lt_irrefl, obs, oms, bin_add, bin_sub, bin_lss, bin_leq, bin_gtr, bin_geq, bin_eql, bin_neq, bin_eqlB, bin_neqB, un_not, cond_B, gd_B, gd_undef, gdH_B, gdH_undef, pickA_B, extractA_tup, lenA_sl, lenA_row, fldA_fp, fldA_ptr, fldA_rptr, List.getElem?_cons_zero, List.getElem?_cons_succ, decide_true, decide_false, if_true, if_false, Bool.true_eq_false, Bool.false_eq_true, Bool.not_true, Bool.not_false]
    rw [wrap_id (by omega), nxt]
  | succ c ih =>
    intro k hc hk
    have hk' : k < s.R[i].2.2.length := by omega
    have hlt : (k : Int) < s.R[i].2.2.length := by omega
    have w : IntKind.i64.wrap ((k : Int) + 1) = ((k + 1 : Nat) : Int) := by rw [wrap_id (by omega), nxt]
    have hd : (∀ x ∈ s.R[i].2.2.drop k, okX s.P.length x) ↔ okX s.P.length s.R[i].2.2[k] ∧ ∀ x ∈ s.R[i].2.2.drop (k + 1), okX s.P.length x := by
      rw [List.drop_eq_getElem_cons hk', List.forall_mem_cons]
    have c83 := call83 s.R[i].2.2[k] (-1) ((s.P.length : Int) - 1) [] [bxS s]
    have fin := ih (k + 1) (by omega) (by omega)
    rw [L44_24_eq]
    by_cases ho : okX s.P.length s.R[i].2.2[k]
    · have hand : (decide ((-1 : Int) ≤ s.R[i].2.2[k]) && decide (s.R[i].2.2[k] ≤ (s.P.length : Int) - 1)) = true := by
        rw [decide_eq_true ho.1, decide_eq_true ho.2]; rfl
      rw [hand] at c83
      rw [dec_congr (show (∀ x ∈ s.R[i].2.2.drop (k + 1), okX s.P.length x) ↔ ∀ x ∈ s.R[i].2.2.drop k, okX s.P.length x from by rw [hd]; exact ⟨fun h => ⟨ho, h⟩, fun h => h.2⟩)] at fin
      simp only [fldA_ptr, ldR0 g0, ldP0 g0, hw, hlw, hlt, idxV hk', ldV hk', w1, c83, w, obs, oms, bin_add, bin_sub, bin_lss, bin_leq, bin_gtr, bin_geq, bin_eql, bin_neq, bin_eqlB, bin_neqB, un_not, cond_B, gd_B, gd_undef, gdH_B, gdH_undef, pickA_B, extractA_tup, lenA_sl, lenA_row, fldA_fp, fldA_ptr, fldA_rptr, List.getElem?_cons_zero, List.getElem?_cons_succ, decide_true, decide_false, if_true, if_false, Bool.true_eq_false, Bool.false_eq_true, Bool.not_true, Bool.not_false]
      exact fin
    · have hand : (decide ((-1 : Int) ≤ s.R[i].2.2[k]) && decide (s.R[i].2.2[k] ≤ (s.P.length : Int) - 1)) = false := by
        cases hh : (decide ((-1 : Int) ≤ s.R[i].2.2[k]) && decide (s.R[i].2.2[k] ≤ (s.P.length : Int) - 1)) with
        | false => rfl
        | true =>
          rw [Bool.and_eq_true, decide_eq_true_iff, decide_eq_true_iff] at hh
          exact absurd hh ho
      rw [hand] at c83
      rw [if_neg fun e => ho (hd.mp (dec_iff.mp e)).1]
      simp only [fldA_ptr, ldR0 g0, ldP0 g0, hw, hlw, hlt, idxV hk', ldV hk', w1, c83, w, obs, oms, bin_add, bin_sub, bin_lss, bin_leq, bin_gtr, bin_geq, bin_eql, bin_neq, bin_eqlB, bin_neqB, un_not, cond_B, gd_B, gd_undef, gdH_B, gdH_undef, pickA_B, extractA_tup, lenA_sl, lenA_row, fldA_fp, fldA_ptr, fldA_rptr, List.getElem?_cons_zero, List.getElem?_cons_succ, decide_true, decide_false, if_true, if_false, Bool.true_eq_false, Bool.false_eq_true, Bool.not_true, Bool.not_false]
      rfl

def okR (s : SD) : Prop := ∀ r ∈ ints s.R, okRow s.P.length r
def okU (s : SD) : Prop := ∀ j, 0 ≤ j → j < s.P.length → okAt s j

theorem flat_le {n m : Nat} : ∀ {R : List (List Int)}, (∀ r ∈ R, okRow n r) → R.length ≤ m → R.flatten.length ≤ 16 * m
  | [], _, _ => by simp
  | r :: R, h, hm => by
    rw [List.flatten_cons, List.length_append]
    cases m with
    | zero => simp at hm
    | succ m =>
      have := flat_le (n := n) (m := m) (R := R) (fun x hx => h x (List.mem_cons_of_mem _ hx)) (by simpa using hm)
      have h1 := (h r List.mem_cons_self).1
      omega

theorem loop14 (hu : s.U.length = s.P.length) (hp : s.P.length < 2 ^ 62) (hl : ∀ d ∈ s.R, d.2.2.length < 2 ^ 63) (hr : s.R.length ≤ 40) :
    ∀ (c i : Nat), s.R.length - i = c → i ≤ s.R.length → (∀ r ∈ (ints s.R).take i, okRow s.P.length r) → L44_14 [.ptr 0 0, I i] [] [bxS s] = some ([I (er (okR s ∧ okU s))], []) := by
  have g0 : ([bxS s] : Heap)[0]? = some (bxS s) := rfl
  have hil : (ints s.R).length = s.R.length := by simp [ints]
  intro c
  induction c with
  | zero =>
    intro i hc hi hpre
    have : i = s.R.length := by omega
    subst this
    rw [List.take_of_length_le (by omega)] at hpre
    have hb : (ints s.R).flatten.length < 2 ^ 62 := by
      have := flat_le hpre (m := 40) (by omega)
      omega
    have fin := loop34 hu hp hb (by omega) s.P.length 0 rfl (by omega)
    rw [er_congr (show okU s ↔ okR s ∧ okU s from ⟨fun h => ⟨hpre, h⟩, fun h => h.2⟩).symm, L44_14_eq]
    simp only [fldA_ptr, ldR0 g0, Int.lt_irrefl, obs, oms, bin_add, bin_sub, bin_lss, bin_leq, bin_gtr, bin_geq, bin_eql, bin_neq, bin_eqlB, bin_neqB, un_not, cond_B, gd_B, gd_undef, gdH_B, gdH_undef, pickA_B, extractA_tup, lenA_sl, lenA_row, fldA_fp, fldA_ptr, fldA_rptr, List.getElem?_cons_zero, List.getElem?_cons_succ, decide_true, decide_false, if_true, if_false, Bool.true_eq_false, Bool.false_eq_true, Bool.not_true, Bool.not_false]
    exact fin
  | succ c ih =>
    intro i hc hi' hpre
    have hi : i < s.R.length := by omega
    have hlt : (i : Int) < s.R.length := by omega
    have hw := idxW (nl := s.nr) (tg := s.tr) hi
    have hlw := ldW hi
    have hat : (ints s.R)[i]'(by omega) = s.R[i].2.2 := by simp [ints]
    have hmem : s.R[i].2.2 ∈ ints s.R := hat ▸ List.getElem_mem _
    have inn := loop24 hp hl (by omega) hi s.R[i].2.2.length 0 rfl (by omega)
    rw [List.drop_zero] at inn
    have good : (s.R[i].2.2.length = 0 ∨ s.R[i].2.2.length = 16) → L44_24 [.ptr 0 0, I i, I 0] [] [bxS s] = some ([I (er (okR s ∧ okU s))], []) := by
      intro hlen
      refine inn.trans ?_
      by_cases hx : ∀ x ∈ s.R[i].2.2, okX s.P.length x
      · rw [if_pos (dec_iff.mpr hx)]
        refine ih (i + 1) (by omega) (by omega) ?_
        rw [List.take_add_one, List.getElem?_eq_getElem (by omega : i < (ints s.R).length), hat]
        intro r hr'
        rcases List.mem_append.mp hr' with h | h
        · exact hpre r h
        · simp at h
          subst h
          exact ⟨hlen, hx⟩
      · rw [if_neg fun e => hx (dec_iff.mp e), er_f fun h => hx (h.1 _ hmem).2]
    rw [L44_14_eq]
    by_cases h0 : (s.R[i].2.2.length : Int) = 0
    · simp only [fldA_ptr, ldR0 g0, hw, hlw, hlt, h0, obs, oms, bin_add, bin_sub, bin_lss, bin_leq, bin_gtr, bin_geq, bin_eql, bin_neq, bin_eqlB, bin_neqB, un_not, cond_B, gd_B, gd_undef, gdH_B, gdH_undef, pickA_B, extractA_tup, lenA_sl, lenA_row, fldA_fp, fldA_ptr, fldA_rptr, List.getElem?_cons_zero, List.getElem?_cons_succ, decide_true, decide_false, if_true, if_false, Bool.true_eq_false, Bool.false_eq_true, Bool.not_true, Bool.not_false]
      exact good (by omega)
    · by_cases h16 : (s.R[i].2.2.length : Int) = 16
      · have h160 : ¬ ((16 : Int) = 0) := by omega
        simp only [fldA_ptr, ldR0 g0, hw, hlw, hlt, h16, h160, obs, oms, bin_add, bin_sub, bin_lss, bin_leq, bin_gtr, bin_geq, bin_eql, bin_neq, bin_eqlB, bin_neqB, un_not, cond_B, gd_B, gd_undef, gdH_B, gdH_undef, pickA_B, extractA_tup, lenA_sl, lenA_row, fldA_fp, fldA_ptr, fldA_rptr, List.getElem?_cons_zero, List.getElem?_cons_succ, decide_true, decide_false, if_true, if_false, Bool.true_eq_false, Bool.false_eq_true, Bool.not_true, Bool.not_false]
        exact good (by omega)
      · rw [er_f fun h => by have := (h.1 _ hmem).1; omega]
        simp only [fldA_ptr, ldR0 g0, hw, hlw, hlt, h0, h16, obs, oms, bin_add, bin_sub, bin_lss, bin_leq, bin_gtr, bin_geq, bin_eql, bin_neq, bin_eqlB, bin_neqB, un_not, cond_B, gd_B, gd_undef, gdH_B, gdH_undef, pickA_B, extractA_tup, lenA_sl, lenA_row, fldA_fp, fldA_ptr, fldA_rptr, List.getElem?_cons_zero, List.getElem?_cons_succ, decide_true, decide_false, if_true, if_false, Bool.true_eq_false, Bool.false_eq_true, Bool.not_true, Bool.not_false]
        rfl

/-- What both checks answer. -/
noncomputable def chk (s : SD) : Int := if s.P.length > 400 ∨ s.R.length > 40 then 2 else if s.U.length ≠ s.P.length then 3 else er (okR s ∧ okU s)

theorem ent44 (hl : ∀ d ∈ s.R, d.2.2.length < 2 ^ 63) : O.ent 44 [avS s] [] [] = some ([I (chk s)], []) := by
  have b1 : boxO [] (AV.cells (avS s)) [] = some (.ptr 0 0, [bxS s]) := boxS s []
  have g0 : ([bxS s] : Heap)[0]? = some (bxS s) := rfl
  unfold chk
  rw [f44_eq]
  by_cases h1 : s.P.length > 400
  · rw [if_pos (Or.inl h1)]
    have h1' : (400 : Int) < s.P.length := by omega
    simp only [b1, fldA_ptr, ldP0 g0, ldR0 g0, h1', obs, oms, bin_add, bin_sub, bin_lss, bin_leq, bin_gtr, bin_geq, bin_eql, bin_neq, bin_eqlB, bin_neqB, un_not, cond_B, gd_B, gd_undef, gdH_B, gdH_undef, pickA_B, extractA_tup, lenA_sl, lenA_row, fldA_fp, fldA_ptr, fldA_rptr, List.getElem?_cons_zero, List.getElem?_cons_succ, decide_true, decide_false, if_true, if_false, Bool.true_eq_false, Bool.false_eq_true, Bool.not_true, Bool.not_false]
    rfl
  · have h1' : ¬ (400 : Int) < s.P.length := by omega
    by_cases h2 : s.R.length > 40
    · rw [if_pos (Or.inr h2)]
      have h2' : (40 : Int) < s.R.length := by omega
      simp only [b1, fldA_ptr, ldP0 g0, ldR0 g0, h1', h2', obs, oms, bin_add, bin_sub, bin_lss, bin_leq, bin_gtr, bin_geq, bin_eql, bin_neq, bin_eqlB, bin_neqB, un_not, cond_B, gd_B, gd_undef, gdH_B, gdH_undef, pickA_B, extractA_tup, lenA_sl, lenA_row, fldA_fp, fldA_ptr, fldA_rptr, List.getElem?_cons_zero, List.getElem?_cons_succ, decide_true, decide_false, if_true, if_false, Bool.true_eq_false, Bool.false_eq_true, Bool.not_true, Bool.not_false]
      rfl
    · have h2' : ¬ (40 : Int) < s.R.length := by omega
      rw [if_neg (by omega)]
      by_cases h3 : s.U.length = s.P.length
      · rw [if_neg (by simp [h3])]
        have h3' : (s.U.length : Int) = s.P.length := by omega
        have fin := loop14 h3 (by omega) hl (by omega) s.R.length 0 rfl (by omega) (by simp)
        simp only [b1, fldA_ptr, ldP0 g0, ldU0 g0, ldR0 g0, h1', h2', h3', obs, oms, bin_add, bin_sub, bin_lss, bin_leq, bin_gtr, bin_geq, bin_eql, bin_neq, bin_eqlB, bin_neqB, un_not, cond_B, gd_B, gd_undef, gdH_B, gdH_undef, pickA_B, extractA_tup, lenA_sl, lenA_row, fldA_fp, fldA_ptr, fldA_rptr, List.getElem?_cons_zero, List.getElem?_cons_succ, decide_true, decide_false, if_true, if_false, Bool.true_eq_false, Bool.false_eq_true, Bool.not_true, Bool.not_false]
        exact fin
      · rw [if_pos h3]
        have h3' : ¬ (s.U.length : Int) = s.P.length := by omega
        simp only [b1, fldA_ptr, ldP0 g0, ldU0 g0, ldR0 g0, h1', h2', h3', obs, oms, bin_add, bin_sub, bin_lss, bin_leq, bin_gtr, bin_geq, bin_eql, bin_neq, bin_eqlB, bin_neqB, un_not, cond_B, gd_B, gd_undef, gdH_B, gdH_undef, pickA_B, extractA_tup, lenA_sl, lenA_row, fldA_fp, fldA_ptr, fldA_rptr, List.getElem?_cons_zero, List.getElem?_cons_succ, decide_true, decide_false, if_true, if_false, Bool.true_eq_false, Bool.false_eq_true, Bool.not_true, Bool.not_false]
        rfl
end
end Pa
end Go.Proofs.Ytkhbbjfdbbnojaa

set_option linter.unusedVariables false
set_option linter.unusedSimpArgs false
namespace Go.Proofs.Ytkhbbjfdbbnojaa
open Go Go.AM
namespace Pa

section
variable {s : SD}

theorem pureS (H : Heap) : pureArgs H [avS s] = some ([avS s], false) := by
  have : ∀ xs : List PV, pureLeaves H (xs.map .p) = some (xs.map .p, false) := by
    intro xs
    induction xs with
    | nil => rfl
    | cons x xs ih => simp [pureLeaves, pureLeaf, ih]
  simp only [pureArgs, pureArg, avS, this, oms, obs]
  rfl
theorem call44 (hl : ∀ d ∈ s.R, d.2.2.length < 2 ^ 63) (lo : List Nat) (H : Heap) : callA cfg O 44 [avS s] lo H = some (I (chk s), H) :=
  callA_args (H' := []) (rs := [I (chk s)]) rfl (pureS H) (ent44 hl) rfl

theorem chk0 (h : chk s = 0) : s.P.length ≤ 400 ∧ s.R.length ≤ 40 ∧ s.U.length = s.P.length ∧ okR s ∧ okU s := by
  unfold chk at h
  by_cases h1 : s.P.length > 400 ∨ s.R.length > 40
  · rw [if_pos h1] at h; omega
  · rw [if_neg h1] at h
    by_cases h2 : s.U.length ≠ s.P.length
    · rw [if_pos h2] at h; omega
    · rw [if_neg h2] at h
      refine ⟨by omega, by omega, by simpa using h2, ?_⟩
      by_cases h3 : okR s ∧ okU s
      · exact h3
      · rw [er_f h3] at h; omega

/-- A root that names a version that stands. -/
def stands (R : List Dd) (r : Int) : Prop := ∃ k : Nat, r = (k : Int) ∧ ∃ h : k < R.length, R[k].2.2.length ≠ 0
/-- What PagesThere answers. -/
noncomputable def thr (s : SD) (r : Int) : Int := if chk s = 0 ∧ dec (stands s.R r) = false then 5 else chk s

theorem ent45 (hl : ∀ d ∈ s.R, d.2.2.length < 2 ^ 63) (r : Int) : O.ent 45 [avS s, I r] [] [] = some ([I (thr s r)], []) := by
  have b1 : boxO [] (AV.cells (avS s)) [] = some (.ptr 0 0, [bxS s]) := boxS s []
  have g0 : ([bxS s] : Heap)[0]? = some (bxS s) := rfl
  have c44 := call44 hl [] [bxS s]
  rw [f45_eq]
  unfold thr
  by_cases h : chk s = 0
  · obtain ⟨hp, hr, -⟩ := chk0 h
    rw [h] at c44
    have w1 : IntKind.i64.wrap ((s.R.length : Int) - 1) = (s.R.length : Int) - 1 := wrap_id (by omega)
    have c83 := call83 r 0 ((s.R.length : Int) - 1) [] [bxS s]
    by_cases hk : ∃ k : Nat, r = (k : Int) ∧ k < s.R.length
    · obtain ⟨k, e, hk⟩ := hk
      subst e
      have hand : (decide ((0 : Int) ≤ (k : Int)) && decide ((k : Int) ≤ (s.R.length : Int) - 1)) = true := by
        rw [decide_eq_true (by omega), decide_eq_true (by omega)]; rfl
      rw [hand] at c83
      by_cases h0 : (s.R[k].2.2.length : Int) = 0
      · rw [if_pos ⟨h, dec_f fun ⟨k', e, hk', hh⟩ => by
          have : k' = k := by omega
          subst this
          omega⟩]
        simp only [b1, fldA_ptr, ldS0 g0, c44, ldR0 g0, w1, c83, idxW hk, ldW hk, h0, L45_11_eq, obs, oms, bin_add, bin_sub, bin_lss, bin_leq, bin_gtr, bin_geq, bin_eql, bin_neq, bin_eqlB, bin_neqB, un_not, cond_B, gd_B, gd_undef, gdH_B, gdH_undef, pickA_B, extractA_tup, lenA_sl, lenA_row, fldA_fp, fldA_ptr, fldA_rptr, List.getElem?_cons_zero, List.getElem?_cons_succ, decide_true, decide_false, if_true, if_false, Bool.true_eq_false, Bool.false_eq_true, Bool.not_true, Bool.not_false]
        rfl
      · have hs : stands s.R (k : Int) := ⟨k, rfl, hk, by omega⟩
        rw [if_neg (by rw [dec_iff.mpr hs]; simp), h]
        simp only [b1, fldA_ptr, ldS0 g0, c44, ldR0 g0, w1, c83, idxW hk, ldW hk, h0, L45_11_eq, obs, oms, bin_add, bin_sub, bin_lss, bin_leq, bin_gtr, bin_geq, bin_eql, bin_neq, bin_eqlB, bin_neqB, un_not, cond_B, gd_B, gd_undef, gdH_B, gdH_undef, pickA_B, extractA_tup, lenA_sl, lenA_row, fldA_fp, fldA_ptr, fldA_rptr, List.getElem?_cons_zero, List.getElem?_cons_succ, decide_true, decide_false, if_true, if_false, Bool.true_eq_false, Bool.false_eq_true, Bool.not_true, Bool.not_false]
        rfl
    · have hand : (decide ((0 : Int) ≤ r) && decide (r ≤ (s.R.length : Int) - 1)) = false := by
        cases hh : (decide ((0 : Int) ≤ r) && decide (r ≤ (s.R.length : Int) - 1)) with
        | false => rfl
        | true =>
          rw [Bool.and_eq_true, decide_eq_true_iff, decide_eq_true_iff] at hh
          exact absurd ⟨r.toNat, by omega, by omega⟩ hk
      rw [hand] at c83
      rw [if_pos ⟨h, dec_f fun ⟨k', e, hk', hh⟩ => hk ⟨k', e, hk'⟩⟩]
      simp only [b1, fldA_ptr, ldS0 g0, c44, ldR0 g0, w1, c83, L45_11_eq, obs, oms, bin_add, bin_sub, bin_lss, bin_leq, bin_gtr, bin_geq, bin_eql, bin_neq, bin_eqlB, bin_neqB, un_not, cond_B, gd_B, gd_undef, gdH_B, gdH_undef, pickA_B, extractA_tup, lenA_sl, lenA_row, fldA_fp, fldA_ptr, fldA_rptr, List.getElem?_cons_zero, List.getElem?_cons_succ, decide_true, decide_false, if_true, if_false, Bool.true_eq_false, Bool.false_eq_true, Bool.not_true, Bool.not_false]
      rfl
  · rw [if_neg fun e => h e.1]
    simp only [b1, fldA_ptr, ldS0 g0, c44, h, L45_11_eq, obs, oms, bin_add, bin_sub, bin_lss, bin_leq, bin_gtr, bin_geq, bin_eql, bin_neq, bin_eqlB, bin_neqB, un_not, cond_B, gd_B, gd_undef, gdH_B, gdH_undef, pickA_B, extractA_tup, lenA_sl, lenA_row, fldA_fp, fldA_ptr, fldA_rptr, List.getElem?_cons_zero, List.getElem?_cons_succ, decide_true, decide_false, if_true, if_false, Bool.true_eq_false, Bool.false_eq_true, Bool.not_true, Bool.not_false]
    rfl
end
end Pa
end Go.Proofs.Ytkhbbjfdbbnojaa

set_option linter.unusedVariables false
set_option linter.unusedSimpArgs false
namespace Go.Proofs.Ytkhbbjfdbbnojaa
open Go Go.AM
namespace Pa

/-! ### pages.uses' own row of counts -/
def cb (n : Nat) (f : Nat → Nat) : List PV := (List.range n).map fun j => Ia ((f j : Nat) : Int)
def Hu (b : AObj) (n : Nat) (f : Nat → Nat) : Heap := [b, .row 0 1 (cb n f)]
theorem cb_len (n : Nat) (f : Nat → Nat) : (cb n f).length = n := by simp [cb]
theorem cb_get {n k : Nat} {f : Nat → Nat} (h : k < n) : (cb n f)[k]? = some (Ia ((f k : Nat) : Int)) := by
  simp [cb, h]
theorem cb_set {n k x : Nat} {f : Nat → Nat} : (cb n f).set k (Ia ((x : Nat) : Int)) = cb n (fun m => if m = k then x else f m) := by
  apply List.ext_getElem?
  intro m
  by_cases hm : m < n
  · by_cases e : m = k
    · subst e
      rw [List.getElem?_set_self (by rw [cb_len]; exact hm), cb_get hm, if_pos rfl]
    · rw [List.getElem?_set_ne (by omega), cb_get hm, cb_get hm, if_neg e]
  · rw [List.getElem?_eq_none (by rw [List.length_set, cb_len]; omega), List.getElem?_eq_none (by rw [cb_len]; omega)]
theorem cb_mk (b : AObj) {n : Nat} (h : n ≤ 400) : mkRow 1 8 [(.v (.int .i64 0))] (I n) (I n) [b] = some (.row 1 0 0 n, Hu b n (fun _ => 0)) := by
  simp only [mkRow, asI, obs]
  rw [if_pos (by simp only [room]; omega)]
  have : zerosA n [PV.v (.int .i64 0)] = cb n (fun _ => 0) := by
    simp only [zerosA, cb]
    apply List.ext_getElem
    · simp
    · intro i h1 h2
      simp
  simp only [Int.toNat_natCast, this, Hu]
  rfl
theorem cb_idx {n k : Nat} (h : k < n) : idxA 1 (.row 1 0 0 n) (I k) = some (.rptr 1 0 k) := by
  rw [idxA_row (by omega)]
  simp
theorem cb_ld {b : AObj} {n k : Nat} {f : Nat → Nat} (h : k < n) : ld false 1 (.rptr 1 0 k) (Hu b n f) = some (I ((f k : Nat) : Int)) := by
  rw [ld_row (H := Hu b n f) (xs := cb n f) (sz := 1) rfl, cb_get h]
  rfl
theorem cb_st {b : AObj} {n k x : Nat} {f : Nat → Nat} (lo : List Nat) (h : k < n) : stA 1 (.rptr 1 0 k) (I ((x : Nat) : Int)) lo (Hu b n f) = some (Hu b n (fun m => if m = k then x else f m)) := by
  rw [stA_row (H := Hu b n f) (xs := cb n f) (sz := 1) rfl (by rw [cb_len]; exact h), cb_set]
  rfl

theorem leaveNo (lo : List Nat) (H : Heap) : leave 0 lo [.p nilS, B false] H = some ([.p nilS, B false], []) :=
  leave0_all (ps := [nilS, .v (.bool false)]) (H' := H) rfl

section
variable {s : SD}

theorem loop18 (hp : s.P.length ≤ 400) {row : List Int} {n1 : Option Bool} {t1 : Bool} (hrow : row.length ≤ 16) {i : Nat} (hi : i < 40) (v14 v15 : AV) :
    ∀ (c k : Nat) (f : Nat → Nat), row.length - k = c → k ≤ row.length → (∀ j, f j ≤ 16 * i + k) → L110_18 [.row 1 0 0 s.P.length, v14, v15, I i, V n1 t1 row, I row.length, I k] [] (Hu (bxS s) s.P.length f) =
      if dec (∀ x ∈ row.drop k, okX s.P.length x) = true then L110_8 [.row 1 0 0 s.P.length, v14, v15, I ((i + 1 : Nat) : Int)] [] (Hu (bxS s) s.P.length (fun j => f j + (row.drop k).count (j : Int))) else some ([.p nilS, B false], []) := by
  intro c
  induction c with
  | zero =>
    intro k f hc hk hf
    have : k = row.length := by omega
    subst this
    rw [if_pos (dec_iff.mpr (by rw [List.drop_length]; simp)), L110_18_eq]
    simp only [Int.lt_irrefl, List.drop_length, List.count_nil, Nat.add_zero, obs, oms, bin_add, bin_sub, bin_lss, bin_leq, bin_gtr, bin_geq, bin_eql, bin_neq, bin_eqlB, bin_neqB, un_not, cond_B, gd_B, gd_undef, gdH_B, gdH_undef, pickA_B, extractA_tup, lenA_sl, lenA_row, fldA_fp, fldA_ptr, fldA_rptr, List.getElem?_cons_zero, List.getElem?_cons_succ, decide_true, decide_false, if_true, if_false, Bool.true_eq_false, Bool.false_eq_true, Bool.not_true, Bool.not_false]
    rw [wrap_id (by omega), nxt]
  | succ c ih =>
    intro k f hc hk hf
    have hk' : k < row.length := by omega
    have hlt : (k : Int) < row.length := by omega
    have w : IntKind.i64.wrap ((k : Int) + 1) = ((k + 1 : Nat) : Int) := by rw [wrap_id (by omega), nxt]
    have hd : (∀ x ∈ row.drop k, okX s.P.length x) ↔ okX s.P.length row[k] ∧ ∀ x ∈ row.drop (k + 1), okX s.P.length x := by
      rw [List.drop_eq_getElem_cons hk', List.forall_mem_cons]
    have hcnt : ∀ j : Nat, (row.drop k).count (j : Int) = (row.drop (k + 1)).count (j : Int) + if row[k] = (j : Int) then 1 else 0 := by
      intro j
      rw [List.drop_eq_getElem_cons hk', List.count_cons]
      simp
    rw [L110_18_eq]
    by_cases hm : row[k] = -1
    · have ho : okX s.P.length row[k] := ⟨by omega, by omega⟩
      have fin := ih (k + 1) f (by omega) (by omega) (fun j => Nat.le_succ_of_le (hf j))
      rw [dec_congr (show (∀ x ∈ row.drop (k + 1), okX s.P.length x) ↔ ∀ x ∈ row.drop k, okX s.P.length x from by rw [hd]; exact ⟨fun h => ⟨ho, h⟩, fun h => h.2⟩)] at fin
      have hsame : (fun j : Nat => f j + (row.drop k).count (j : Int)) = fun j : Nat => f j + (row.drop (k + 1)).count (j : Int) := by
        funext j
        rw [hcnt j, if_neg (by omega), Nat.add_zero]
      rw [hsame]
      simp only [hlt, idxV hk', ldV hk', hm, L110_31_eq, w, obs, oms, bin_add, bin_sub, bin_lss, bin_leq, bin_gtr, bin_geq, bin_eql, bin_neq, bin_eqlB, bin_neqB, un_not, cond_B, gd_B, gd_undef, gdH_B, gdH_undef, pickA_B, extractA_tup, lenA_sl, lenA_row, fldA_fp, fldA_ptr, fldA_rptr, List.getElem?_cons_zero, List.getElem?_cons_succ, decide_true, decide_false, if_true, if_false, Bool.true_eq_false, Bool.false_eq_true, Bool.not_true, Bool.not_false]
      exact fin
    · by_cases hneg : row[k] < 0
      · rw [if_neg fun e => by have := (hd.mp (dec_iff.mp e)).1.1; omega]
        simp only [hlt, idxV hk', ldV hk', hm, hneg, obs, oms, bin_add, bin_sub, bin_lss, bin_leq, bin_gtr, bin_geq, bin_eql, bin_neq, bin_eqlB, bin_neqB, un_not, cond_B, gd_B, gd_undef, gdH_B, gdH_undef, pickA_B, extractA_tup, lenA_sl, lenA_row, fldA_fp, fldA_ptr, fldA_rptr, List.getElem?_cons_zero, List.getElem?_cons_succ, decide_true, decide_false, if_true, if_false, Bool.true_eq_false, Bool.false_eq_true, Bool.not_true, Bool.not_false]
        exact leaveNo _ _
      · by_cases hge : (s.P.length : Int) ≤ row[k]
        · rw [if_neg fun e => by have := (hd.mp (dec_iff.mp e)).1.2; omega]
          simp only [hlt, idxV hk', ldV hk', hm, hneg, hge, obs, oms, bin_add, bin_sub, bin_lss, bin_leq, bin_gtr, bin_geq, bin_eql, bin_neq, bin_eqlB, bin_neqB, un_not, cond_B, gd_B, gd_undef, gdH_B, gdH_undef, pickA_B, extractA_tup, lenA_sl, lenA_row, fldA_fp, fldA_ptr, fldA_rptr, List.getElem?_cons_zero, List.getElem?_cons_succ, decide_true, decide_false, if_true, if_false, Bool.true_eq_false, Bool.false_eq_true, Bool.not_true, Bool.not_false]
          exact leaveNo _ _
        · obtain ⟨q, hq⟩ := Int.eq_ofNat_of_zero_le (show 0 ≤ row[k] by omega)
          have hqn : q < s.P.length := by omega
          have ho : okX s.P.length row[k] := ⟨by omega, by omega⟩
          have hfq := hf q
          have w2 : IntKind.i64.wrap (((f q : Nat) : Int) + 1) = ((f q + 1 : Nat) : Int) := by rw [wrap_id (by omega), nxt]
          have fin := ih (k + 1) (fun m => if m = q then f q + 1 else f m) (by omega) (by omega) (fun j => by
            have := hf j
            show (if j = q then f q + 1 else f j) ≤ _
            split <;> omega)
          rw [dec_congr (show (∀ x ∈ row.drop (k + 1), okX s.P.length x) ↔ ∀ x ∈ row.drop k, okX s.P.length x from by rw [hd]; exact ⟨fun h => ⟨ho, h⟩, fun h => h.2⟩)] at fin
          have hsame : (fun j : Nat => f j + (row.drop k).count (j : Int)) = fun j : Nat => (if j = q then f q + 1 else f j) + (row.drop (k + 1)).count (j : Int) := by
            funext j
            rw [hcnt j, hq]
            by_cases e : j = q
            · subst e
              rw [if_pos rfl, if_pos rfl]
              omega
            · rw [if_neg e, if_neg (by omega), Nat.add_zero]
          rw [hsame]
          have hm' : ¬ ((q : Int) = -1) := by omega
          have hneg' : ¬ ((q : Int) < 0) := by omega
          have hge' : ¬ ((s.P.length : Int) ≤ (q : Int)) := by omega
          simp only [hlt, idxV hk', ldV hk', hq, hm', hneg', hge', cb_idx hqn, cb_ld hqn, w2, cb_st _ hqn, L110_31_eq, w, obs, oms, bin_add, bin_sub, bin_lss, bin_leq, bin_gtr, bin_geq, bin_eql, bin_neq, bin_eqlB, bin_neqB, un_not, cond_B, gd_B, gd_undef, gdH_B, gdH_undef, pickA_B, extractA_tup, lenA_sl, lenA_row, fldA_fp, fldA_ptr, fldA_rptr, List.getElem?_cons_zero, List.getElem?_cons_succ, decide_true, decide_false, if_true, if_false, Bool.true_eq_false, Bool.false_eq_true, Bool.not_true, Bool.not_false]
          exact fin
end
end Pa
end Go.Proofs.Ytkhbbjfdbbnojaa

set_option linter.unusedVariables false
set_option linter.unusedSimpArgs false
namespace Go.Proofs.Ytkhbbjfdbbnojaa
open Go Go.AM
namespace Pa

section
variable {s : SD}

/-- How often each page stands. -/
def cntL (s : SD) : List Int := (List.range s.P.length).map fun j : Nat => ((cnt (ints s.R) (j : Int) : Nat) : Int)
theorem cntL_cb (s : SD) : cb s.P.length (fun j => cnt (ints s.R) (j : Int)) = (cntL s).map Ia := by
  simp [cb, cntL]
theorem cntL_len (s : SD) : (cntL s).length = s.P.length := by simp [cntL]

theorem loop8 (hp : s.P.length ≤ 400) (hr : s.R.length ≤ 40) (hl : ∀ d ∈ s.R, d.2.2.length < 2 ^ 63) :
    ∀ (c i : Nat), s.R.length - i = c → i ≤ s.R.length → (∀ r ∈ (ints s.R).take i, okRow s.P.length r) →
      (okR s → ∃ nl tg H', L110_8 [.row 1 0 0 s.P.length, W s.nr s.tr s.R, I s.R.length, I i] [] (Hu (bxS s) s.P.length (fun j => cnt ((ints s.R).take i) (j : Int))) = some ([V nl tg (cntL s), B true], H')) ∧
      (¬ okR s → L110_8 [.row 1 0 0 s.P.length, W s.nr s.tr s.R, I s.R.length, I i] [] (Hu (bxS s) s.P.length (fun j => cnt ((ints s.R).take i) (j : Int))) = some ([.p nilS, B false], [])) := by
  have hil : (ints s.R).length = s.R.length := by simp [ints]
  intro c
  induction c with
  | zero =>
    intro i hc hi hpre
    have : i = s.R.length := by omega
    subst this
    rw [List.take_of_length_le (by omega)] at hpre ⊢
    refine ⟨fun _ => ?_, fun h => absurd hpre h⟩
    obtain ⟨nl, tg, H', e⟩ := (Lst.row (sz := 1) (id := 1) (g := 0) (m := s.P.length) (cs := cb s.P.length (fun j => cnt (ints s.R) (j : Int))) (H := Hu (bxS s) s.P.length (fun j => cnt (ints s.R) (j : Int))) (by rw [cb_len]; omega) rfl).leave2 [] (.v (.bool true))
    refine ⟨nl, tg, H', ?_⟩
    rw [L110_8_eq]
    simp only [Int.lt_irrefl, obs, oms, bin_add, bin_sub, bin_lss, bin_leq, bin_gtr, bin_geq, bin_eql, bin_neq, bin_eqlB, bin_neqB, un_not, cond_B, gd_B, gd_undef, gdH_B, gdH_undef, pickA_B, extractA_tup, lenA_sl, lenA_row, fldA_fp, fldA_ptr, fldA_rptr, List.getElem?_cons_zero, List.getElem?_cons_succ, decide_true, decide_false, if_true, if_false, Bool.true_eq_false, Bool.false_eq_true, Bool.not_true, Bool.not_false]
    rw [cntL_cb] at e
    rw [show V nl tg (cntL s) = .p (.sl nl tg s.P.length ((cntL s).map Ia)) by rw [← cntL_len s]]
    exact e
  | succ c ih =>
    intro i hc hi' hpre
    have hi : i < s.R.length := by omega
    have hlt : (i : Int) < s.R.length := by omega
    have hw := idxW (nl := s.nr) (tg := s.tr) hi
    have hlw := ldW hi
    have hat : (ints s.R)[i]'(by omega) = s.R[i].2.2 := by simp [ints]
    have hmem : s.R[i].2.2 ∈ ints s.R := hat ▸ List.getElem_mem _
    have hrowl := hl s.R[i] (List.getElem_mem hi)
    have hle : ∀ j : Nat, cnt ((ints s.R).take i) (j : Int) ≤ 16 * i := fun j =>
      Nat.le_trans (cnt_le _ _) (flat_le hpre (by simp; omega))
    have hnx : (fun j : Nat => cnt ((ints s.R).take i) (j : Int) + (s.R[i].2.2.drop 0).count (j : Int)) = fun j : Nat => cnt ((ints s.R).take (i + 1)) (j : Int) := by
      funext j
      rw [cnt_take (by omega : i < (ints s.R).length), hat, List.drop_zero]
    have inn := fun hlen : s.R[i].2.2.length ≤ 16 => loop18 (s := s) hp (row := s.R[i].2.2) (n1 := s.R[i].1) (t1 := s.R[i].2.1) hlen (i := i) (by omega) (W s.nr s.tr s.R) (I s.R.length) s.R[i].2.2.length 0 (fun j => cnt ((ints s.R).take i) (j : Int)) rfl (by omega) (fun j => by have := hle j; omega)
    have good : (s.R[i].2.2.length = 0 ∨ s.R[i].2.2.length = 16) →
        (okR s → ∃ nl tg H', L110_18 [.row 1 0 0 s.P.length, W s.nr s.tr s.R, I s.R.length, I i, V s.R[i].1 s.R[i].2.1 s.R[i].2.2, I s.R[i].2.2.length, I 0] [] (Hu (bxS s) s.P.length (fun j => cnt ((ints s.R).take i) (j : Int))) = some ([V nl tg (cntL s), B true], H')) ∧
        (¬ okR s → L110_18 [.row 1 0 0 s.P.length, W s.nr s.tr s.R, I s.R.length, I i, V s.R[i].1 s.R[i].2.1 s.R[i].2.2, I s.R[i].2.2.length, I 0] [] (Hu (bxS s) s.P.length (fun j => cnt ((ints s.R).take i) (j : Int))) = some ([.p nilS, B false], [])) := by
      intro hlen
      have inn := inn (by omega)
      rw [hnx, List.drop_zero] at inn
      by_cases hx : ∀ x ∈ s.R[i].2.2, okX s.P.length x
      · rw [if_pos (dec_iff.mpr hx)] at inn
        have nx := ih (i + 1) (by omega) (by omega) (by
          rw [List.take_add_one, List.getElem?_eq_getElem (by omega : i < (ints s.R).length), hat]
          intro r hr'
          rcases List.mem_append.mp hr' with h | h
          · exact hpre r h
          · simp at h
            subst h
            exact ⟨hlen, hx⟩)
        exact ⟨fun h => by
          obtain ⟨nl, tg, H', e⟩ := nx.1 h
          exact ⟨nl, tg, H', inn.trans e⟩, fun h => inn.trans (nx.2 h)⟩
      · rw [if_neg fun e => hx (dec_iff.mp e)] at inn
        exact ⟨fun h => absurd (h _ hmem).2 hx, fun _ => inn⟩
    rw [L110_8_eq]
    by_cases h0 : (s.R[i].2.2.length : Int) = 0
    · have g := good (by omega)
      rw [h0] at g
      simp only [hw, hlw, hlt, h0, obs, oms, bin_add, bin_sub, bin_lss, bin_leq, bin_gtr, bin_geq, bin_eql, bin_neq, bin_eqlB, bin_neqB, un_not, cond_B, gd_B, gd_undef, gdH_B, gdH_undef, pickA_B, extractA_tup, lenA_sl, lenA_row, fldA_fp, fldA_ptr, fldA_rptr, List.getElem?_cons_zero, List.getElem?_cons_succ, decide_true, decide_false, if_true, if_false, Bool.true_eq_false, Bool.false_eq_true, Bool.not_true, Bool.not_false]
      exact g
    · by_cases h16 : (s.R[i].2.2.length : Int) = 16
      · have h160 : ¬ ((16 : Int) = 0) := by omega
        have g := good (by omega)
        rw [h16] at g
        simp only [hw, hlw, hlt, h16, h160, obs, oms, bin_add, bin_sub, bin_lss, bin_leq, bin_gtr, bin_geq, bin_eql, bin_neq, bin_eqlB, bin_neqB, un_not, cond_B, gd_B, gd_undef, gdH_B, gdH_undef, pickA_B, extractA_tup, lenA_sl, lenA_row, fldA_fp, fldA_ptr, fldA_rptr, List.getElem?_cons_zero, List.getElem?_cons_succ, decide_true, decide_false, if_true, if_false, Bool.true_eq_false, Bool.false_eq_true, Bool.not_true, Bool.not_false]
        exact g
      · refine ⟨fun h => absurd (h _ hmem).1 (by omega), fun _ => ?_⟩
        simp only [hw, hlw, hlt, h0, h16, obs, oms, bin_add, bin_sub, bin_lss, bin_leq, bin_gtr, bin_geq, bin_eql, bin_neq, bin_eqlB, bin_neqB, un_not, cond_B, gd_B, gd_undef, gdH_B, gdH_undef, pickA_B, extractA_tup, lenA_sl, lenA_row, fldA_fp, fldA_ptr, fldA_rptr, List.getElem?_cons_zero, List.getElem?_cons_succ, decide_true, decide_false, if_true, if_false, Bool.true_eq_false, Bool.false_eq_true, Bool.not_true, Bool.not_false]
        exact leaveNo _ _

theorem ent110 (hp : s.P.length ≤ 400) (hr : s.R.length ≤ 40) (hl : ∀ d ∈ s.R, d.2.2.length < 2 ^ 63) :
    (okR s → ∃ nl tg H', O.ent 110 [avS s] [] [] = some ([V nl tg (cntL s), B true], H')) ∧ (¬ okR s → O.ent 110 [avS s] [] [] = some ([.p nilS, B false], [])) := by
  have b1 : boxO [] (AV.cells (avS s)) [] = some (.ptr 0 0, [bxS s]) := boxS s []
  have g0 : ([bxS s] : Heap)[0]? = some (bxS s) := rfl
  have g1 : (Hu (bxS s) s.P.length (fun _ => 0))[0]? = some (bxS s) := rfl
  have m1 := cb_mk (bxS s) hp
  have fin := loop8 hp hr hl s.R.length 0 rfl (by omega) (by simp)
  have hz : (fun j : Nat => cnt ((ints s.R).take 0) (j : Int)) = fun _ => 0 := by
    funext j
    simp [cnt]
  rw [hz] at fin
  rw [f110_eq]
  simp only [b1, fldA_ptr, ldP0 g0, m1, ldR0 g1, obs, oms, bin_add, bin_sub, bin_lss, bin_leq, bin_gtr, bin_geq, bin_eql, bin_neq, bin_eqlB, bin_neqB, un_not, cond_B, gd_B, gd_undef, gdH_B, gdH_undef, pickA_B, extractA_tup, lenA_sl, lenA_row, fldA_fp, fldA_ptr, fldA_rptr, List.getElem?_cons_zero, List.getElem?_cons_succ, decide_true, decide_false, if_true, if_false, Bool.true_eq_false, Bool.false_eq_true, Bool.not_true, Bool.not_false]
  exact fin
end
end Pa
end Go.Proofs.Ytkhbbjfdbbnojaa

set_option linter.unusedVariables false
set_option linter.unusedSimpArgs false
namespace Go.Proofs.Ytkhbbjfdbbnojaa
open Go Go.AM
namespace Pa

theorem toPVs_p (H : Heap) : ∀ xs : List PV, toPVs H (xs.map .p) = some (xs, H) := by
  intro xs
  induction xs with
  | nil => rfl
  | cons x xs ih => simp [toPVs, toPV, ih]
theorem arrStG (H : Heap) (lo : List Nat) (p : Pg) : stA 4 (.rptr H.length 0 0) (avG p) lo (H ++ [.row 0 1 [Ia 0, Ia 0, Ia 0, Ia 0]]) = some (H ++ [.row 0 1 (encG p)]) := by
  have hl := len4 p
  simp only [stA, avG, atE]
  rw [if_pos (by simp [AV.cells, hl])]
  simp only [AV.cells, toPVs_p, obs, atE]
  rw [if_pos (by simp)]
  have hs : splice [Ia 0, Ia 0, Ia 0, Ia 0] 0 (encG p) = encG p := by
    obtain ⟨x, y, z, w⟩ := p
    rfl
  simp [hs]
theorem arrLdG (H : Heap) (p : Pg) : ld true 4 (.rptr H.length 0 0) (H ++ [.row 0 1 (encG p)]) = some (avG p) := by
  obtain ⟨x, y, z, w⟩ := p
  simp only [ld, atE]
  rfl

section
variable {s : SD}
theorem call110 (hp : s.P.length ≤ 400) (hr : s.R.length ≤ 40) (hl : ∀ d ∈ s.R, d.2.2.length < 2 ^ 63) (lo : List Nat) (H : Heap) :
    (okR s → ∃ nl tg, callA cfg O 110 [avS s] lo H = some (.tup [V nl tg (cntL s), B true], H)) ∧ (¬ okR s → callA cfg O 110 [avS s] lo H = some (.tup [.p nilS, B false], H)) := by
  have e := ent110 hp hr hl
  refine ⟨fun h => ?_, fun h => callA_args (H' := []) (rs := [.p nilS, B false]) rfl (pureS H) (e.2 h) rfl⟩
  obtain ⟨nl, tg, H', e⟩ := e.1 h
  exact ⟨nl, tg, callA_args (H' := H') (rs := [V nl tg (cntL s), B true]) rfl (pureS H) e rfl⟩

theorem cntL_get {j : Nat} (h : j < s.P.length) : (cntL s)[j]'(by rw [cntL_len]; exact h) = ((cnt (ints s.R) (j : Int) : Nat) : Int) := by simp [cntL]

theorem loop16 (hp : s.P.length ≤ 400) {nl : Option Bool} {tg : Bool} : ∀ (c i : Nat) (H : Heap), s.P.length - i = c → i ≤ s.P.length →
    L50_16 [V nl tg (cntL s), .p (pvP s), I s.P.length, I i] [] H = some ([I (er (∀ j, i ≤ j → j < s.P.length → (s.P[j]? = some zg ↔ cnt (ints s.R) (j : Int) = 0)))], []) := by
  intro c
  induction c with
  | zero =>
    intro i H hc hi
    have : i = s.P.length := by omega
    subst this
    rw [er_t (fun j h1 h2 => absurd h2 (by omega)), L50_16_eq]
    simp only [Int.lt_irrefl, obs, oms, bin_add, bin_sub, bin_lss, bin_leq, bin_gtr, bin_geq, bin_eql, bin_neq, bin_eqlB, bin_neqB, un_not, cond_B, gd_B, gd_undef, gdH_B, gdH_undef, pickA_B, extractA_tup, lenA_sl, lenA_row, fldA_fp, fldA_ptr, fldA_rptr, List.getElem?_cons_zero, List.getElem?_cons_succ, decide_true, decide_false, if_true, if_false, Bool.true_eq_false, Bool.false_eq_true, Bool.not_true, Bool.not_false]
    rfl
  | succ c ih =>
    intro i H hc hi'
    have hi : i < s.P.length := by omega
    have hic : i < (cntL s).length := by rw [cntL_len]; exact hi
    have hlt : (i : Int) < s.P.length := by omega
    have w : IntKind.i64.wrap ((i : Int) + 1) = ((i + 1 : Nat) : Int) := by rw [wrap_id (by omega), nxt]
    have fin := ih (i + 1) (H ++ [.row 0 1 (encG s.P[i])]) (by omega) (by omega)
    have hgo : (s.P[i] = zg ↔ cnt (ints s.R) (i : Int) = 0) → ((∀ j, i + 1 ≤ j → j < s.P.length → (s.P[j]? = some zg ↔ cnt (ints s.R) (j : Int) = 0)) ↔ ∀ j, i ≤ j → j < s.P.length → (s.P[j]? = some zg ↔ cnt (ints s.R) (j : Int) = 0)) := fun h =>
      ⟨fun g j h1 h2 => if e : j = i then by subst e; rw [List.getElem?_eq_getElem hi, Option.some.injEq]; exact h else g j (by omega) h2, fun g j h1 h2 => g j (by omega) h2⟩
    have hno : ¬ (s.P[i] = zg ↔ cnt (ints s.R) (i : Int) = 0) → ¬ ∀ j, i ≤ j → j < s.P.length → (s.P[j]? = some zg ↔ cnt (ints s.R) (j : Int) = 0) := fun h g => by
      have := g i (by omega) hi
      rw [List.getElem?_eq_getElem hi, Option.some.injEq] at this
      exact h this
    rw [L50_16_eq]
    by_cases hz : s.P[i] = zg <;> by_cases hc0 : cnt (ints s.R) (i : Int) = 0
    · have hn : ((cnt (ints s.R) (i : Int) : Nat) : Int) = 0 := by omega
      rw [er_congr (hgo ⟨fun _ => hc0, fun _ => hz⟩)] at fin
      simp only [hlt, idxG hi, ldG hi, arrNewG, arrStG, arrLdG, buildZ, eqG, hz, idxV hic, ldV hic, cntL_get hi, hn, w, obs, oms, bin_add, bin_sub, bin_lss, bin_leq, bin_gtr, bin_geq, bin_eql, bin_neq, bin_eqlB, bin_neqB, un_not, cond_B, gd_B, gd_undef, gdH_B, gdH_undef, pickA_B, extractA_tup, lenA_sl, lenA_row, fldA_fp, fldA_ptr, fldA_rptr, List.getElem?_cons_zero, List.getElem?_cons_succ, decide_true, decide_false, if_true, if_false, Bool.true_eq_false, Bool.false_eq_true, Bool.not_true, Bool.not_false]
      rw [hz] at fin
      exact fin
    · have hn : ¬ ((cnt (ints s.R) (i : Int) : Nat) : Int) = 0 := by omega
      rw [er_f (hno fun h => hc0 (h.mp hz))]
      simp only [hlt, idxG hi, ldG hi, arrNewG, arrStG, arrLdG, buildZ, eqG, hz, idxV hic, ldV hic, cntL_get hi, hn, w, obs, oms, bin_add, bin_sub, bin_lss, bin_leq, bin_gtr, bin_geq, bin_eql, bin_neq, bin_eqlB, bin_neqB, un_not, cond_B, gd_B, gd_undef, gdH_B, gdH_undef, pickA_B, extractA_tup, lenA_sl, lenA_row, fldA_fp, fldA_ptr, fldA_rptr, List.getElem?_cons_zero, List.getElem?_cons_succ, decide_true, decide_false, if_true, if_false, Bool.true_eq_false, Bool.false_eq_true, Bool.not_true, Bool.not_false]
      rfl
    · have hn : ((cnt (ints s.R) (i : Int) : Nat) : Int) = 0 := by omega
      rw [er_f (hno fun h => hz (h.mpr hc0))]
      simp only [hlt, idxG hi, ldG hi, arrNewG, arrStG, arrLdG, buildZ, eqG, hz, idxV hic, ldV hic, cntL_get hi, hn, w, obs, oms, bin_add, bin_sub, bin_lss, bin_leq, bin_gtr, bin_geq, bin_eql, bin_neq, bin_eqlB, bin_neqB, un_not, cond_B, gd_B, gd_undef, gdH_B, gdH_undef, pickA_B, extractA_tup, lenA_sl, lenA_row, fldA_fp, fldA_ptr, fldA_rptr, List.getElem?_cons_zero, List.getElem?_cons_succ, decide_true, decide_false, if_true, if_false, Bool.true_eq_false, Bool.false_eq_true, Bool.not_true, Bool.not_false]
      rfl
    · have hn : ¬ ((cnt (ints s.R) (i : Int) : Nat) : Int) = 0 := by omega
      rw [er_congr (hgo ⟨fun h => absurd h hz, fun h => absurd h hc0⟩)] at fin
      simp only [hlt, idxG hi, ldG hi, arrNewG, arrStG, arrLdG, buildZ, eqG, hz, idxV hic, ldV hic, cntL_get hi, hn, w, obs, oms, bin_add, bin_sub, bin_lss, bin_leq, bin_gtr, bin_geq, bin_eql, bin_neq, bin_eqlB, bin_neqB, un_not, cond_B, gd_B, gd_undef, gdH_B, gdH_undef, pickA_B, extractA_tup, lenA_sl, lenA_row, fldA_fp, fldA_ptr, fldA_rptr, List.getElem?_cons_zero, List.getElem?_cons_succ, decide_true, decide_false, if_true, if_false, Bool.true_eq_false, Bool.false_eq_true, Bool.not_true, Bool.not_false]
      exact fin
end
end Pa
end Go.Proofs.Ytkhbbjfdbbnojaa

set_option linter.unusedVariables false
set_option linter.unusedSimpArgs false
namespace Go.Proofs.Ytkhbbjfdbbnojaa
open Go Go.AM
namespace Pa

section
variable {s : SD}

theorem okU_iff (hu : cntL s = s.U) : okU s ↔ ∀ j, 0 ≤ j → j < s.P.length → (s.P[j]? = some zg ↔ cnt (ints s.R) (j : Int) = 0) := by
  have hat : ∀ j, j < s.P.length → s.U[j]? = some ((cnt (ints s.R) (j : Int) : Nat) : Int) := by
    intro j hj
    rw [← hu, List.getElem?_eq_getElem (by rw [cntL_len]; exact hj), cntL_get hj]
  exact ⟨fun h j h1 h2 => (h j h1 h2).2, fun h j h1 h2 => ⟨hat j h2, h j h1 h2⟩⟩
theorem okU_cntL (h : okU s) (hl : s.U.length = s.P.length) : cntL s = s.U := by
  apply List.ext_getElem?
  intro j
  by_cases hj : j < s.P.length
  · rw [(h j (by omega) hj).1, List.getElem?_eq_getElem (by rw [cntL_len]; exact hj), cntL_get hj]
  · rw [List.getElem?_eq_none (by rw [cntL_len]; omega), List.getElem?_eq_none (by omega)]

theorem ent50 (hl : ∀ d ∈ s.R, d.2.2.length < 2 ^ 63) : O.ent 50 [avS s] [] [] = some ([I (chk s)], []) := by
  have b1 : boxO [] (AV.cells (avS s)) [] = some (.ptr 0 0, [bxS s]) := boxS s []
  have g0 : ([bxS s] : Heap)[0]? = some (bxS s) := rfl
  unfold chk
  rw [f50_eq]
  by_cases h1 : s.P.length > 400
  · rw [if_pos (Or.inl h1)]
    have h1' : (400 : Int) < s.P.length := by omega
    simp only [b1, fldA_ptr, ldP0 g0, ldR0 g0, h1', obs, oms, bin_add, bin_sub, bin_lss, bin_leq, bin_gtr, bin_geq, bin_eql, bin_neq, bin_eqlB, bin_neqB, un_not, cond_B, gd_B, gd_undef, gdH_B, gdH_undef, pickA_B, extractA_tup, lenA_sl, lenA_row, fldA_fp, fldA_ptr, fldA_rptr, List.getElem?_cons_zero, List.getElem?_cons_succ, decide_true, decide_false, if_true, if_false, Bool.true_eq_false, Bool.false_eq_true, Bool.not_true, Bool.not_false]
    rfl
  · have h1' : ¬ (400 : Int) < s.P.length := by omega
    by_cases h2 : s.R.length > 40
    · rw [if_pos (Or.inr h2)]
      have h2' : (40 : Int) < s.R.length := by omega
      simp only [b1, fldA_ptr, ldP0 g0, ldR0 g0, h1', h2', obs, oms, bin_add, bin_sub, bin_lss, bin_leq, bin_gtr, bin_geq, bin_eql, bin_neq, bin_eqlB, bin_neqB, un_not, cond_B, gd_B, gd_undef, gdH_B, gdH_undef, pickA_B, extractA_tup, lenA_sl, lenA_row, fldA_fp, fldA_ptr, fldA_rptr, List.getElem?_cons_zero, List.getElem?_cons_succ, decide_true, decide_false, if_true, if_false, Bool.true_eq_false, Bool.false_eq_true, Bool.not_true, Bool.not_false]
      rfl
    · have h2' : ¬ (40 : Int) < s.R.length := by omega
      rw [if_neg (by omega)]
      have c110 := call110 (s := s) (by omega) (by omega) hl [] [bxS s]
      by_cases hR : okR s
      · obtain ⟨nl, tg, c⟩ := c110.1 hR
        have c101 : callA cfg O 101 [V nl tg (cntL s), .p (pvU s)] [] [bxS s] = some (B (dec (cntL s = s.U)), [bxS s]) := call101 (by rw [cntL_len]; omega) [] _
        by_cases hU : cntL s = s.U
        · rw [dec_iff.mpr hU] at c101
          have hlen : s.U.length = s.P.length := by rw [← hU, cntL_len]
          rw [if_neg (by simp [hlen])]
          have fin := loop16 (s := s) (by omega) (nl := nl) (tg := tg) s.P.length 0 [bxS s] rfl (by omega)
          rw [er_congr (show (∀ j, 0 ≤ j → j < s.P.length → (s.P[j]? = some zg ↔ cnt (ints s.R) (j : Int) = 0)) ↔ okR s ∧ okU s from by rw [← okU_iff hU]; exact ⟨fun h => ⟨hR, h⟩, fun h => h.2⟩)] at fin
          simp only [b1, fldA_ptr, ldS0 g0, ldP0 g0, ldU0 g0, ldR0 g0, h1', h2', c, c101, obs, oms, bin_add, bin_sub, bin_lss, bin_leq, bin_gtr, bin_geq, bin_eql, bin_neq, bin_eqlB, bin_neqB, un_not, cond_B, gd_B, gd_undef, gdH_B, gdH_undef, pickA_B, extractA_tup, lenA_sl, lenA_row, fldA_fp, fldA_ptr, fldA_rptr, List.getElem?_cons_zero, List.getElem?_cons_succ, decide_true, decide_false, if_true, if_false, Bool.true_eq_false, Bool.false_eq_true, Bool.not_true, Bool.not_false]
          exact fin
        · rw [dec_f hU] at c101
          have h3 : (if s.U.length ≠ s.P.length then (3 : Int) else er (okR s ∧ okU s)) = 3 := by
            by_cases e : s.U.length = s.P.length
            · rw [if_neg (by simp [e]), er_f fun h => hU (okU_cntL h.2 e)]
            · rw [if_pos e]
          rw [h3]
          simp only [b1, fldA_ptr, ldS0 g0, ldP0 g0, ldU0 g0, ldR0 g0, h1', h2', c, c101, obs, oms, bin_add, bin_sub, bin_lss, bin_leq, bin_gtr, bin_geq, bin_eql, bin_neq, bin_eqlB, bin_neqB, un_not, cond_B, gd_B, gd_undef, gdH_B, gdH_undef, pickA_B, extractA_tup, lenA_sl, lenA_row, fldA_fp, fldA_ptr, fldA_rptr, List.getElem?_cons_zero, List.getElem?_cons_succ, decide_true, decide_false, if_true, if_false, Bool.true_eq_false, Bool.false_eq_true, Bool.not_true, Bool.not_false]
          rfl
      · have c := c110.2 hR
        have h3 : (if s.U.length ≠ s.P.length then (3 : Int) else er (okR s ∧ okU s)) = 3 := by
          by_cases e : s.U.length = s.P.length
          · rw [if_neg (by simp [e]), er_f fun h => hR h.1]
          · rw [if_pos e]
        rw [h3]
        simp only [b1, fldA_ptr, ldS0 g0, ldP0 g0, ldU0 g0, ldR0 g0, h1', h2', c, obs, oms, bin_add, bin_sub, bin_lss, bin_leq, bin_gtr, bin_geq, bin_eql, bin_neq, bin_eqlB, bin_neqB, un_not, cond_B, gd_B, gd_undef, gdH_B, gdH_undef, pickA_B, extractA_tup, lenA_sl, lenA_row, fldA_fp, fldA_ptr, fldA_rptr, List.getElem?_cons_zero, List.getElem?_cons_succ, decide_true, decide_false, if_true, if_false, Bool.true_eq_false, Bool.false_eq_true, Bool.not_true, Bool.not_false]
        rfl
theorem call50 (hl : ∀ d ∈ s.R, d.2.2.length < 2 ^ 63) (lo : List Nat) (H : Heap) : callA cfg O 50 [avS s] lo H = some (I (chk s), H) :=
  callA_args (H' := []) (rs := [I (chk s)]) rfl (pureS H) (ent50 hl) rfl
end
end Pa
end Go.Proofs.Ytkhbbjfdbbnojaa

set_option linter.unusedVariables false
set_option linter.unusedSimpArgs false
namespace Go.Proofs.Ytkhbbjfdbbnojaa
open Go Go.AM
namespace Pa

section
variable {s : SD}

/-- pages.there: what it answers for a list of roots, once the store is well. -/
noncomputable def thrL (s : SD) (l : List Int) : Int := if dec (∀ r ∈ l, stands s.R r) = true then 0 else 5

theorem loop12 (hr : s.R.length ≤ 40) {l : List Int} {nl : Option Bool} {tg : Bool} (hl : l.length < 2 ^ 62) : ∀ (c i : Nat), l.length - i = c → i ≤ l.length →
    L107_12 [.ptr 0 0, V nl tg l, I l.length, I i] [] [bxS s] = some ([I (thrL s (l.drop i))], []) := by
  have g0 : ([bxS s] : Heap)[0]? = some (bxS s) := rfl
  intro c
  induction c with
  | zero =>
    intro i hc hi
    have : i = l.length := by omega
    subst this
    rw [thrL, if_pos (dec_iff.mpr (by rw [List.drop_length]; simp)), L107_12_eq]
    simp only [Int.lt_irrefl, obs, oms, bin_add, bin_sub, bin_lss, bin_leq, bin_gtr, bin_geq, bin_eql, bin_neq, bin_eqlB, bin_neqB, un_not, cond_B, gd_B, gd_undef, gdH_B, gdH_undef, pickA_B, extractA_tup, lenA_sl, lenA_row, fldA_fp, fldA_ptr, fldA_rptr, List.getElem?_cons_zero, List.getElem?_cons_succ, decide_true, decide_false, if_true, if_false, Bool.true_eq_false, Bool.false_eq_true, Bool.not_true, Bool.not_false]
    rfl
  | succ c ih =>
    intro i hc hi'
    have hi : i < l.length := by omega
    have hlt : (i : Int) < l.length := by omega
    have w : IntKind.i64.wrap ((i : Int) + 1) = ((i + 1 : Nat) : Int) := by rw [wrap_id (by omega), nxt]
    have hd : (∀ x ∈ l.drop i, stands s.R x) ↔ stands s.R l[i] ∧ ∀ x ∈ l.drop (i + 1), stands s.R x := by
      rw [List.drop_eq_getElem_cons hi, List.forall_mem_cons]
    have fin := ih (i + 1) (by omega) (by omega)
    have bad : ¬ stands s.R l[i] → thrL s (l.drop i) = 5 := fun h => if_neg fun e => h (hd.mp (dec_iff.mp e)).1
    rw [L107_12_eq]
    by_cases hneg : l[i] < 0
    · rw [bad fun ⟨k, e, _⟩ => by omega]
      simp only [hlt, idxV hi, ldV hi, hneg, obs, oms, bin_add, bin_sub, bin_lss, bin_leq, bin_gtr, bin_geq, bin_eql, bin_neq, bin_eqlB, bin_neqB, un_not, cond_B, gd_B, gd_undef, gdH_B, gdH_undef, pickA_B, extractA_tup, lenA_sl, lenA_row, fldA_fp, fldA_ptr, fldA_rptr, List.getElem?_cons_zero, List.getElem?_cons_succ, decide_true, decide_false, if_true, if_false, Bool.true_eq_false, Bool.false_eq_true, Bool.not_true, Bool.not_false]
      rfl
    · obtain ⟨k, hk⟩ := Int.eq_ofNat_of_zero_le (show 0 ≤ l[i] by omega)
      have hneg' : ¬ ((k : Int) < 0) := by omega
      by_cases hkr : k < s.R.length
      · have hge : ¬ ((s.R.length : Int) ≤ (k : Int)) := by omega
        by_cases h0 : (s.R[k].2.2.length : Int) = 0
        · rw [bad fun ⟨k', e, hk', hh⟩ => by
            have : k' = k := by omega
            subst this
            omega]
          simp only [hlt, idxV hi, ldV hi, hk, hneg', fldA_ptr, ldR0 g0, hge, idxW hkr, ldW hkr, h0, obs, oms, bin_add, bin_sub, bin_lss, bin_leq, bin_gtr, bin_geq, bin_eql, bin_neq, bin_eqlB, bin_neqB, un_not, cond_B, gd_B, gd_undef, gdH_B, gdH_undef, pickA_B, extractA_tup, lenA_sl, lenA_row, fldA_fp, fldA_ptr, fldA_rptr, List.getElem?_cons_zero, List.getElem?_cons_succ, decide_true, decide_false, if_true, if_false, Bool.true_eq_false, Bool.false_eq_true, Bool.not_true, Bool.not_false]
          rfl
        · have hs : stands s.R l[i] := ⟨k, hk, hkr, by omega⟩
          have e : thrL s (l.drop (i + 1)) = thrL s (l.drop i) := by
            unfold thrL
            rw [dec_congr (show (∀ r ∈ l.drop (i + 1), stands s.R r) ↔ ∀ r ∈ l.drop i, stands s.R r from by rw [hd]; exact ⟨fun h => ⟨hs, h⟩, fun h => h.2⟩)]
          rw [e] at fin
          simp only [hlt, idxV hi, ldV hi, hk, hneg', fldA_ptr, ldR0 g0, hge, idxW hkr, ldW hkr, h0, w, obs, oms, bin_add, bin_sub, bin_lss, bin_leq, bin_gtr, bin_geq, bin_eql, bin_neq, bin_eqlB, bin_neqB, un_not, cond_B, gd_B, gd_undef, gdH_B, gdH_undef, pickA_B, extractA_tup, lenA_sl, lenA_row, fldA_fp, fldA_ptr, fldA_rptr, List.getElem?_cons_zero, List.getElem?_cons_succ, decide_true, decide_false, if_true, if_false, Bool.true_eq_false, Bool.false_eq_true, Bool.not_true, Bool.not_false]
          exact fin
      · have hge : (s.R.length : Int) ≤ (k : Int) := by omega
        rw [bad fun ⟨k', e, hk', hh⟩ => by omega]
        simp only [hlt, idxV hi, ldV hi, hk, hneg', fldA_ptr, ldR0 g0, hge, obs, oms, bin_add, bin_sub, bin_lss, bin_leq, bin_gtr, bin_geq, bin_eql, bin_neq, bin_eqlB, bin_neqB, un_not, cond_B, gd_B, gd_undef, gdH_B, gdH_undef, pickA_B, extractA_tup, lenA_sl, lenA_row, fldA_fp, fldA_ptr, fldA_rptr, List.getElem?_cons_zero, List.getElem?_cons_succ, decide_true, decide_false, if_true, if_false, Bool.true_eq_false, Bool.false_eq_true, Bool.not_true, Bool.not_false]
        rfl

theorem ent107 (hl : ∀ d ∈ s.R, d.2.2.length < 2 ^ 63) {l : List Int} {nl : Option Bool} {tg : Bool} (hll : l.length < 2 ^ 62) :
    O.ent 107 [avS s, V nl tg l] [] [] = some ([I (if chk s = 0 then thrL s l else chk s)], []) := by
  have b1 : boxO [] (AV.cells (avS s)) [] = some (.ptr 0 0, [bxS s]) := boxS s []
  have g0 : ([bxS s] : Heap)[0]? = some (bxS s) := rfl
  have c50 := call50 hl [] [bxS s]
  rw [f107_eq]
  by_cases h : chk s = 0
  · rw [if_pos h]
    rw [h] at c50
    have fin := loop12 (chk0 h).2.1 (nl := nl) (tg := tg) hll l.length 0 rfl (by omega)
    rw [List.drop_zero] at fin
    simp only [b1, fldA_ptr, ldS0 g0, c50, obs, oms, bin_add, bin_sub, bin_lss, bin_leq, bin_gtr, bin_geq, bin_eql, bin_neq, bin_eqlB, bin_neqB, un_not, cond_B, gd_B, gd_undef, gdH_B, gdH_undef, pickA_B, extractA_tup, lenA_sl, lenA_row, fldA_fp, fldA_ptr, fldA_rptr, List.getElem?_cons_zero, List.getElem?_cons_succ, decide_true, decide_false, if_true, if_false, Bool.true_eq_false, Bool.false_eq_true, Bool.not_true, Bool.not_false]
    exact fin
  · rw [if_neg h]
    simp only [b1, fldA_ptr, ldS0 g0, c50, h, obs, oms, bin_add, bin_sub, bin_lss, bin_leq, bin_gtr, bin_geq, bin_eql, bin_neq, bin_eqlB, bin_neqB, un_not, cond_B, gd_B, gd_undef, gdH_B, gdH_undef, pickA_B, extractA_tup, lenA_sl, lenA_row, fldA_fp, fldA_ptr, fldA_rptr, List.getElem?_cons_zero, List.getElem?_cons_succ, decide_true, decide_false, if_true, if_false, Bool.true_eq_false, Bool.false_eq_true, Bool.not_true, Bool.not_false]
    rfl
end
end Pa
end Go.Proofs.Ytkhbbjfdbbnojaa

set_option linter.unusedVariables false
set_option linter.unusedSimpArgs false
namespace Go.Proofs.Ytkhbbjfdbbnojaa
open Go Go.AM
namespace Pa

section
variable {s : SD}

theorem pureS1 (H : Heap) (x : PV) : pureArgs H [avS s, .p x] = some ([avS s, .p x], false) := by
  have : ∀ xs : List PV, pureLeaves H (xs.map .p) = some (xs.map .p, false) := by
    intro xs
    induction xs with
    | nil => rfl
    | cons x xs ih => simp [pureLeaves, pureLeaf, ih]
  simp only [pureArgs, pureArg, avS, this, oms, obs]
  rfl
theorem pureS2 (H : Heap) (x y : PV) : pureArgs H [avS s, .p x, .p y] = some ([avS s, .p x, .p y], false) := by
  have : ∀ xs : List PV, pureLeaves H (xs.map .p) = some (xs.map .p, false) := by
    intro xs
    induction xs with
    | nil => rfl
    | cons x xs ih => simp [pureLeaves, pureLeaf, ih]
  simp only [pureArgs, pureArg, avS, this, oms, obs]
  rfl
theorem call107 (hl : ∀ d ∈ s.R, d.2.2.length < 2 ^ 63) {l : List Int} {nl : Option Bool} {tg : Bool} (hll : l.length < 2 ^ 62) (lo : List Nat) (H : Heap) :
    callA cfg O 107 [avS s, V nl tg l] lo H = some (I (if chk s = 0 then thrL s l else chk s), H) :=
  callA_args (H' := []) (rs := [I (if chk s = 0 then thrL s l else chk s)]) rfl (pureS1 H _) (ent107 hl hll) rfl
theorem call45 (hl : ∀ d ∈ s.R, d.2.2.length < 2 ^ 63) (r : Int) (lo : List Nat) (H : Heap) : callA cfg O 45 [avS s, I r] lo H = some (I (thr s r), H) :=
  callA_args (H' := []) (rs := [I (thr s r)]) rfl (pureS1 H _) (ent45 hl r) rfl

theorem thr_one (r : Int) : (if chk s = 0 then thrL s [r] else chk s) = thr s r := by
  have hs : (∀ x ∈ [r], stands s.R x) ↔ stands s.R r := by simp
  unfold thr thrL
  rw [dec_congr hs]
  by_cases h : chk s = 0
  · rw [if_pos h]
    cases dec (stands s.R r) with
    | true => rw [if_pos rfl, if_neg (by simp), h]
    | false => rw [if_neg (by simp), if_pos ⟨h, rfl⟩]
  · rw [if_neg h, if_neg fun e => h e.1]

/-- What pages.asked answers. -/
noncomputable def ask (s : SD) (r a : Int) : Int := if thr s r = 0 ∧ ¬ (0 ≤ a ∧ a < 64) then 1 else thr s r

theorem ent102 (hl : ∀ d ∈ s.R, d.2.2.length < 2 ^ 63) (r a : Int) : O.ent 102 [avS s, I r, I a] [] [] = some ([I (ask s r a)], []) := by
  have b1 : boxO [] (AV.cells (avS s)) [] = some (.ptr 0 0, [bxS s]) := boxS s []
  have g0 : ([bxS s] : Heap)[0]? = some (bxS s) := rfl
  have l1 : litA false 1 [I r] [bxS s] = some (V (some false) true [r], [bxS s]) := rfl
  have c107 := call107 hl (l := [r]) (nl := some false) (tg := true) (by simp) [] [bxS s]
  rw [thr_one] at c107
  unfold ask
  rw [f102_eq]
  by_cases h : thr s r = 0
  · rw [h] at c107 ⊢
    by_cases h1 : a < 0
    · rw [if_pos ⟨rfl, by omega⟩]
      simp only [b1, fldA_ptr, ldS0 g0, l1, c107, h1, L102_11_eq, obs, oms, bin_add, bin_sub, bin_lss, bin_leq, bin_gtr, bin_geq, bin_eql, bin_neq, bin_eqlB, bin_neqB, un_not, cond_B, gd_B, gd_undef, gdH_B, gdH_undef, pickA_B, extractA_tup, lenA_sl, lenA_row, fldA_fp, fldA_ptr, fldA_rptr, List.getElem?_cons_zero, List.getElem?_cons_succ, decide_true, decide_false, if_true, if_false, Bool.true_eq_false, Bool.false_eq_true, Bool.not_true, Bool.not_false]
      rfl
    · by_cases h2 : (64 : Int) ≤ a
      · rw [if_pos ⟨rfl, by omega⟩]
        simp only [b1, fldA_ptr, ldS0 g0, l1, c107, h1, h2, L102_11_eq, obs, oms, bin_add, bin_sub, bin_lss, bin_leq, bin_gtr, bin_geq, bin_eql, bin_neq, bin_eqlB, bin_neqB, un_not, cond_B, gd_B, gd_undef, gdH_B, gdH_undef, pickA_B, extractA_tup, lenA_sl, lenA_row, fldA_fp, fldA_ptr, fldA_rptr, List.getElem?_cons_zero, List.getElem?_cons_succ, decide_true, decide_false, if_true, if_false, Bool.true_eq_false, Bool.false_eq_true, Bool.not_true, Bool.not_false]
        rfl
      · rw [if_neg (by omega)]
        simp only [b1, fldA_ptr, ldS0 g0, l1, c107, h1, h2, L102_11_eq, obs, oms, bin_add, bin_sub, bin_lss, bin_leq, bin_gtr, bin_geq, bin_eql, bin_neq, bin_eqlB, bin_neqB, un_not, cond_B, gd_B, gd_undef, gdH_B, gdH_undef, pickA_B, extractA_tup, lenA_sl, lenA_row, fldA_fp, fldA_ptr, fldA_rptr, List.getElem?_cons_zero, List.getElem?_cons_succ, decide_true, decide_false, if_true, if_false, Bool.true_eq_false, Bool.false_eq_true, Bool.not_true, Bool.not_false]
        rfl
  · rw [if_neg fun e => h e.1]
    simp only [b1, fldA_ptr, ldS0 g0, l1, c107, h, L102_11_eq, obs, oms, bin_add, bin_sub, bin_lss, bin_leq, bin_gtr, bin_geq, bin_eql, bin_neq, bin_eqlB, bin_neqB, un_not, cond_B, gd_B, gd_undef, gdH_B, gdH_undef, pickA_B, extractA_tup, lenA_sl, lenA_row, fldA_fp, fldA_ptr, fldA_rptr, List.getElem?_cons_zero, List.getElem?_cons_succ, decide_true, decide_false, if_true, if_false, Bool.true_eq_false, Bool.false_eq_true, Bool.not_true, Bool.not_false]
    rfl
theorem call102 (hl : ∀ d ∈ s.R, d.2.2.length < 2 ^ 63) (r a : Int) (lo : List Nat) (H : Heap) : callA cfg O 102 [avS s, I r, I a] lo H = some (I (ask s r a), H) :=
  callA_args (H' := []) (rs := [I (ask s r a)]) rfl (pureS2 H _ _) (ent102 hl r a) rfl
end
end Pa
end Go.Proofs.Ytkhbbjfdbbnojaa

set_option linter.unusedVariables false
set_option linter.unusedSimpArgs false
namespace Go.Proofs.Ytkhbbjfdbbnojaa
open Go Go.AM
namespace Pa

section
variable {s : SD}

/-- What is asked for is there: the version, its sixteen places, and the page that each names. -/
theorem ask0 {r a : Int} (h : ask s r a = 0) : chk s = 0 ∧ ∃ k i : Nat, r = (k : Int) ∧ a = (i : Int) ∧ i < 64 ∧ ∃ hk : k < s.R.length, s.R[k].2.2.length = 16 ∧ ∃ hi : i / 4 < s.R[k].2.2.length, s.R[k].2.2[i / 4] < s.P.length := by
  unfold ask at h
  by_cases h1 : thr s r = 0 ∧ ¬ (0 ≤ a ∧ a < 64)
  · rw [if_pos h1] at h; omega
  · rw [if_neg h1] at h
    have ha : 0 ≤ a ∧ a < 64 := by
      by_cases e : 0 ≤ a ∧ a < 64
      · exact e
      · exact absurd ⟨h, e⟩ h1
    unfold thr at h
    by_cases h2 : chk s = 0 ∧ dec (stands s.R r) = false
    · rw [if_pos h2] at h; omega
    · rw [if_neg h2] at h
      obtain ⟨-, -, -, hR, -⟩ := chk0 h
      have hs : stands s.R r := by
        by_cases e : stands s.R r
        · exact e
        · exact absurd ⟨h, dec_f e⟩ h2
      obtain ⟨k, e, hk, h0⟩ := hs
      obtain ⟨i, ei⟩ := Int.eq_ofNat_of_zero_le ha.1
      have hmem : s.R[k].2.2 ∈ ints s.R := by
        have : (ints s.R)[k]'(by simp [ints]; exact hk) = s.R[k].2.2 := by simp [ints]
        exact this ▸ List.getElem_mem _
      have ho := hR _ hmem
      have h16 : s.R[k].2.2.length = 16 := by have := ho.1; omega
      have hi : i / 4 < s.R[k].2.2.length := by omega
      have hx := (ho.2 _ (List.getElem_mem hi)).2
      exact ⟨h, k, i, e, ei, by omega, hk, h16, hi, by omega⟩

theorem arrAtG (p : Pg) {j : Nat} (h : j < 4) : arrAt false 1 4 (avG p) (I j) = some (I (cG p j)) := by
  obtain ⟨x, y, z, w⟩ := p
  match j, h with
  | 0, _ => rfl
  | 1, _ => rfl
  | 2, _ => rfl
  | 3, _ => rfl

theorem call103 (hl : ∀ d ∈ s.R, d.2.2.length < 2 ^ 63) {v a : Nat} (hv : v < s.R.length) (ha : a / 4 < s.R[v].2.2.length) (hx : s.R[v].2.2[a / 4] < s.P.length) (lo : List Nat) (H : Heap) :
    callA cfg O 103 [avS s, I v, I a] lo H = some (avG (pgOf s.P s.R[v].2.2[a / 4]), H) :=
  callA_args (H' := []) (rs := [avG (pgOf s.P s.R[v].2.2[a / 4])]) rfl (pureS2 H _ _) (ent103 hl hv ha hx) rfl

theorem ent40_no (hl : ∀ d ∈ s.R, d.2.2.length < 2 ^ 63) {r a : Int} (h : ask s r a ≠ 0) : O.ent 40 [avS s, I r, I a] [] [] = some ([I 0, I (ask s r a)], []) := by
  have b1 : boxO [] (AV.cells (avS s)) [] = some (.ptr 0 0, [bxS s]) := boxS s []
  have g0 : ([bxS s] : Heap)[0]? = some (bxS s) := rfl
  have c := call102 hl r a [] [bxS s]
  rw [f40_eq]
  simp only [b1, fldA_ptr, ldS0 g0, c, h, obs, oms, bin_add, bin_sub, bin_lss, bin_leq, bin_gtr, bin_geq, bin_eql, bin_neq, bin_eqlB, bin_neqB, un_not, cond_B, gd_B, gd_undef, gdH_B, gdH_undef, pickA_B, extractA_tup, lenA_sl, lenA_row, fldA_fp, fldA_ptr, fldA_rptr, List.getElem?_cons_zero, List.getElem?_cons_succ, decide_true, decide_false, if_true, if_false, Bool.true_eq_false, Bool.false_eq_true, Bool.not_true, Bool.not_false]
  rfl
theorem ent40_yes (hl : ∀ d ∈ s.R, d.2.2.length < 2 ^ 63) {v a : Nat} (h : ask s v a = 0) (hv : v < s.R.length) (ha : a / 4 < s.R[v].2.2.length) (hx : s.R[v].2.2[a / 4] < s.P.length) :
    O.ent 40 [avS s, I v, I a] [] [] = some ([I (cG (pgOf s.P s.R[v].2.2[a / 4]) (a % 4)), I 0], []) := by
  have b1 : boxO [] (AV.cells (avS s)) [] = some (.ptr 0 0, [bxS s]) := boxS s []
  have g0 : ([bxS s] : Heap)[0]? = some (bxS s) := rfl
  have c := call102 hl v a [] [bxS s]
  rw [h] at c
  have c3 := call103 hl hv ha hx [] [bxS s]
  have hr : bin .rem .int (I a) (I 4) = some (I (a % 4 : Nat)) := rem_nat .i64 a 4 (by omega)
  rw [f40_eq]
  simp only [b1, fldA_ptr, ldS0 g0, c, c3, hr, arrAtG _ (Nat.mod_lt a (by omega : 4 > 0)), obs, oms, bin_add, bin_sub, bin_lss, bin_leq, bin_gtr, bin_geq, bin_eql, bin_neq, bin_eqlB, bin_neqB, un_not, cond_B, gd_B, gd_undef, gdH_B, gdH_undef, pickA_B, extractA_tup, lenA_sl, lenA_row, fldA_fp, fldA_ptr, fldA_rptr, List.getElem?_cons_zero, List.getElem?_cons_succ, decide_true, decide_false, if_true, if_false, Bool.true_eq_false, Bool.false_eq_true, Bool.not_true, Bool.not_false]
  rfl
end
end Pa
end Go.Proofs.Ytkhbbjfdbbnojaa

set_option linter.unusedVariables false
set_option linter.unusedSimpArgs false
namespace Go.Proofs.Ytkhbbjfdbbnojaa
open Go Go.AM
namespace Pa

section
variable {s : SD}

/-- How many of the first k places two versions share. -/
def shN (x y : List Int) : Nat → Nat
  | 0 => 0
  | k + 1 => shN x y k + if 0 ≤ x.getD k (-1) ∧ x.getD k (-1) = y.getD k (-1) then 1 else 0
theorem shN_le (x y : List Int) : ∀ k, shN x y k ≤ k
  | 0 => Nat.le_refl _
  | k + 1 => by
    have := shN_le x y k
    simp only [shN]
    split <;> omega

theorem loop49 {a b : Nat} (ha : a < s.R.length) (hb : b < s.R.length) (la : s.R[a].2.2.length = 16) (lb : s.R[b].2.2.length = 16) (hx : ∀ x ∈ s.R[a].2.2, (-1 : Int) ≤ x) :
    ∀ (c k : Nat), 16 - k = c → k ≤ 16 → L49_8 [I a, I b, .ptr 0 0, I (shN s.R[a].2.2 s.R[b].2.2 k), I k] [] [bxS s] = some ([I (shN s.R[a].2.2 s.R[b].2.2 16)], []) := by
  have g0 : ([bxS s] : Heap)[0]? = some (bxS s) := rfl
  intro c
  induction c with
  | zero =>
    intro k hc hk
    have : k = 16 := by omega
    subst this
    have h16 : ¬ (((16 : Nat) : Int) < 16) := by omega
    rw [L49_8_eq]
    simp only [h16, obs, oms, bin_add, bin_sub, bin_lss, bin_leq, bin_gtr, bin_geq, bin_eql, bin_neq, bin_eqlB, bin_neqB, un_not, cond_B, gd_B, gd_undef, gdH_B, gdH_undef, pickA_B, extractA_tup, lenA_sl, lenA_row, fldA_fp, fldA_ptr, fldA_rptr, List.getElem?_cons_zero, List.getElem?_cons_succ, decide_true, decide_false, if_true, if_false, Bool.true_eq_false, Bool.false_eq_true, Bool.not_true, Bool.not_false]
    rfl
  | succ c ih =>
    intro k hc hk'
    have hlt : (k : Int) < 16 := by omega
    have ka : k < s.R[a].2.2.length := by omega
    have kb : k < s.R[b].2.2.length := by omega
    have w : IntKind.i64.wrap ((k : Int) + 1) = ((k + 1 : Nat) : Int) := by rw [wrap_id (by omega), nxt]
    have hle := shN_le s.R[a].2.2 s.R[b].2.2 k
    have w2 : IntKind.i64.wrap (((shN s.R[a].2.2 s.R[b].2.2 k : Nat) : Int) + 1) = ((shN s.R[a].2.2 s.R[b].2.2 k + 1 : Nat) : Int) := by rw [wrap_id (by omega), nxt]
    have hm := hx _ (List.getElem_mem ka)
    have fin := ih (k + 1) (by omega) (by omega)
    have da : s.R[a].2.2.getD k (-1) = s.R[a].2.2[k] := by simp [List.getD, ka]
    have db : s.R[b].2.2.getD k (-1) = s.R[b].2.2[k] := by simp [List.getD, kb]
    simp only [shN, da, db] at fin
    rw [L49_8_eq]
    by_cases h1 : s.R[a].2.2[k] = -1
    · rw [if_neg (by omega), Nat.add_zero] at fin
      simp only [hlt, fldA_ptr, ldR0 g0, idxW ha, ldW ha, idxW hb, ldW hb, idxV ka, ldV ka, idxV kb, ldV kb, h1, L49_11_eq, w, obs, oms, bin_add, bin_sub, bin_lss, bin_leq, bin_gtr, bin_geq, bin_eql, bin_neq, bin_eqlB, bin_neqB, un_not, cond_B, gd_B, gd_undef, gdH_B, gdH_undef, pickA_B, extractA_tup, lenA_sl, lenA_row, fldA_fp, fldA_ptr, fldA_rptr, List.getElem?_cons_zero, List.getElem?_cons_succ, decide_true, decide_false, if_true, if_false, Bool.true_eq_false, Bool.false_eq_true, Bool.not_true, Bool.not_false]
      exact fin
    · by_cases h2 : s.R[a].2.2[k] = s.R[b].2.2[k]
      · rw [if_pos ⟨by omega, h2⟩] at fin
        rw [h2] at h1
        simp only [hlt, fldA_ptr, ldR0 g0, idxW ha, ldW ha, idxW hb, ldW hb, idxV ka, ldV ka, idxV kb, ldV kb, h1, h2, L49_11_eq, w, w2, obs, oms, bin_add, bin_sub, bin_lss, bin_leq, bin_gtr, bin_geq, bin_eql, bin_neq, bin_eqlB, bin_neqB, un_not, cond_B, gd_B, gd_undef, gdH_B, gdH_undef, pickA_B, extractA_tup, lenA_sl, lenA_row, fldA_fp, fldA_ptr, fldA_rptr, List.getElem?_cons_zero, List.getElem?_cons_succ, decide_true, decide_false, if_true, if_false, Bool.true_eq_false, Bool.false_eq_true, Bool.not_true, Bool.not_false]
        exact fin
      · rw [if_neg fun e => h2 e.2, Nat.add_zero] at fin
        simp only [hlt, fldA_ptr, ldR0 g0, idxW ha, ldW ha, idxW hb, ldW hb, idxV ka, ldV ka, idxV kb, ldV kb, h1, h2, L49_11_eq, w, obs, oms, bin_add, bin_sub, bin_lss, bin_leq, bin_gtr, bin_geq, bin_eql, bin_neq, bin_eqlB, bin_neqB, un_not, cond_B, gd_B, gd_undef, gdH_B, gdH_undef, pickA_B, extractA_tup, lenA_sl, lenA_row, fldA_fp, fldA_ptr, fldA_rptr, List.getElem?_cons_zero, List.getElem?_cons_succ, decide_true, decide_false, if_true, if_false, Bool.true_eq_false, Bool.false_eq_true, Bool.not_true, Bool.not_false]
        exact fin
theorem ent49 {a b : Nat} (ha : a < s.R.length) (hb : b < s.R.length) (la : s.R[a].2.2.length = 16) (lb : s.R[b].2.2.length = 16) (hx : ∀ x ∈ s.R[a].2.2, (-1 : Int) ≤ x) :
    O.ent 49 [avS s, I a, I b] [] [] = some ([I (shN s.R[a].2.2 s.R[b].2.2 16)], []) := by
  have b1 : boxO [] (AV.cells (avS s)) [] = some (.ptr 0 0, [bxS s]) := boxS s []
  rw [f49_eq]
  simp only [b1, obs, oms, bin_add, bin_sub, bin_lss, bin_leq, bin_gtr, bin_geq, bin_eql, bin_neq, bin_eqlB, bin_neqB, un_not, cond_B, gd_B, gd_undef, gdH_B, gdH_undef, pickA_B, extractA_tup, lenA_sl, lenA_row, fldA_fp, fldA_ptr, fldA_rptr, List.getElem?_cons_zero, List.getElem?_cons_succ, decide_true, decide_false, if_true, if_false, Bool.true_eq_false, Bool.false_eq_true, Bool.not_true, Bool.not_false]
  exact loop49 ha hb la lb hx 16 0 rfl (by omega)
end
end Pa
end Go.Proofs.Ytkhbbjfdbbnojaa
