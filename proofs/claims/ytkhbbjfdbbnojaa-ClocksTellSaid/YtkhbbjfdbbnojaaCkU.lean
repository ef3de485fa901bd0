import Derived.Test.YtkhbbjfdbbnojaaCkT
set_option linter.unusedVariables false
set_option linter.unusedSimpArgs false
namespace Go.Proofs.Ytkhbbjfdbbnojaa
open Go Go.AM Go.AM.Ck
namespace Cl

section
variable {l : List E} {nl : Option Bool} {tg : Bool} {th : Nat} {n2 : Option Bool} {t2 : Bool}

theorem dsAt {ds : List Dd} (h : ints ds = (List.range l.length).map fun j => (List.range th).map fun t => (VC l j t : Int)) {i : Nat} (hi : i < l.length) : ∃ h : i < ds.length, ds[i].2.2 = (List.range th).map fun t => (VC l i t : Int) := by
  have hl := congrArg List.length h
  simp only [ints, List.length_map, List.length_range] at hl
  refine ⟨by omega, ?_⟩
  have := congrArg (fun x => x[i]?) h
  simp only [ints, List.getElem?_map] at this
  rw [List.getElem?_eq_getElem (show i < ds.length by omega), List.getElem?_range hi] at this
  simpa using this

theorem ent131 {n3 : Option Bool} {t3 : Bool} {ds : List Dd} (hds : ints ds = (List.range l.length).map fun j => (List.range th).map fun t => (VC l j t : Int)) (hT : ∀ i, i < l.length → 0 ≤ Th l i ∧ Th l i < th) {i j : Nat} (hi : i < l.length) (hj : j < l.length) :
    O.ent 131 [Rw enc nl tg l, W n3 t3 ds, I i, I j] [] [] = some ([B (dec (Bf (ED l) i j))], []) := by
  rw [f131_eq]
  obtain ⟨ti, hti⟩ : ∃ ti : Nat, Th l i = ti := ⟨(Th l i).toNat, by have := hT i hi; omega⟩
  have hti2 : ti < th := by have := (hT i hi).2; omega
  obtain ⟨d1, v1⟩ := dsAt hds hi
  obtain ⟨d2, v2⟩ := dsAt hds hj
  by_cases he : i = j
  · subst he
    have hf : dec (Bf (ED l) i i) = false := by
      cases h : dec (Bf (ED l) i i) with
      | false => rfl
      | true => have := bf_lt (edOk l) (dec_iff.mp h); omega
    rw [hf]
    simp only [idxE hi, fT hi, obs, oms, bin_add, bin_sub, bin_lss, bin_leq, bin_gtr, bin_geq, bin_eql, bin_neq, bin_eqlB, bin_neqB, un_not, cond_B, gd_B, gd_undef, gdH_B, gdH_undef, pickA_B, extractA_tup, lenA_sl, lenA_row, fldA_fp, fldA_ptr, fldA_rptr, List.getElem?_cons_zero, List.getElem?_cons_succ, decide_true, decide_false, if_true, if_false, Bool.true_eq_false, Bool.false_eq_true, Bool.not_true, Bool.not_false]
    rfl
  · have he' : ¬ (i : Int) = j := by omega
    have k1 : ti < ds[i].2.2.length := by rw [v1]; simpa using hti2
    have k2 : ti < ds[j].2.2.length := by rw [v2]; simpa using hti2
    have i1 := idxV (nl := ds[i].1) (tg := ds[i].2.1) k1
    have i2 := idxV (nl := ds[j].1) (tg := ds[j].2.1) k2
    have e1 : ds[i].2.2[ti] = (VC l i ti : Int) := by simp [v1]
    have e2 : ds[j].2.2[ti] = (VC l j ti : Int) := by simp [v2]
    have hv := vc_bf (edOk l) hi hj he
    rw [hti] at hv
    have hd : dec (Bf (ED l) i j) = decide ((VC l i ti : Int) ≤ (VC l j ti : Int)) := by
      rw [Bool.eq_iff_iff, dec_iff, decide_eq_true_eq, ← hv]
      exact Int.ofNat_le.symm
    rw [hd]
    by_cases hle : (VC l i ti : Int) ≤ (VC l j ti : Int)
    · simp only [idxE hi, fT hi, hti, he', idxW d1, ldW d1, idxW d2, ldW d2, i1, i2, ldV k1, ldV k2, e1, e2, hle, obs, oms, bin_add, bin_sub, bin_lss, bin_leq, bin_gtr, bin_geq, bin_eql, bin_neq, bin_eqlB, bin_neqB, un_not, cond_B, gd_B, gd_undef, gdH_B, gdH_undef, pickA_B, extractA_tup, lenA_sl, lenA_row, fldA_fp, fldA_ptr, fldA_rptr, List.getElem?_cons_zero, List.getElem?_cons_succ, decide_true, decide_false, if_true, if_false, Bool.true_eq_false, Bool.false_eq_true, Bool.not_true, Bool.not_false]
      rfl
    · simp only [idxE hi, fT hi, hti, he', idxW d1, ldW d1, idxW d2, ldW d2, i1, i2, ldV k1, ldV k2, e1, e2, hle, obs, oms, bin_add, bin_sub, bin_lss, bin_leq, bin_gtr, bin_geq, bin_eql, bin_neq, bin_eqlB, bin_neqB, un_not, cond_B, gd_B, gd_undef, gdH_B, gdH_undef, pickA_B, extractA_tup, lenA_sl, lenA_row, fldA_fp, fldA_ptr, fldA_rptr, List.getElem?_cons_zero, List.getElem?_cons_succ, decide_true, decide_false, if_true, if_false, Bool.true_eq_false, Bool.false_eq_true, Bool.not_true, Bool.not_false]
      rfl

/-! ### What is ahead, by looking back -/
def rB (f : Nat → Bool) (L : Nat) : List PV := (List.range L).map fun n => .v (.bool (f n))
theorem rB_set (f : Nat → Bool) (L n : Nat) : (rB f L).set n (.v (.bool true)) = rB (fun m => if m = n then true else f m) L := by
  refine List.ext_getElem (by simp [rB]) fun k a b => ?_
  simp only [rB, List.getElem_set, List.getElem_map, List.getElem_range]
  by_cases h : n = k
  · subst h; simp
  · rw [if_neg h, if_neg (fun e => h e.symm)]
theorem rB_at (f : Nat → Bool) {L n : Nat} (h : n < L) : (rB f L)[n]? = some (.v (.bool (f n))) := by simp [rB, h]
theorem rB_len (f : Nat → Bool) (L : Nat) : (rB f L).length = L := by simp [rB]
theorem rB_congr {f g : Nat → Bool} {L : Nat} (h : ∀ n, n < L → f n = g n) : rB f L = rB g L :=
  List.map_congr_left fun n hn => congrArg (fun b => PV.v (.bool b)) (h n (List.mem_range.mp hn))
theorem rB_or (P : Nat → Prop) (L i : Nat) : (rB (fun n => dec (P n)) L).set i (.v (.bool true)) = rB (fun n => dec (P n ∨ n = i)) L := by
  rw [rB_set]
  refine rB_congr fun n _ => ?_
  by_cases e : n = i
  · rw [if_pos e]; simp [dec, e]
  · rw [if_neg e, dec_congr (p := P n) (q := P n ∨ n = i) ⟨.inl, fun h => h.resolve_right e⟩]
theorem rB_dec {P Q : Nat → Prop} (L : Nat) (h : ∀ n, n < L → (P n ↔ Q n)) : rB (fun n => dec (P n)) L = rB (fun n => dec (Q n)) L :=
  rB_congr fun n hn => dec_congr (h n hn)
noncomputable abbrev HB (P Q : Nat → Prop) (L : Nat) : Heap := [.row 0 1 (rB (fun n => dec (P n)) L), .row 0 1 (rB (fun n => dec (Q n)) L)]

theorem hbI {id L n : Nat} (h : n < L) : idxA 1 (.row id 0 0 L) (I n) = some (.rptr id 0 n) := by
  have := rowI (k := 1) (id := id) (g := 0) (m := L) h
  simpa using this

theorem loop78 {k : Nat} (hk : k < l.length) (hL : l.length < 2 ^ 40) : ∀ (c i : Nat) (P Q : Nat → Prop), k - i = c → i ≤ k →
    L78_20 [Rw enc nl tg l, .row 0 0 0 l.length, .row 1 0 0 l.length, I k, I i] [] (HB P Q l.length) = L78_15 [Rw enc nl tg l, .row 0 0 0 l.length, .row 1 0 0 l.length, I k] [] (HB (fun n => P n ∨ i ≤ n ∧ n < k ∧ ED l n k) (fun n => Q n ∨ i ≤ n ∧ n < k ∧ ED l n k) l.length) := by
  intro c
  induction c with
  | zero =>
    intro i P Q hc hi
    have : i = k := by omega
    subst this
    rw [L78_20_eq]
    simp only [Int.lt_irrefl, obs, oms, bin_add, bin_sub, bin_lss, bin_leq, bin_gtr, bin_geq, bin_eql, bin_neq, bin_eqlB, bin_neqB, un_not, cond_B, gd_B, gd_undef, gdH_B, gdH_undef, pickA_B, extractA_tup, lenA_sl, lenA_row, fldA_fp, fldA_ptr, fldA_rptr, List.getElem?_cons_zero, List.getElem?_cons_succ, decide_true, decide_false, if_true, if_false, Bool.true_eq_false, Bool.false_eq_true, Bool.not_true, Bool.not_false]
    have e : ∀ P : Nat → Prop, rB (fun n => dec (P n)) l.length = rB (fun n => dec (P n ∨ i ≤ n ∧ n < i ∧ ED l n i)) l.length := fun P => rB_dec _ fun n _ => ⟨.inl, fun h => h.elim id fun h => by omega⟩
    unfold HB
    rw [e P, e Q]
  | succ c ih =>
    intro i P Q hc hi
    have hlt : (i : Int) < k := by omega
    have hi' : i < l.length := by omega
    have c74 := call74 (nl := nl) (tg := tg) (l := l) (i := i) (j := k) hi' hk hL []
    have w2 : IntKind.i64.wrap ((i : Int) + 1) = ((i + 1 : Nat) : Int) := by rw [wrap_id (by omega), nxt]
    rw [L78_20_eq]
    by_cases h : ED l i k
    · have hd : dec (ED l i k) = true := dec_iff.mpr h
      have s1 : stA 1 (.rptr 1 0 i) (B true) [] (HB P Q l.length) = some (HB P (fun n => Q n ∨ n = i) l.length) := by
        rw [stA_row (H := HB P Q l.length) (id := 1) (xs := rB (fun n => dec (Q n)) l.length) rfl (by rw [rB_len]; exact hi')]
        rw [rB_or Q]
        rfl
      have s2 : stA 1 (.rptr 0 0 i) (B true) [] (HB P (fun n => Q n ∨ n = i) l.length) = some (HB (fun n => P n ∨ n = i) (fun n => Q n ∨ n = i) l.length) := by
        rw [stA_row (H := HB P (fun n => Q n ∨ n = i) l.length) (id := 0) (xs := rB (fun n => dec (P n)) l.length) rfl (by rw [rB_len]; exact hi')]
        rw [rB_or P]
        rfl
      have fin := ih (i + 1) (fun n => P n ∨ n = i) (fun n => Q n ∨ n = i) (by omega) (by omega)
      have e : ∀ P : Nat → Prop, rB (fun n => dec ((P n ∨ n = i) ∨ i + 1 ≤ n ∧ n < k ∧ ED l n k)) l.length = rB (fun n => dec (P n ∨ i ≤ n ∧ n < k ∧ ED l n k)) l.length := fun P => rB_dec _ fun n _ => by
        constructor
        · rintro ((h1 | h1) | h1)
          · exact .inl h1
          · subst h1; exact .inr ⟨Nat.le_refl _, by omega, h⟩
          · exact .inr ⟨by omega, h1.2⟩
        · rintro (h1 | h1)
          · exact .inl (.inl h1)
          · by_cases e : n = i
            · exact .inl (.inr e)
            · exact .inr ⟨by omega, h1.2⟩
      unfold HB at fin ⊢
      rw [e P, e Q] at fin
      unfold HB at c74 s1 s2
      simp only [hlt, c74, hd, hbI hi', s1, s2, L78_23_eq, w2, obs, oms, bin_add, bin_sub, bin_lss, bin_leq, bin_gtr, bin_geq, bin_eql, bin_neq, bin_eqlB, bin_neqB, un_not, cond_B, gd_B, gd_undef, gdH_B, gdH_undef, pickA_B, extractA_tup, lenA_sl, lenA_row, fldA_fp, fldA_ptr, fldA_rptr, List.getElem?_cons_zero, List.getElem?_cons_succ, decide_true, decide_false, if_true, if_false, Bool.true_eq_false, Bool.false_eq_true, Bool.not_true, Bool.not_false]
      exact fin
    · have hd : dec (ED l i k) = false := by
        cases h2 : dec (ED l i k) with
        | false => rfl
        | true => exact (h (dec_iff.mp h2)).elim
      have fin := ih (i + 1) P Q (by omega) (by omega)
      have e : ∀ P : Nat → Prop, rB (fun n => dec (P n ∨ i + 1 ≤ n ∧ n < k ∧ ED l n k)) l.length = rB (fun n => dec (P n ∨ i ≤ n ∧ n < k ∧ ED l n k)) l.length := fun P => rB_dec _ fun n _ => by
        constructor
        · rintro (h1 | h1)
          · exact .inl h1
          · exact .inr ⟨by omega, h1.2⟩
        · rintro (h1 | h1)
          · exact .inl h1
          · refine .inr ⟨?_, h1.2⟩
            have : n ≠ i := fun e => h (e ▸ h1.2.2)
            omega
      unfold HB at fin ⊢
      rw [e P, e Q] at fin
      unfold HB at c74
      simp only [hlt, c74, hd, L78_23_eq, w2, obs, oms, bin_add, bin_sub, bin_lss, bin_leq, bin_gtr, bin_geq, bin_eql, bin_neq, bin_eqlB, bin_neqB, un_not, cond_B, gd_B, gd_undef, gdH_B, gdH_undef, pickA_B, extractA_tup, lenA_sl, lenA_row, fldA_fp, fldA_ptr, fldA_rptr, List.getElem?_cons_zero, List.getElem?_cons_succ, decide_true, decide_false, if_true, if_false, Bool.true_eq_false, Bool.false_eq_true, Bool.not_true, Bool.not_false]
      exact fin

def Dn (l : List E) (j k : Nat) : Prop := k = j ∨ Bf (ED l) k j
def Pn (l : List E) (j k n : Nat) : Prop := ∃ k', k ≤ k' ∧ ED l n k' ∧ Dn l j k'

theorem down78 {j : Nat} (hj : j < l.length) (hL : l.length < 2 ^ 40) : ∀ (k : Nat), k ≤ j + 1 →
    ∃ H', L78_12 [Rw enc nl tg l, .row 0 0 0 l.length, .row 1 0 0 l.length, I ((k : Int) - 1)] [] (HB (Pn l j k) (fun n => n = j ∨ Pn l j k n) l.length) = some ([.p (.sl (some false) false l.length (rB (fun n => dec (Bf (ED l) n j)) l.length))], H') := by
  intro k
  induction k with
  | zero =>
    intro _
    have e : rB (fun n => dec (Pn l j 0 n)) l.length = rB (fun n => dec (Bf (ED l) n j)) l.length := rB_dec _ fun n _ => by
      rw [bf_head]
      exact ⟨fun ⟨k', _, h⟩ => ⟨k', h⟩, fun ⟨k', h⟩ => ⟨k', Nat.zero_le _, h⟩⟩
    rw [← e]
    refine ⟨[], ?_⟩
    rw [L78_12_eq]
    have h1 : ¬ (0 : Int) ≤ ((0 : Nat) : Int) - 1 := by omega
    simp only [h1, obs, oms, bin_add, bin_sub, bin_lss, bin_leq, bin_gtr, bin_geq, bin_eql, bin_neq, bin_eqlB, bin_neqB, un_not, cond_B, gd_B, gd_undef, gdH_B, gdH_undef, pickA_B, extractA_tup, lenA_sl, lenA_row, fldA_fp, fldA_ptr, fldA_rptr, List.getElem?_cons_zero, List.getElem?_cons_succ, decide_true, decide_false, if_true, if_false, Bool.true_eq_false, Bool.false_eq_true, Bool.not_true, Bool.not_false]
    refine leave0_all (H' := (HB (Pn l j 0) (fun n => n = j ∨ Pn l j 0 n) l.length).set 0 (.row 1 1 [])) (ps := [.sl (some false) false l.length (rB (fun n => dec (Pn l j 0 n)) l.length)]) ?_
    have hf : frzA (HB (Pn l j 0) (fun n => n = j ∨ Pn l j 0 n) l.length) (.row 0 0 0 l.length) = some (.p (.sl (some false) false l.length (rB (fun n => dec (Pn l j 0 n)) l.length)), (HB (Pn l j 0) (fun n => n = j ∨ Pn l j 0 n) l.length).set 0 (.row 1 1 [])) := by
      have h0 : (HB (Pn l j 0) (fun n => n = j ∨ Pn l j 0 n) l.length)[0]? = some (.row 0 1 (rB (fun n => dec (Pn l j 0 n)) l.length)) := rfl
      simp only [frzA, frzLeaf, toPV, h0, Nat.zero_add, rB_len, Nat.mul_one]
      rw [if_pos ⟨trivial, Nat.le_refl _⟩, List.drop_zero, List.take_of_length_le (by rw [rB_len]; omega), if_pos (by omega)]
      rfl
    simp only [frzAll, hf, obs, oms]
    rfl
  | succ k ih =>
    intro hk
    obtain ⟨H', e⟩ := ih (by omega)
    refine ⟨H', ?_⟩
    have hk' : k < l.length := by omega
    have hi : ((k + 1 : Nat) : Int) - 1 = k := by omega
    have h0 : (0 : Int) ≤ k := by omega
    have w1 : IntKind.i64.wrap ((k : Int) - 1) = (k : Int) - 1 := wrap_id (by omega)
    have hat : ld false 1 (.rptr 1 0 k) (HB (Pn l j (k + 1)) (fun n => n = j ∨ Pn l j (k + 1) n) l.length) = some (B (dec (k = j ∨ Pn l j (k + 1) k))) := by
      rw [ld_row (H := HB (Pn l j (k + 1)) (fun n => n = j ∨ Pn l j (k + 1) n) l.length) (id := 1) (xs := rB (fun n => dec (n = j ∨ Pn l j (k + 1) n)) l.length) rfl, rB_at _ hk']
      rfl
    have hD : (k = j ∨ Pn l j (k + 1) k) ↔ Dn l j k := by
      unfold Dn
      refine or_congr Iff.rfl ?_
      rw [bf_head]
      exact ⟨fun ⟨k', _, h⟩ => ⟨k', h⟩, fun ⟨k', h⟩ => ⟨k', h.1.1, h⟩⟩
    rw [hi, L78_12_eq]
    by_cases hd : Dn l j k
    · have hdb : dec (k = j ∨ Pn l j (k + 1) k) = true := dec_iff.mpr (hD.mpr hd)
      have hstep : ∀ n, (Pn l j (k + 1) n ∨ 0 ≤ n ∧ n < k ∧ ED l n k) ↔ Pn l j k n := by
        intro n
        constructor
        · rintro (⟨k', h1, h2⟩ | ⟨_, _, h⟩)
          · exact ⟨k', by omega, h2⟩
          · exact ⟨k, Nat.le_refl _, h, hd⟩
        · rintro ⟨k', h1, h2⟩
          by_cases e : k' = k
          · subst e; exact .inr ⟨Nat.zero_le _, h2.1.1, h2.1⟩
          · exact .inl ⟨k', by omega, h2⟩
      have hl := loop78 (nl := nl) (tg := tg) hk' hL k 0 (Pn l j (k + 1)) (fun n => n = j ∨ Pn l j (k + 1) n) (by omega) (by omega)
      have e1 : rB (fun n => dec (Pn l j (k + 1) n ∨ 0 ≤ n ∧ n < k ∧ ED l n k)) l.length = rB (fun n => dec (Pn l j k n)) l.length := rB_dec _ fun n _ => hstep n
      have e2 : rB (fun n => dec ((n = j ∨ Pn l j (k + 1) n) ∨ 0 ≤ n ∧ n < k ∧ ED l n k)) l.length = rB (fun n => dec (n = j ∨ Pn l j k n)) l.length := rB_dec _ fun n _ => by
        rw [or_assoc, hstep n]
      unfold HB at hl e hat ⊢
      rw [e1, e2] at hl
      rw [hdb] at hat
      simp only [h0, hbI hk', hat, obs, oms, bin_add, bin_sub, bin_lss, bin_leq, bin_gtr, bin_geq, bin_eql, bin_neq, bin_eqlB, bin_neqB, un_not, cond_B, gd_B, gd_undef, gdH_B, gdH_undef, pickA_B, extractA_tup, lenA_sl, lenA_row, fldA_fp, fldA_ptr, fldA_rptr, List.getElem?_cons_zero, List.getElem?_cons_succ, decide_true, decide_false, if_true, if_false, Bool.true_eq_false, Bool.false_eq_true, Bool.not_true, Bool.not_false]
      rw [show (0 : Int) = ((0 : Nat) : Int) from rfl, hl, L78_15_eq]
      simp only [w1, obs, oms, bin_add, bin_sub, bin_lss, bin_leq, bin_gtr, bin_geq, bin_eql, bin_neq, bin_eqlB, bin_neqB, un_not, cond_B, gd_B, gd_undef, gdH_B, gdH_undef, pickA_B, extractA_tup, lenA_sl, lenA_row, fldA_fp, fldA_ptr, fldA_rptr, List.getElem?_cons_zero, List.getElem?_cons_succ, decide_true, decide_false, if_true, if_false, Bool.true_eq_false, Bool.false_eq_true, Bool.not_true, Bool.not_false]
      exact e
    · have hdb : dec (k = j ∨ Pn l j (k + 1) k) = false := by
        cases h2 : dec (k = j ∨ Pn l j (k + 1) k) with
        | false => rfl
        | true => exact (hd (hD.mp (dec_iff.mp h2))).elim
      have hstep : ∀ n, Pn l j k n ↔ Pn l j (k + 1) n := by
        intro n
        constructor
        · rintro ⟨k', h1, h2⟩
          have : k' ≠ k := fun e => hd (e ▸ h2.2)
          exact ⟨k', by omega, h2⟩
        · rintro ⟨k', h1, h2⟩
          exact ⟨k', by omega, h2⟩
      have e1 : rB (fun n => dec (Pn l j k n)) l.length = rB (fun n => dec (Pn l j (k + 1) n)) l.length := rB_dec _ fun n _ => hstep n
      have e2 : rB (fun n => dec (n = j ∨ Pn l j k n)) l.length = rB (fun n => dec (n = j ∨ Pn l j (k + 1) n)) l.length := rB_dec _ fun n _ => by rw [hstep n]
      unfold HB at e hat ⊢
      rw [e1, e2] at e
      rw [hdb] at hat
      simp only [h0, hbI hk', hat, L78_15_eq, w1, obs, oms, bin_add, bin_sub, bin_lss, bin_leq, bin_gtr, bin_geq, bin_eql, bin_neq, bin_eqlB, bin_neqB, un_not, cond_B, gd_B, gd_undef, gdH_B, gdH_undef, pickA_B, extractA_tup, lenA_sl, lenA_row, fldA_fp, fldA_ptr, fldA_rptr, List.getElem?_cons_zero, List.getElem?_cons_succ, decide_true, decide_false, if_true, if_false, Bool.true_eq_false, Bool.false_eq_true, Bool.not_true, Bool.not_false]
      exact e

theorem ent78 {j : Nat} (hj : j < l.length) (hL : l.length < 2 ^ 40) : ∃ H', O.ent 78 [Rw enc nl tg l, I j] [] [] = some ([.p (.sl (some false) false l.length (rB (fun n => dec (Bf (ED l) n j)) l.length))], H') := by
  obtain ⟨H', e⟩ := down78 (nl := nl) (tg := tg) hj hL (j + 1) (Nat.le_refl _)
  refine ⟨H', ?_⟩
  have hno : ∀ n, ¬ Pn l j (j + 1) n := by
    rintro n ⟨k', h1, _, h2⟩
    rcases h2 with h2 | h2
    · omega
    · have := bf_lt (edOk l) h2; omega
  have hz : zerosA l.length [(.v (.bool false))] = rB (fun n => dec (Pn l j (j + 1) n)) l.length := by
    rw [zeros_one]
    refine List.ext_getElem (by simp [rB]) fun n a b => ?_
    have : dec (Pn l j (j + 1) n) = false := by
      cases h : dec (Pn l j (j + 1) n) with
      | false => rfl
      | true => exact (hno n (dec_iff.mp h)).elim
    simp [rB, this]
  have mk : ∀ H : Heap, mkRow 1 1 [(.v (.bool false))] (I l.length) (I l.length) H = some (.row H.length 0 0 l.length, H ++ [.row 0 1 (rB (fun n => dec (Pn l j (j + 1) n)) l.length)]) := by
    intro H
    simp only [mkRow, asI, obs]
    rw [if_pos ⟨by omega, by omega, by simp only [room]; omega⟩, Int.toNat_natCast, hz]
  have mk1 := mk []
  have mk2 := mk [.row 0 1 (rB (fun n => dec (Pn l j (j + 1) n)) l.length)]
  have s1 : stA 1 (.rptr 1 0 j) (B true) [] [.row 0 1 (rB (fun n => dec (Pn l j (j + 1) n)) l.length), .row 0 1 (rB (fun n => dec (Pn l j (j + 1) n)) l.length)] = some (HB (Pn l j (j + 1)) (fun n => n = j ∨ Pn l j (j + 1) n) l.length) := by
    rw [stA_row (H := [.row 0 1 (rB (fun n => dec (Pn l j (j + 1) n)) l.length), .row 0 1 (rB (fun n => dec (Pn l j (j + 1) n)) l.length)]) (id := 1) (xs := rB (fun n => dec (Pn l j (j + 1) n)) l.length) rfl (by rw [rB_len]; exact hj), rB_or, rB_dec (P := fun n => Pn l j (j + 1) n ∨ n = j) (Q := fun n => n = j ∨ Pn l j (j + 1) n) l.length fun n _ => or_comm]
    rfl
  have hi : ((j + 1 : Nat) : Int) - 1 = j := by omega
  rw [hi] at e
  rw [f78_eq]
  simp only [List.length_nil, List.nil_append] at mk1
  simp only [List.length_singleton, List.cons_append, List.nil_append] at mk2
  simp only [lenA_sl, mk1, mk2, hbI hj, s1, obs, oms]
  exact e
end
end Cl
end Go.Proofs.Ytkhbbjfdbbnojaa
