import Derived.Test.YtangmjeafnkfaaaSnpE
import Derived.Test.YtangmjeafnkfaaaAm18
namespace Go.Proofs.Ytangmjeafnkfaaa.Snp
open Go Go.AM

theorem sameLoop {nx ny : Option Bool} {tx ty : Bool} {x y : List Int} (hl : y.length = x.length) (hb : x.length < 2 ^ 63) (lo : List Nat) : ∀ (k i : Nat), x.length - i = k → i ≤ x.length →
    L17_10 [.p (.sl nx tx x.length (x.map Ia)), .p (.sl ny ty x.length (y.map Ia)), I i] lo [] = some ([B (decide (x.drop i = y.drop i))], []) := by
  intro k
  induction k with
  | zero =>
    intro i hk hi
    have : i = x.length := by omega
    subst this
    rw [L17_10_eq]
    simp [List.drop_eq_nil_of_le, hl]
  | succ k ih =>
    intro i hk hi
    have hi' : i < x.length := by omega
    have hiy : i < y.length := by omega
    rw [L17_10_eq]
    simp only [lenA_sl, Option.bind_some, bin_lss, cond_B]
    rw [if_pos (by simp; omega), idxA_sl (by omega)]
    simp only [Option.bind_some, ld_fp, Int.toNat_natCast, Nat.mul_one, List.getElem?_map, List.getElem?_eq_getElem hi', Option.map_some, idxA_sl (show (0 : Int) ≤ i ∧ (i : Int) < (x.length : Nat) by omega), List.getElem?_eq_getElem hiy, bin_neq, cond_B, leave0_B, bin_add]
    rw [wrap_id (by omega)]
    have hd : (x.drop i = y.drop i) ↔ (x[i] = y[i] ∧ x.drop (i + 1) = y.drop (i + 1)) := by
      rw [List.drop_eq_getElem_cons hi', List.drop_eq_getElem_cons hiy, List.cons.injEq]
    by_cases e : x[i] = y[i]
    · have := ih (i + 1) (by omega) (by omega)
      simp only [e, decide_true, Bool.not_true, Bool.false_eq_true, if_false]
      rw [show (i : Int) + 1 = ((i + 1 : Nat) : Int) by omega, this]
      simp only [hd, e, true_and]
    · simp only [hd, e, decide_false, Bool.not_false, if_true, false_and]

theorem sameInts {nx ny : Option Bool} {tx ty : Bool} {x y : List Int} (hb : x.length < 2 ^ 63) :
    O.ent 17 [.p (.sl nx tx x.length (x.map Ia)), .p (.sl ny ty y.length (y.map Ia))] [] [] = some ([B (decide (x = y))], []) := by
  rw [f17_eq]
  simp only [lenA_sl, Option.bind_some, bin_neq, cond_B]
  by_cases e : y.length = x.length
  · have := sameLoop (nx := nx) (ny := ny) (tx := tx) (ty := ty) e hb [] x.length 0 (by omega) (by omega)
    simp only [List.drop_zero] at this
    rw [e]
    simp only [decide_true, Bool.not_true, Bool.false_eq_true, if_false]
    exact this
  · have h1 : x ≠ y := fun h => e (by rw [h])
    have h2 : ¬ ((x.length : Int) = (y.length : Int)) := by omega
    simp [h1, h2]

end Go.Proofs.Ytangmjeafnkfaaa.Snp
