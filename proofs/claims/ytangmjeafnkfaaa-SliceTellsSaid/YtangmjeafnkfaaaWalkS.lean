import Derived.Test.YtangmjeafnkfaaaESnapPatches
import Derived.Test.YtangmjeafnkfaaaEWalkTells
set_option linter.unusedVariables false
set_option linter.unusedSimpArgs false
namespace Go.Proofs.Ytangmjeafnkfaaa
open Go Go.AM

theorem between_ent (a b c : Int) : O.ent 61 [I a, I b, I c] [] [] = some ([B (decide (b ≤ a) && decide (a ≤ c))], []) := by
  rw [f61_eq]
  by_cases h : b ≤ a <;> simp [h]

theorem between_eq (a b c : Int) (lo : List Nat) (H : Heap) : callA cfg O 61 [I a, I b, I c] lo H = some (B (decide (b ≤ a) && decide (a ≤ c)), H) :=
  callA_pure (xs := [Ia a, Ia b, Ia c]) rfl (between_ent a b c) rfl

namespace Walk
abbrev Mk := Int × Int × Int
def three (p : Mk) : List PV := [Ia p.1, Ia p.2.1, Ia p.2.2]
theorem three_len (p : Mk) : (three p).length = 3 := rfl
def aggOf (p : Mk) : AV := .agg [I p.1, I p.2.1, I p.2.2]

def chk (n : Nat) (i how : Int) : Int := if 200 < n then 2 else if i < 0 ∨ (n : Int) ≤ i ∨ how < 1 ∨ 4 < how then 1 else 0

def reach (a b : Mk) (how : Int) : Bool :=
  decide (how = 1) || (decide (a.1 = b.1) && (decide (b.2.1 < a.2.1) || (decide (b.2.1 = a.2.1) && (decide (how = 2) || (decide (how = 4) && !decide (a.2.2 = b.2.2))))))

theorem f84_spec {nl : Option Bool} {tg : Bool} {n : Nat} {xs : List PV} (i how : Int) : O.ent 84 [.p (.sl nl tg n xs), I i, I how] [] [] = some ([I (chk n i how)], []) := by
  rw [f84_eq]
  unfold chk
  by_cases h0 : (200 : Int) < n
  · have h0' : 200 < n := by omega
    simp [h0, h0']
  · have h0' : ¬ 200 < n := by omega
    by_cases h1 : i < 0 <;> by_cases h2 : (n : Int) ≤ i <;> by_cases h3 : how < 1 <;> by_cases h4 : 4 < how <;> simp [h0, h0', h1, h2, h3, h4]

theorem f32_spec {nl : Option Bool} {tg : Bool} {n : Nat} {xs : List PV} (i how : Int) : O.ent 32 [.p (.sl nl tg n xs), I i, I how] [] [] = some ([I (chk n i how)], []) := by
  rw [f32_eq]
  unfold chk
  by_cases h0 : (200 : Int) < n
  · have h0' : 200 < n := by omega
    simp [h0, h0']
  · have h0' : ¬ 200 < n := by omega
    simp only [lenA_sl, obs, bin_gtr, h0, decide_false, cond_B, Bool.false_eq_true, if_false, bin_sub]
    rw [wrap_id (by omega)]
    by_cases h1 : 0 ≤ i <;> by_cases h2 : i ≤ (n : Int) - 1 <;> by_cases h3 : 1 ≤ how <;> by_cases h4 : how ≤ 4 <;> simp [between_eq, h0', h1, h2, h3, h4] <;> omega

theorem f85_spec (a b : Mk) (how : Int) : ∃ H', O.ent 85 [aggOf a, aggOf b, I how] [] [] = some ([B (if how < 1 ∨ 4 < how then (decide (a.1 = b.1) && (decide (b.2.1 < a.2.1) || (decide (b.2.1 = a.2.1) && !decide (b.2.2 = a.2.2)))) else (decide (how = 1) || (decide (a.1 = b.1) && (decide (b.2.1 < a.2.1) || (decide (b.2.1 = a.2.1) && (decide (how = 2) || (decide (how = 4) && !decide (b.2.2 = a.2.2)))))))) ], H') := by
  obtain ⟨a1, a2, a3⟩ := a
  obtain ⟨b1, b2, b3⟩ := b
  refine ⟨[.box [I a1, I a2, I a3], .box [I b1, I b2, I b3]], ?_⟩
  rw [f85_eq]
  have e1 : boxO [] (AV.cells (aggOf (a1, a2, a3))) [] = some (.ptr 0 0, [.box [I a1, I a2, I a3]]) := rfl
  have e2 : boxO [] (AV.cells (aggOf (b1, b2, b3))) [.box [I a1, I a2, I a3]] = some (.ptr 1 0, [.box [I a1, I a2, I a3], .box [I b1, I b2, I b3]]) := rfl
  rw [e1]
  simp only [obs]
  rw [e2]
  simp only [obs, bin_eql, cond_B, fldA_ptr, Nat.zero_add]
  have l0 : ld false 1 (.ptr 0 0) [.box [I a1, I a2, I a3], .box [I b1, I b2, I b3]] = some (I a1) := rfl
  have l1 : ld false 1 (.ptr 0 1) [.box [I a1, I a2, I a3], .box [I b1, I b2, I b3]] = some (I a2) := rfl
  have l2 : ld false 1 (.ptr 0 2) [.box [I a1, I a2, I a3], .box [I b1, I b2, I b3]] = some (I a3) := rfl
  have m0 : ld false 1 (.ptr 1 0) [.box [I a1, I a2, I a3], .box [I b1, I b2, I b3]] = some (I b1) := rfl
  have m1 : ld false 1 (.ptr 1 1) [.box [I a1, I a2, I a3], .box [I b1, I b2, I b3]] = some (I b2) := rfl
  have m2 : ld false 1 (.ptr 1 2) [.box [I a1, I a2, I a3], .box [I b1, I b2, I b3]] = some (I b3) := rfl
  generalize [AObj.box [I a1, I a2, I a3], .box [I b1, I b2, I b3]] = H at *
  simp only [l0, l1, l2, m0, m1, m2, obs, bin_neq, bin_eql, bin_leq, bin_lss, cond_B, gd_B, pickA_B, leave0_B]
  by_cases g1 : how = 1
  · simp only [g1, decide_true, if_true]
    simp
  simp only [g1, decide_false, Bool.false_eq_true, if_false]
  by_cases g2 : a1 = b1
  · simp only [g2, decide_true, Bool.not_true, Bool.false_eq_true, if_false]
    by_cases g3 : how = 2
    · simp only [g3, decide_true, if_true]
      by_cases g5 : b2 < a2 <;> by_cases g6 : b2 = a2 <;> simp [g5, g6] <;> omega
    simp only [g3, decide_false, Bool.false_eq_true, if_false]
    by_cases g4 : how = 3
    · simp only [g4, decide_true, if_true]
      simp
    simp only [g4, decide_false, Bool.false_eq_true, if_false]
    by_cases g5 : b2 < a2
    · simp only [g5, decide_true, Bool.true_eq_false, if_false, obs, gd_undef, pickA_B, if_true, leave0_B]
      simp
    · simp only [g5, decide_false, Bool.false_eq_true, if_true, if_false, obs, pickA_B, leave0_B, gd_B, l0, l1, l2, m0, m1, m2, bin_eql]
      by_cases g6 : b2 = a2
      · simp only [g6, decide_true, if_true, obs, l2, m2, gd_B, bin_neq, pickA_B, leave0_B]
        by_cases g8 : how < 1 ∨ 4 < how
        · simp only [if_pos g8]; simp
        · have g9 : how = 4 := by omega
          simp only [if_neg g8, g9]; simp
      · simp only [g6, decide_false, Bool.false_eq_true, if_false, obs, gd_undef, gd_B, pickA_B, leave0_B]
        simp
  · simp only [g2, decide_false, Bool.not_false, if_true]
    simp

end Walk
end Go.Proofs.Ytangmjeafnkfaaa
