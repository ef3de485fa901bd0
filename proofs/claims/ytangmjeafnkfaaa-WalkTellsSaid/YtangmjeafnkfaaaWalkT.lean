import Derived.Test.YtangmjeafnkfaaaWalkS
set_option linter.unusedVariables false
set_option linter.unusedSimpArgs false
namespace Go.Proofs.Ytangmjeafnkfaaa
open Go Go.AM
namespace Walk

theorem f33_spec (a b : Mk) (how : Int) : ∃ H', O.ent 33 [aggOf a, aggOf b, I how] [] [] = some ([B (decide (how = 1) || (decide (a.1 = b.1) && (decide (b.2.1 < a.2.1) || (decide (b.2.1 = a.2.1) && (decide (how = 2) || (decide (how = 4) && !decide (b.2.2 = a.2.2)))))))], H') := by
  obtain ⟨a1, a2, a3⟩ := a
  obtain ⟨b1, b2, b3⟩ := b
  refine ⟨[.box [I a1, I a2, I a3], .box [I b1, I b2, I b3]], ?_⟩
  rw [f33_eq]
  have e1 : boxO [] (AV.cells (aggOf (a1, a2, a3))) [] = some (.ptr 0 0, [.box [I a1, I a2, I a3]]) := rfl
  have e2 : boxO [] (AV.cells (aggOf (b1, b2, b3))) [.box [I a1, I a2, I a3]] = some (.ptr 1 0, [.box [I a1, I a2, I a3], .box [I b1, I b2, I b3]]) := rfl
  rw [e1]
  simp only [obs]
  rw [e2]
  simp only [obs, bin_eql, cond_B, fldA_ptr, Nat.zero_add]
  have l0 : ld false 1 (.ptr 0 0) [.box [I a1, I a2, I a3], .box [I b1, I b2, I b3]] = some (I a1) := rfl
  have l1 : ld false 1 (.ptr 0 1) [.box [I a1, I a2, I a3], .box [I b1, I b2, I b3]] = some (I a2) := rfl
  have l2 : ld false 1 (.ptr 0 2) [.box [I a1, I a2, I a3], .box [I b1, I b2, I b3]] = some (I a3) := rfl
  have m0 : ld false 1 (.ptr 1 0) [.box [I a1, I a2, I a3], .box [I b1, I b2, I b3]] = some (I b1) := rfl
  have m1 : ld false 1 (.ptr 1 1) [.box [I a1, I a2, I a3], .box [I b1, I b2, I b3]] = some (I b2) := rfl
  have m2 : ld false 1 (.ptr 1 2) [.box [I a1, I a2, I a3], .box [I b1, I b2, I b3]] = some (I b3) := rfl
  generalize [AObj.box [I a1, I a2, I a3], .box [I b1, I b2, I b3]] = H at *
  simp only [l0, l1, l2, m0, m1, m2, obs, bin_neq, bin_eql, bin_leq, bin_lss, cond_B, gd_B, gd_undef, pickA_B, leave0_B]
  by_cases g1 : how = 1
  · simp only [g1, decide_true, if_true]
    simp
  simp only [g1, decide_false, Bool.false_eq_true, if_false]
  by_cases g2 : a1 = b1
  · simp only [g2, decide_true, if_true, obs, l0, l1, l2, m0, m1, m2, bin_lss, bin_eql, pickA_B]
    by_cases g5 : b2 < a2
    · simp only [g5, decide_true, Bool.true_eq_false, if_false, obs, gd_undef, gd_B, pickA_B, if_true, leave0_B]
      simp
    · simp only [g5, decide_false, if_true, obs, gd_B, pickA_B, Bool.false_eq_true, if_false]
      have s1 : (decide (a3 = b3)) = decide (b3 = a3) := by simp [eq_comm]
      by_cases g6 : b2 = a2 <;> by_cases g3 : how = 2
      · simp [-Option.bind_some, obs, g3, g6]
      · by_cases g4 : how = 4
        · simp [-Option.bind_some, obs, g4, g6, l0, l1, l2, m0, m1, m2, s1]
        · simp [-Option.bind_some, obs, g3, g4, g6]
      · simp [-Option.bind_some, obs, g3, g6]
      · by_cases g4 : how = 4
        · simp [-Option.bind_some, obs, g4, g6]
        · simp [-Option.bind_some, obs, g3, g4, g6]
  · simp only [g2, decide_false, if_true, obs, gd_B, gd_undef, pickA_B, Bool.false_eq_true, if_false]
    by_cases g3 : how = 2
    · simp [-Option.bind_some, obs, g3]
    · by_cases g4 : how = 4
      · simp [-Option.bind_some, obs, g4]
      · simp [-Option.bind_some, obs, g3, g4]

def rch (a b : Mk) (how : Int) : Bool := decide (how = 1) || (decide (a.1 = b.1) && (decide (b.2.1 < a.2.1) || (decide (b.2.1 = a.2.1) && (decide (how = 2) || (decide (how = 4) && !decide (b.2.2 = a.2.2))))))

theorem call33 (a b : Mk) (how : Int) (lo : List Nat) (H : Heap) : callA cfg O 33 [aggOf a, aggOf b, I how] lo H = some (B (rch a b how), H) :=
  let ⟨_, h⟩ := f33_spec a b how
  callA_args rfl rfl h rfl

theorem call85 (a b : Mk) {how : Int} (h1 : 1 ≤ how ∧ how ≤ 4) (lo : List Nat) (H : Heap) : callA cfg O 85 [aggOf a, aggOf b, I how] lo H = some (B (rch a b how), H) := by
  obtain ⟨H', h⟩ := f85_spec a b how
  rw [if_neg (by omega)] at h
  exact callA_args rfl rfl h rfl

theorem call84 {nl : Option Bool} {tg : Bool} {n : Nat} {xs : List PV} (i how : Int) (lo : List Nat) (H : Heap) : callA cfg O 84 [.p (.sl nl tg n xs), I i, I how] lo H = some (I (chk n i how), H) :=
  callA_args rfl rfl (f84_spec i how) rfl

theorem call32 {nl : Option Bool} {tg : Bool} {n : Nat} {xs : List PV} (i how : Int) (lo : List Nat) (H : Heap) : callA cfg O 32 [.p (.sl nl tg n xs), I i, I how] lo H = some (I (chk n i how), H) :=
  callA_args rfl rfl (f32_spec i how) rfl

/-! ### What the lists hold -/
def at' (l : List Mk) (k : Nat) : Mk := l.getD k (0, 0, 0)

theorem get_at {l : List Mk} {k : Nat} (h : k < l.length) : l[k]? = some (at' l k) := by
  rw [List.getElem?_eq_getElem h]; simp [at', List.getD, h]

section
variable {nl : Option Bool} {tg : Bool} {l : List Mk}

abbrev V (nl : Option Bool) (tg : Bool) (l : List Mk) : AV := .p (.sl nl tg l.length (l.flatMap three))

theorem idx {k : Nat} (h : k < l.length) : idxA 3 (V nl tg l) (I k) = some (.fp (l.flatMap three) (k * 3)) := by
  have := idxA_sl (sz := 3) (n := l.length) (nl := nl) (t := tg) (xs := l.flatMap three) (j := (k : Int)) (by omega)
  simpa using this

theorem whole {k : Nat} (h : k < l.length) (H : Heap) : ld true 3 (.fp (l.flatMap three) (k * 3)) H = some (aggOf (at' l k)) := by
  rw [ldAgg_fp (by rw [rows_length three_len]; omega), rows_part three_len (get_at h)]
  rfl

theorem part {k j : Nat} (h : k < l.length) (hj : j < 3) (H : Heap) : ld false 1 (.fp (l.flatMap three) (k * 3 + j)) H = ((three (at' l k))[j]?).map .p := by
  rw [ld_fp, rows_get three_len (get_at h) hj]

/-! ### First and last -/
def IsFst (p : Nat → Bool) (lo hi : Nat) (z : Int) : Prop := (z = -1 ∧ ∀ j, lo ≤ j → j < hi → p j = false) ∨ (∃ k : Nat, z = k ∧ lo ≤ k ∧ k < hi ∧ p k = true ∧ ∀ j, lo ≤ j → j < k → p j = false)
def IsLst (p : Nat → Bool) (hi : Nat) (z : Int) : Prop := (z = -1 ∧ ∀ j, j < hi → p j = false) ∨ (∃ k : Nat, z = k ∧ k < hi ∧ p k = true ∧ ∀ j, k < j → j < hi → p j = false)

theorem IsFst.uniq {p : Nat → Bool} {lo hi : Nat} {x y : Int} (hx : IsFst p lo hi x) (hy : IsFst p lo hi y) : x = y := by
  rcases hx with ⟨rfl, hx⟩ | ⟨k, rfl, h1, h2, h3, h4⟩ <;> rcases hy with ⟨rfl, hy⟩ | ⟨k', rfl, h1', h2', h3', h4'⟩
  · rfl
  · rw [hx k' h1' h2'] at h3'; cases h3'
  · rw [hy k h1 h2] at h3; cases h3
  · rcases Nat.lt_trichotomy k k' with e | e | e
    · rw [h4' k h1 e] at h3; cases h3
    · rw [e]
    · rw [h4 k' h1' e] at h3'; cases h3'

theorem IsLst.uniq {p : Nat → Bool} {hi : Nat} {x y : Int} (hx : IsLst p hi x) (hy : IsLst p hi y) : x = y := by
  rcases hx with ⟨rfl, hx⟩ | ⟨k, rfl, h2, h3, h4⟩ <;> rcases hy with ⟨rfl, hy⟩ | ⟨k', rfl, h2', h3', h4'⟩
  · rfl
  · rw [hx k' h2'] at h3'; cases h3'
  · rw [hy k h2] at h3; cases h3
  · rcases Nat.lt_trichotomy k k' with e | e | e
    · rw [h4 k' e h2'] at h3'; cases h3'
    · rw [e]
    · rw [h4' k e h2] at h3; cases h3

def outI (z : Int) (b : Bool) : List AV := [I (max z 0), I 0]

theorem nextLoop {i : Nat} {how : Int} (hi : i < l.length) (hn : l.length ≤ 200) (hh : 1 ≤ how ∧ how ≤ 4) (lo : List Nat) : ∀ (c k : Nat), l.length - k = c → k ≤ l.length → (∀ j, i + 1 ≤ j → j < k → rch (at' l i) (at' l j) how = false) → i + 1 ≤ k →
    ∃ z, IsFst (fun j => rch (at' l i) (at' l j) how) (i + 1) l.length z ∧ L29_12 [V nl tg l, I i, I how, I k] lo [] = some ([I (max z 0), B (decide (0 ≤ z)), I 0], []) := by
  intro c
  induction c with
  | zero =>
    intro k hc hk hno hik
    have : k = l.length := by omega
    subst this
    refine ⟨-1, .inl ⟨rfl, hno⟩, ?_⟩
    rw [L29_12_eq]
    simp only [lenA_sl, obs, bin_lss, cond_B]
    rw [if_neg (by simp)]
    rfl
  | succ c ih =>
    intro k hc hk hno hik
    have hk' : k < l.length := by omega
    rw [L29_12_eq]
    simp only [lenA_sl, obs, bin_lss, cond_B]
    rw [if_pos (by simp; omega), idx hi, obs, whole hi, obs, idx hk', obs, whole hk', obs, call85 _ _ hh]
    simp only [obs, cond_B, bin_add]
    by_cases hr : rch (at' l i) (at' l k) how = true
    · refine ⟨k, .inr ⟨k, rfl, hik, hk', hr, hno⟩, ?_⟩
      rw [if_pos hr, show max (k : Int) 0 = k by omega, show decide ((0 : Int) ≤ k) = true by simp]
      rfl
    · rw [if_neg hr, wrap_id (by omega), show (k : Int) + 1 = ((k + 1 : Nat) : Int) by omega]
      refine ih (k + 1) (by omega) (by omega) (fun j h1 h2 => ?_) (by omega)
      rcases Nat.lt_or_ge j k with e | e
      · exact hno j h1 e
      · rw [show j = k by omega]; simpa using hr

theorem lastLoop {i : Nat} {how : Int} (hi : i < l.length) (hn : l.length ≤ 200) (hh : 1 ≤ how ∧ how ≤ 4) (lo : List Nat) : ∀ (k : Nat), k ≤ i → (∀ j, k ≤ j → j < i → rch (at' l j) (at' l i) how = false) →
    ∃ z, IsLst (fun j => rch (at' l j) (at' l i) how) i z ∧ L30_12 [V nl tg l, I i, I how, I ((k : Int) - 1)] lo [] = some ([I (max z 0), B (decide (0 ≤ z)), I 0], []) := by
  intro k
  induction k with
  | zero =>
    intro hk hno
    refine ⟨-1, .inl ⟨rfl, fun j hj => hno j (by omega) hj⟩, ?_⟩
    rw [L30_12_eq]
    simp only [obs, bin_geq, cond_B]
    rw [if_neg (by simp)]
    rfl
  | succ k ih =>
    intro hk hno
    have hk' : k < l.length := by omega
    rw [L30_12_eq, show ((k + 1 : Nat) : Int) - 1 = k by omega]
    simp only [obs, bin_geq, cond_B]
    rw [if_pos (by simp), idx hk', obs, whole hk', obs, idx hi, obs, whole hi, obs, call85 _ _ hh]
    simp only [obs, cond_B, bin_sub]
    by_cases hr : rch (at' l k) (at' l i) how = true
    · refine ⟨k, .inr ⟨k, rfl, by omega, hr, fun j h1 h2 => hno j (by omega) h2⟩, ?_⟩
      rw [if_pos hr, show max (k : Int) 0 = k by omega, show decide ((0 : Int) ≤ k) = true by simp]
      rfl
    · rw [if_neg hr, wrap_id (by omega)]
      refine ih (by omega) (fun j h1 h2 => ?_)
      rcases Nat.lt_or_ge k j with e | e
      · exact hno j (by omega) h2
      · rw [show j = k by omega]; simpa using hr

/-! ### Top -/
def low (l : List Mk) (i j : Nat) : Bool := decide ((at' l j).1 = (at' l i).1) && decide ((at' l j).2.1 < (at' l i).2.1)
def okAt (l : List Mk) (i k : Nat) : Prop := (at' l k).1 = (at' l i).1 ∧ ∀ j, k ≤ j → j ≤ i → low l i j = false
def IsTop (l : List Mk) (i : Nat) (t : Nat) : Prop := t ≤ i ∧ okAt l i t ∧ ∀ k, k < t → ¬ okAt l i k

theorem IsTop.uniq {i s t : Nat} (hs : IsTop l i s) (ht : IsTop l i t) : s = t := by
  rcases Nat.lt_trichotomy s t with e | e | e
  · exact (ht.2.2 s e hs.2.1).elim
  · exact e
  · exact (hs.2.2 t e ht.2.1).elim

theorem topLoop {i : Nat} (hi : i < l.length) (hn : l.length ≤ 200) (lo : List Nat) : ∀ (k t : Nat), k ≤ t → t ≤ i → okAt l i t → (∀ j, k ≤ j → j ≤ i → low l i j = false) → (∀ j, k ≤ j → j < t → (at' l j).1 ≠ (at' l i).1) →
    ∃ t' : Nat, IsTop l i t' ∧ L31_14 [V nl tg l, I i, I t, I ((k : Int) - 1)] lo [] = some ([I t', I 0], []) := by
  intro k
  induction k with
  | zero =>
    intro t hk ht hok hlow hne
    refine ⟨t, ⟨ht, hok, fun j hj hb => hne j (by omega) hj hb.1⟩, ?_⟩
    rw [L31_14_eq]
    simp only [obs, bin_geq, cond_B]
    rw [if_neg (by simp)]
    rfl
  | succ k ih =>
    intro t hk ht hok hlow hne
    have hk' : k < l.length := by omega
    rw [L31_14_eq, show ((k + 1 : Nat) : Int) - 1 = k by omega]
    simp only [obs, bin_geq, cond_B]
    rw [if_pos (by simp), idx hk', obs, idx hi]
    simp only [obs, fldA_fp, part hk' (show 0 < 3 by omega), part hk' (show 1 < 3 by omega), part hi (show 0 < 3 by omega), part hi (show 1 < 3 by omega), three, List.getElem?_cons_zero, List.getElem?_cons_succ, oms, bin_neq, bin_lss, cond_B]
    by_cases e : (at' l k).1 = (at' l i).1
    · simp only [e, decide_true, Bool.not_true, Bool.false_eq_true, if_false]
      by_cases e2 : (at' l k).2.1 < (at' l i).2.1
      · simp only [e2, decide_true, if_true]
        refine ⟨t, ⟨ht, hok, fun j hj hb => ?_⟩, rfl⟩
        rcases Nat.lt_or_ge k j with e3 | e3
        · exact hne j (by omega) hj hb.1
        · have := hb.2 k e3 (by omega)
          simp [low, e, e2] at this
      · simp only [e2, decide_false, Bool.false_eq_true, if_false]
        rw [L31_17_eq]
        simp only [bin_sub, obs]
        rw [wrap_id (by omega)]
        have hlow' : ∀ j, k ≤ j → j ≤ i → low l i j = false := fun j h1 h2 => by
          rcases Nat.lt_or_ge k j with e3 | e3
          · exact hlow j (by omega) h2
          · rw [show j = k by omega]; simp [low, e2]
        exact ih k (by omega) (by omega) ⟨e, hlow'⟩ hlow' fun j h1 h2 => by omega
    · simp only [e, decide_false, Bool.not_false, if_true]
      rw [L31_17_eq]
      simp only [bin_sub, obs]
      rw [wrap_id (by omega)]
      refine ih t (by omega) ht hok (fun j h1 h2 => ?_) fun j h1 h2 => ?_
      · rcases Nat.lt_or_ge k j with e3 | e3
        · exact hlow j (by omega) h2
        · rw [show j = k by omega]; simp [low, e]
      · rcases Nat.lt_or_ge k j with e3 | e3
        · exact hne j (by omega) h2
        · rw [show j = k by omega]; exact e

end
end Walk
end Go.Proofs.Ytangmjeafnkfaaa
