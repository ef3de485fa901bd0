import Derived.Test.YtkhbbjfdbbnojaaThT
set_option linter.unusedVariables false
set_option linter.unusedSimpArgs false
namespace Go.Proofs.Ytkhbbjfdbbnojaa
open Go Go.AM
namespace Th

theorem rem_nat (k : IntKind) (a b : Nat) (hb : b ≠ 0) : bin .rem .int (.p (.v (.int k a))) (.p (.v (.int k b))) = some (.p (.v (.int k ((a % b : Nat) : Int)))) := by
  have : bin .rem .int (.p (.v (.int k a))) (.p (.v (.int k b))) = (if (isShift .rem || decide (k = k)) = true then (if (b : Int) = 0 then none else some (Value.int k ((a : Int).tmod b))).map fun v => AV.p (.v v) else none) := rfl
  rw [this, if_pos (by simp), if_neg (by omega)]
  simp [Int.tmod_eq_emod_of_nonneg]


theorem p2le {e : Nat} (h : e ≤ 12) : 2 ^ e ≤ 4096 := Nat.le_trans (Nat.pow_le_pow_right (by omega) h) (by decide)
theorem p2lt {e n : Nat} (h : 2 ^ e ≤ n) (hn : n ≤ 4000) : e < 12 := by
  refine Nat.not_le.mp fun h2 => ?_
  have := Nat.pow_le_pow_right (n := 2) (by omega) h2
  have h3 : 2 ^ 12 = 4096 := by decide
  omega
theorem p2s (e : Nat) : 2 ^ (e + 1) = 2 ^ e + 2 ^ e := by rw [Nat.pow_succ]; omega

theorem loop71 {k n : Nat} (hk : k ≤ n) (hn : n ≤ 4000) : ∀ (c e : Nat), 12 - e = c → e ≤ 12 → L71_10 [I k, I n, I ((2 ^ e : Nat) : Int)] [] [] = some ([B (dec (∃ i, e ≤ i ∧ PK k n i))], []) := by
  intro c
  induction c with
  | zero =>
    intro e hc he
    have : e = 12 := by omega
    subst this
    have h1 : ¬ ((2 ^ 12 : Nat) : Int) ≤ n := by have : 2 ^ 12 = 4096 := by decide
                                                 omega
    rw [L71_10_eq, dec_f (fun ⟨i, h1, h2⟩ => by have := p2lt h2.1 hn; omega)]
    simp only [h1, obs, oms, bin_add, bin_sub, bin_lss, bin_leq, bin_gtr, bin_geq, bin_eql, bin_neq, bin_eqlB, bin_neqB, un_not, cond_B, gd_B, gd_undef, gdH_B, gdH_undef, pickA_B, extractA_tup, lenA_sl, lenA_row, fldA_fp, fldA_ptr, fldA_rptr, List.getElem?_cons_zero, List.getElem?_cons_succ, decide_true, decide_false, if_true, if_false, Bool.true_eq_false, Bool.false_eq_true, Bool.not_true, Bool.not_false]
    rfl
  | succ c ih =>
    intro e hc he
    have hp := Nat.two_pow_pos e
    have hple := p2le he
    by_cases h1 : 2 ^ e ≤ n
    · have h1' : ((2 ^ e : Nat) : Int) ≤ n := by omega
      have hrem : bin .rem .int (I k) (I ((2 ^ e : Nat) : Int)) = some (I ((k % 2 ^ e : Nat) : Int)) := rem_nat .i64 k (2 ^ e) (by omega)
      have w1 : IntKind.i64.wrap ((k : Int) + (2 ^ e : Nat)) = ((k + 2 ^ e : Nat) : Int) := by rw [wrap_id (by omega)]; omega
      have w2 : IntKind.i64.wrap (((k + 2 ^ e : Nat) : Int) + (2 ^ e : Nat)) = ((k + 2 ^ e + 2 ^ e : Nat) : Int) := by rw [wrap_id (by omega)]; omega
      have w3 : IntKind.i64.wrap (((2 ^ e : Nat) : Int) + (2 ^ e : Nat)) = ((2 ^ (e + 1) : Nat) : Int) := by rw [p2s, wrap_id (by omega)]; omega
      have fin := ih (e + 1) (by omega) (by omega)
      have hst : ¬ PK k n e → dec (∃ i, e + 1 ≤ i ∧ PK k n i) = dec (∃ i, e ≤ i ∧ PK k n i) := fun hno => dec_congr ⟨fun ⟨i, h1, h2⟩ => ⟨i, by omega, h2⟩, fun ⟨i, h1, h2⟩ => ⟨i, by
        have : i ≠ e := fun h3 => hno (h3 ▸ h2)
        omega, h2⟩⟩
      rw [L71_10_eq]
      by_cases h2 : k % 2 ^ e = 0
      · have h2' : ((k % 2 ^ e : Nat) : Int) = 0 := by omega
        by_cases h3 : n < k + 2 ^ e + 2 ^ e
        · have h3' : (n : Int) < ((k + 2 ^ e + 2 ^ e : Nat) : Int) := by omega
          have hd : dec (∃ i, e ≤ i ∧ PK k n i) = true := dec_iff.mpr ⟨e, Nat.le_refl _, h1, h2, h3⟩
          rw [hd]
          simp only [h1', hrem, h2', w1, w2, h3', obs, oms, bin_add, bin_sub, bin_lss, bin_leq, bin_gtr, bin_geq, bin_eql, bin_neq, bin_eqlB, bin_neqB, un_not, cond_B, gd_B, gd_undef, gdH_B, gdH_undef, pickA_B, extractA_tup, lenA_sl, lenA_row, fldA_fp, fldA_ptr, fldA_rptr, List.getElem?_cons_zero, List.getElem?_cons_succ, decide_true, decide_false, if_true, if_false, Bool.true_eq_false, Bool.false_eq_true, Bool.not_true, Bool.not_false]
          rfl
        · have h3' : ¬ (n : Int) < ((k + 2 ^ e + 2 ^ e : Nat) : Int) := by omega
          rw [hst fun h => h3 h.2.2] at fin
          simp only [h1', hrem, h2', w1, w2, h3', w3, obs, oms, bin_add, bin_sub, bin_lss, bin_leq, bin_gtr, bin_geq, bin_eql, bin_neq, bin_eqlB, bin_neqB, un_not, cond_B, gd_B, gd_undef, gdH_B, gdH_undef, pickA_B, extractA_tup, lenA_sl, lenA_row, fldA_fp, fldA_ptr, fldA_rptr, List.getElem?_cons_zero, List.getElem?_cons_succ, decide_true, decide_false, if_true, if_false, Bool.true_eq_false, Bool.false_eq_true, Bool.not_true, Bool.not_false]
          exact fin
      · have h2' : ¬ ((k % 2 ^ e : Nat) : Int) = 0 := by omega
        rw [hst fun h => h2 h.2.1] at fin
        simp only [h1', hrem, h2', w3, obs, oms, bin_add, bin_sub, bin_lss, bin_leq, bin_gtr, bin_geq, bin_eql, bin_neq, bin_eqlB, bin_neqB, un_not, cond_B, gd_B, gd_undef, gdH_B, gdH_undef, pickA_B, extractA_tup, lenA_sl, lenA_row, fldA_fp, fldA_ptr, fldA_rptr, List.getElem?_cons_zero, List.getElem?_cons_succ, decide_true, decide_false, if_true, if_false, Bool.true_eq_false, Bool.false_eq_true, Bool.not_true, Bool.not_false]
        exact fin
    · have h1' : ¬ ((2 ^ e : Nat) : Int) ≤ n := by omega
      have hno : ¬ ∃ i, e ≤ i ∧ PK k n i := fun ⟨i, h2, h3⟩ => by
        have := Nat.pow_le_pow_right (n := 2) (by omega) h2
        have := h3.1
        omega
      rw [L71_10_eq, dec_f hno]
      simp only [h1', obs, oms, bin_add, bin_sub, bin_lss, bin_leq, bin_gtr, bin_geq, bin_eql, bin_neq, bin_eqlB, bin_neqB, un_not, cond_B, gd_B, gd_undef, gdH_B, gdH_undef, pickA_B, extractA_tup, lenA_sl, lenA_row, fldA_fp, fldA_ptr, fldA_rptr, List.getElem?_cons_zero, List.getElem?_cons_succ, decide_true, decide_false, if_true, if_false, Bool.true_eq_false, Bool.false_eq_true, Bool.not_true, Bool.not_false]
      rfl

theorem ent71 {k n : Nat} (hk : k ≤ n) (hn : n ≤ 4000) : O.ent 71 [I k, I n] [] [] = some ([B (dec (isK k n))], []) := by
  rw [f71_eq]
  by_cases h1 : k = 0
  · have h1' : (k : Int) = 0 := by omega
    rw [dec_iff.mpr (show isK k n from .inl h1)]
    simp only [h1', obs, oms, bin_add, bin_sub, bin_lss, bin_leq, bin_gtr, bin_geq, bin_eql, bin_neq, bin_eqlB, bin_neqB, un_not, cond_B, gd_B, gd_undef, gdH_B, gdH_undef, pickA_B, extractA_tup, lenA_sl, lenA_row, fldA_fp, fldA_ptr, fldA_rptr, List.getElem?_cons_zero, List.getElem?_cons_succ, decide_true, decide_false, if_true, if_false, Bool.true_eq_false, Bool.false_eq_true, Bool.not_true, Bool.not_false]
    rfl
  · have h1' : ¬ (k : Int) = 0 := by omega
    by_cases h2 : k = n
    · have h2' : (k : Int) = n := by omega
      have hd : dec (isK k n) = true := dec_iff.mpr (.inr (.inl h2))
      rw [hd]
      simp only [h1', h2', obs, oms, bin_add, bin_sub, bin_lss, bin_leq, bin_gtr, bin_geq, bin_eql, bin_neq, bin_eqlB, bin_neqB, un_not, cond_B, gd_B, gd_undef, gdH_B, gdH_undef, pickA_B, extractA_tup, lenA_sl, lenA_row, fldA_fp, fldA_ptr, fldA_rptr, List.getElem?_cons_zero, List.getElem?_cons_succ, decide_true, decide_false, if_true, if_false, Bool.true_eq_false, Bool.false_eq_true, Bool.not_true, Bool.not_false]
      subst h2
      simp only [h1', obs, oms, bin_add, bin_sub, bin_lss, bin_leq, bin_gtr, bin_geq, bin_eql, bin_neq, bin_eqlB, bin_neqB, un_not, cond_B, gd_B, gd_undef, gdH_B, gdH_undef, pickA_B, extractA_tup, lenA_sl, lenA_row, fldA_fp, fldA_ptr, fldA_rptr, List.getElem?_cons_zero, List.getElem?_cons_succ, decide_true, decide_false, if_true, if_false, Bool.true_eq_false, Bool.false_eq_true, Bool.not_true, Bool.not_false]
      rfl
    · have h2' : ¬ (k : Int) = n := by omega
      have fin := loop71 hk hn 12 0 rfl (by omega)
      have e1 : dec (∃ i, 0 ≤ i ∧ PK k n i) = dec (isK k n) := dec_congr ⟨fun ⟨i, _, h⟩ => .inr (.inr ⟨i, h⟩), fun h => by
        rcases h with h | h | ⟨i, h⟩
        · exact (h1 h).elim
        · exact (h2 h).elim
        · exact ⟨i, Nat.zero_le _, h⟩⟩
      rw [e1] at fin
      simp only [h1', h2', obs, oms, bin_add, bin_sub, bin_lss, bin_leq, bin_gtr, bin_geq, bin_eql, bin_neq, bin_eqlB, bin_neqB, un_not, cond_B, gd_B, gd_undef, gdH_B, gdH_undef, pickA_B, extractA_tup, lenA_sl, lenA_row, fldA_fp, fldA_ptr, fldA_rptr, List.getElem?_cons_zero, List.getElem?_cons_succ, decide_true, decide_false, if_true, if_false, Bool.true_eq_false, Bool.false_eq_true, Bool.not_true, Bool.not_false]
      exact fin
theorem call71 {k n : Nat} (hk : k ≤ n) (hn : n ≤ 4000) (lo : List Nat) (H : Heap) : callA cfg O 71 [I k, I n] lo H = some (B (dec (isK k n)), H) :=
  callA_pure (xs := [Ia k, Ia n]) (rs := [B (dec (isK k n))]) rfl (ent71 hk hn) rfl

/-! ### The reference's list -/
theorem loop70 {n : Nat} (hn : n ≤ 4000) : ∀ (c k : Nat) (H : Heap) (o : AV), n + 1 - k = c → k ≤ n + 1 → Cx H [] [(o, 1, (flt (fun k => dec (isK k n)) k).length, (flt (fun k => dec (isK k n)) k).map Ia)] →
    ∃ nl tg H', L70_8 [I n, o, I k] [] H = some ([V nl tg (kp n)], H') := by
  intro c
  induction c with
  | zero =>
    intro k H o hc hk h
    have : k = n + 1 := by omega
    subst this
    have hL : Lst 1 o H _ _ := h.lst (o, 1, (flt (fun k => dec (isK k n)) (n + 1)).length, (flt (fun k => dec (isK k n)) (n + 1)).map Ia) (by simp)
    obtain ⟨nl, tg, H', e⟩ := hL.leave1 []
    refine ⟨nl, tg, H', ?_⟩
    have h1 : ¬ ((n + 1 : Nat) : Int) ≤ n := by omega
    rw [L70_8_eq]
    simp only [h1, obs, oms, bin_add, bin_sub, bin_lss, bin_leq, bin_gtr, bin_geq, bin_eql, bin_neq, bin_eqlB, bin_neqB, un_not, cond_B, gd_B, gd_undef, gdH_B, gdH_undef, pickA_B, extractA_tup, lenA_sl, lenA_row, fldA_fp, fldA_ptr, fldA_rptr, List.getElem?_cons_zero, List.getElem?_cons_succ, decide_true, decide_false, if_true, if_false, Bool.true_eq_false, Bool.false_eq_true, Bool.not_true, Bool.not_false]
    exact e
  | succ c ih =>
    intro k H o hc hk h
    have hkn : k ≤ n := by omega
    have hkn' : (k : Int) ≤ n := by omega
    have w1 : IntKind.i64.wrap ((k : Int) + 1) = ((k + 1 : Nat) : Int) := by rw [wrap_id (by omega), nxt]
    have c71 := call71 hkn hn []
    by_cases hd : dec (isK k n) = true
    · obtain ⟨o', H', e, h'⟩ := plc [] (show k < 2 ^ 40 by omega) h hd
      obtain ⟨nl, tg, H2, e2⟩ := ih (k + 1) H' o' (by omega) (by omega) h'
      refine ⟨nl, tg, H2, ?_⟩
      rw [L70_8_eq]
      rw [hd] at c71
      simp only [hkn', c71, lit1, e, L70_11_eq, w1, obs, oms, bin_add, bin_sub, bin_lss, bin_leq, bin_gtr, bin_geq, bin_eql, bin_neq, bin_eqlB, bin_neqB, un_not, cond_B, gd_B, gd_undef, gdH_B, gdH_undef, pickA_B, extractA_tup, lenA_sl, lenA_row, fldA_fp, fldA_ptr, fldA_rptr, List.getElem?_cons_zero, List.getElem?_cons_succ, decide_true, decide_false, if_true, if_false, Bool.true_eq_false, Bool.false_eq_true, Bool.not_true, Bool.not_false]
      exact e2
    · have hd' : dec (isK k n) = false := by simpa using hd
      obtain ⟨nl, tg, H2, e2⟩ := ih (k + 1) H o (by omega) (by omega) (plc0 [] h hd')
      refine ⟨nl, tg, H2, ?_⟩
      rw [L70_8_eq]
      rw [hd'] at c71
      simp only [hkn', c71, L70_11_eq, w1, obs, oms, bin_add, bin_sub, bin_lss, bin_leq, bin_gtr, bin_geq, bin_eql, bin_neq, bin_eqlB, bin_neqB, un_not, cond_B, gd_B, gd_undef, gdH_B, gdH_undef, pickA_B, extractA_tup, lenA_sl, lenA_row, fldA_fp, fldA_ptr, fldA_rptr, List.getElem?_cons_zero, List.getElem?_cons_succ, decide_true, decide_false, if_true, if_false, Bool.true_eq_false, Bool.false_eq_true, Bool.not_true, Bool.not_false]
      exact e2
theorem call70 {n : Nat} (hn : n ≤ 4000) : ∃ nl tg, ∀ lo H, callA cfg O 70 [I n] lo H = some (V nl tg (kp n), H) := by
  obtain ⟨nl, tg, H', e⟩ := loop70 hn (n + 1) 0 [] (.p nilS) rfl (by omega) ((Cx.nil []).newNil 1)
  refine ⟨nl, tg, fun lo H => callA_pure (xs := [Ia n]) (rs := [V nl tg (kp n)]) rfl ?_ rfl (H' := H')⟩
  show O.ent 70 [I n] [] [] = _
  rw [f70_eq]
  exact e

/-! ### The program's list -/
theorem loop126 {n : Nat} (hn : n ≤ 4000) : ∀ (c e : Nat) (H : Heap) (id g : Nat), 12 - e = c → e ≤ 12 → (∀ i, i < e → 2 ^ i ≤ n) → Cx H [] [(.row id g 0 (kl n e).length, 1, (kl n e).length, ((kl n e).map fun k : Nat => (k : Int)).map Ia)] →
    ∃ nl tg H', L126_8 [I n, .row id g 0 (kl n e).length, I ((2 ^ e : Nat) : Int)] [] H = some ([V nl tg (kp n)], H') := by
  intro c
  have fin : ∀ (e : Nat) (H : Heap) (id g : Nat), e ≤ 12 → (∀ i, i < e → 2 ^ i ≤ n) → n < 2 ^ e → Cx H [] [(.row id g 0 (kl n e).length, 1, (kl n e).length, ((kl n e).map fun k : Nat => (k : Int)).map Ia)] →
      ∃ nl tg H', L126_8 [I n, .row id g 0 (kl n e).length, I ((2 ^ e : Nat) : Int)] [] H = some ([V nl tg (kp n)], H') := by
    intro e H id g he hi hlt h
    have hL := (h.lst _ (List.mem_singleton.mpr rfl)).at
    have h1 : ¬ ((2 ^ e : Nat) : Int) ≤ n := by omega
    have hkl := kl_len n e
    generalize hzs : (kl n e).map (fun k : Nat => (k : Int)) = zs at *
    have hzl : zs.length = (kl n e).length := by rw [← hzs]; simp
    rw [← hzl] at hkl ⊢
    have hrun := ints_run (cfg := cfg) (O := O) hL (by omega) (by omega)
    have m152 : cfg.mode 152 = 1 := rfl
    have m153 : cfg.mode 153 = 1 := rfl
    have ent152 : O.ent 152 [.row id g 0 zs.length] [] H = extRun cfg O .ints [.row id g 0 zs.length] H := by
      rw [O_ent]
      rfl
    have hsl : (zs.mergeSort fun x y => decide (x ≤ y)).length = zs.length := List.length_mergeSort _
    have hdd : dd (zs.mergeSort fun x y => decide (x ≤ y)) = kp n := by rw [← hzs]; exact srt_kl hi hlt
    generalize (zs.mergeSort fun x y => decide (x ≤ y)) = ms at *
    have c152 : callA cfg O 152 [.row id g 0 zs.length] [] H = some (.tup [], H.set id (.row g 1 (ms.map Ia))) := callA_keep m152 (rs := []) (by rw [ent152]; exact hrun)
    obtain ⟨H2, e2, cs, g1, g2, g3⟩ := ent153 (l := ms) (id := id) (g := g) (H := H.set id (rP ms g)) (by omega) (by omega) (setAt hL) []
    rw [hsl] at e2
    have c153 : callA cfg O 153 [.row id g 0 zs.length] [] (H.set id (.row g 1 (ms.map Ia))) = some (.row id g 0 (dd ms).length, H2) := callA_keep m153 e2
    have hfr : frzA H2 (.row id g 0 (dd ms).length) = some (.p (.sl (if 0 < (dd ms).length then some false else none) false (dd ms).length ((dd ms).map Ia)), H2.set id (.row (g + 1) 1 [])) := by
      simp only [frzA, frzLeaf, toPV, g1, Nat.zero_add]
      rw [if_pos ⟨trivial, g3⟩, List.drop_zero, g2]
      rfl
    rw [hdd] at hfr c153
    refine ⟨if 0 < (kp n).length then some false else none, false, [], ?_⟩
    rw [L126_8_eq]
    simp only [h1, c152, c153, obs, oms, bin_add, bin_sub, bin_lss, bin_leq, bin_gtr, bin_geq, bin_eql, bin_neq, bin_eqlB, bin_neqB, un_not, cond_B, gd_B, gd_undef, gdH_B, gdH_undef, pickA_B, extractA_tup, lenA_sl, lenA_row, fldA_fp, fldA_ptr, fldA_rptr, List.getElem?_cons_zero, List.getElem?_cons_succ, decide_true, decide_false, if_true, if_false, Bool.true_eq_false, Bool.false_eq_true, Bool.not_true, Bool.not_false]
    exact leave0_all (ps := [.sl (if 0 < (kp n).length then some false else none) false (kp n).length ((kp n).map Ia)]) (by simp only [frzAll, hfr, obs, oms]; rfl)
  induction c with
  | zero =>
    intro e H id g hc he hi h
    have : e = 12 := by omega
    subst this
    exact fin 12 H id g he hi (by have : 2 ^ 12 = 4096 := by decide
                                  omega) h
  | succ c ih =>
    intro e H id g hc he hi h
    by_cases h1 : 2 ^ e ≤ n
    · have h1' : ((2 ^ e : Nat) : Int) ≤ n := by omega
      have hp := Nat.two_pow_pos e
      have hm := Nat.mod_lt n hp
      have hml := Nat.mod_le n (2 ^ e)
      have hrem : bin .rem .int (I n) (I ((2 ^ e : Nat) : Int)) = some (I ((n % 2 ^ e : Nat) : Int)) := rem_nat .i64 n (2 ^ e) (by omega)
      have w1 : IntKind.i64.wrap ((n : Int) - (n % 2 ^ e : Nat)) = ((n - n % 2 ^ e : Nat) : Int) := by rw [wrap_id (by omega)]; omega
      have w2 : IntKind.i64.wrap (((n - n % 2 ^ e : Nat) : Int) - (2 ^ e : Nat)) = ((n - n % 2 ^ e : Nat) : Int) - (2 ^ e : Nat) := wrap_id (by omega)
      have hb : bests true (I 0) [I (((n - n % 2 ^ e : Nat) : Int) - (2 ^ e : Nat))] = some (I ((n - n % 2 ^ e - 2 ^ e : Nat) : Int)) := by
        simp only [bests, best, if_true, obs]
        congr 4
        split <;> omega
      have hlit : ∀ a b : Int, litA false 1 [I a, I b] H = some (.p (.sl (some false) true 2 [Ia a, Ia b]), H) := fun _ _ => rfl
      have hkl := kl_len n e
      have h12 := p2lt h1 hn
      obtain ⟨H', e1, h'⟩ := Cx.appRow (bytes := 8) (y := .p (.sl (some false) true 2 [Ia ((n - n % 2 ^ e : Nat) : Int), Ia ((n - n % 2 ^ e - 2 ^ e : Nat) : Int)])) [] h (new := [Ia ((n - n % 2 ^ e : Nat) : Int), Ia ((n - n % 2 ^ e - 2 ^ e : Nat) : Int)]) (k := 2) rfl rfl (by simp only [room]; omega)
      have w3 : IntKind.i64.wrap (((2 ^ e : Nat) : Int) * 2) = ((2 ^ (e + 1) : Nat) : Int) := by rw [p2s, wrap_id (by have := p2le he; omega)]; omega
      have hlen : (kl n (e + 1)).length = (kl n e).length + 2 := by simp [kl]
      have hcs : ((kl n (e + 1)).map fun k : Nat => (k : Int)).map Ia = ((kl n e).map fun k : Nat => (k : Int)).map Ia ++ [Ia ((n - n % 2 ^ e : Nat) : Int), Ia ((n - n % 2 ^ e - 2 ^ e : Nat) : Int)] := by simp [kl]
      rw [← hlen, ← hcs] at h'
      rw [← hlen] at e1
      obtain ⟨nl, tg, H2, e2⟩ := ih (e + 1) H' id (g + 1) (by omega) (by omega) (fun i h => by
        by_cases e3 : i = e
        · rw [e3]; exact h1
        · exact hi i (by omega)) h'
      refine ⟨nl, tg, H2, ?_⟩
      rw [L126_8_eq]
      simp only [h1', hrem, w1, w2, hb, hlit, e1, bin_mul, w3, obs, oms, bin_add, bin_sub, bin_lss, bin_leq, bin_gtr, bin_geq, bin_eql, bin_neq, bin_eqlB, bin_neqB, un_not, cond_B, gd_B, gd_undef, gdH_B, gdH_undef, pickA_B, extractA_tup, lenA_sl, lenA_row, fldA_fp, fldA_ptr, fldA_rptr, List.getElem?_cons_zero, List.getElem?_cons_succ, decide_true, decide_false, if_true, if_false, Bool.true_eq_false, Bool.false_eq_true, Bool.not_true, Bool.not_false]
      exact e2
    · exact fin e H id g he hi (by omega) h

theorem call126 {n : Nat} (hn : n ≤ 4000) : ∃ nl tg, ∀ lo H, callA cfg O 126 [I n] lo H = some (V nl tg (kp n), H) := by
  have h0 := (Cx.nil []).newRow (sz := 1) (m := 2) (cs := [Ia 0, Ia n]) rfl
  obtain ⟨nl, tg, H', e⟩ := loop126 hn 12 0 ([] ++ [.row 0 1 [Ia 0, Ia n]]) 0 0 rfl (by omega) (fun i h => by omega) h0
  refine ⟨nl, tg, fun lo H => callA_pure (xs := [Ia n]) (rs := [V nl tg (kp n)]) rfl ?_ rfl (H' := H')⟩
  show O.ent 126 [I n] [] [] = _
  rw [f126_eq]
  have hlit : litA true 1 [I 0, I n] [] = some (.row 0 0 0 2, [.row 0 1 [Ia 0, Ia n]]) := rfl
  simp only [hlit, obs]
  exact e
theorem call67 {n : Int} (lo : List Nat) (H : Heap) : ∃ nl tg zs, callA cfg O 67 [I n] lo H = some (.tup [V nl tg zs, I (if n < 0 ∨ 4000 < n then 1 else 0)], H) ∧ zs = if n < 0 ∨ 4000 < n then [] else kp n.toNat := by
  by_cases h : n < 0 ∨ 4000 < n
  · rw [if_pos h, if_pos h]
    refine ⟨some true, true, [], callA_pure (xs := [Ia n]) (H' := []) (rs := [.p nilS, I 1]) rfl ?_ rfl, rfl⟩
    show O.ent 67 [I n] [] [] = _
    rw [f67_eq]
    by_cases h1 : n < 0
    · simp only [h1, obs, oms, bin_add, bin_sub, bin_lss, bin_leq, bin_gtr, bin_geq, bin_eql, bin_neq, bin_eqlB, bin_neqB, un_not, cond_B, gd_B, gd_undef, gdH_B, gdH_undef, pickA_B, extractA_tup, lenA_sl, lenA_row, fldA_fp, fldA_ptr, fldA_rptr, List.getElem?_cons_zero, List.getElem?_cons_succ, decide_true, decide_false, if_true, if_false, Bool.true_eq_false, Bool.false_eq_true, Bool.not_true, Bool.not_false]; rfl
    · have h2 : 4000 < n := by omega
      simp only [h1, h2, obs, oms, bin_add, bin_sub, bin_lss, bin_leq, bin_gtr, bin_geq, bin_eql, bin_neq, bin_eqlB, bin_neqB, un_not, cond_B, gd_B, gd_undef, gdH_B, gdH_undef, pickA_B, extractA_tup, lenA_sl, lenA_row, fldA_fp, fldA_ptr, fldA_rptr, List.getElem?_cons_zero, List.getElem?_cons_succ, decide_true, decide_false, if_true, if_false, Bool.true_eq_false, Bool.false_eq_true, Bool.not_true, Bool.not_false]; rfl
  · rw [if_neg h, if_neg h]
    obtain ⟨m, rfl⟩ : ∃ m : Nat, n = m := ⟨n.toNat, by omega⟩
    obtain ⟨nl, tg, e⟩ := call126 (n := m) (by omega)
    refine ⟨nl, tg, _, callA_pure (xs := [Ia m]) (H' := []) (rs := [V nl tg (kp m), I 0]) rfl ?_ rfl, by rw [Int.toNat_natCast]⟩
    show O.ent 67 [I m] [] [] = _
    rw [f67_eq]
    have h1 : ¬ (m : Int) < 0 := by omega
    have h2 : ¬ 4000 < (m : Int) := by omega
    simp only [h1, h2, e, obs, oms, bin_add, bin_sub, bin_lss, bin_leq, bin_gtr, bin_geq, bin_eql, bin_neq, bin_eqlB, bin_neqB, un_not, cond_B, gd_B, gd_undef, gdH_B, gdH_undef, pickA_B, extractA_tup, lenA_sl, lenA_row, fldA_fp, fldA_ptr, fldA_rptr, List.getElem?_cons_zero, List.getElem?_cons_succ, decide_true, decide_false, if_true, if_false, Bool.true_eq_false, Bool.false_eq_true, Bool.not_true, Bool.not_false]; rfl
end Th
end Go.Proofs.Ytkhbbjfdbbnojaa
