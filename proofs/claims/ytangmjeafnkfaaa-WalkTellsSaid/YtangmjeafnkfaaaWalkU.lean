import Derived.Test.YtangmjeafnkfaaaWalkT
set_option linter.unusedVariables false
set_option linter.unusedSimpArgs false
namespace Go.Proofs.Ytangmjeafnkfaaa
open Go Go.AM
namespace Walk

section
variable {nl : Option Bool} {tg : Bool} {l : List Mk}

theorem innerTop {i : Nat} (hi : i < l.length) (hn : l.length ≤ 200) (lo : List Nat) (k : Nat) (hki : k ≤ i) : ∀ (c j : Nat) (b : Bool), i + 1 - j = c → j ≤ i + 1 →
    (b = true → (∀ m, j ≤ m → m ≤ i → low l i m = false) → L34_14 [V nl tg l, I i, I k, B b, I j] lo [] = some ([I k], [])) ∧
    (¬ (b = true ∧ ∀ m, j ≤ m → m ≤ i → low l i m = false) → L34_14 [V nl tg l, I i, I k, B b, I j] lo [] = L34_6 [V nl tg l, I i, I (k + 1 : Nat)] lo []) := by
  intro c
  induction c with
  | zero =>
    intro j b hc hj
    have : j = i + 1 := by omega
    subst this
    have hout : L34_14 [V nl tg l, I i, I k, B b, I (i + 1 : Nat)] lo [] = if b = true then some ([I k], []) else L34_6 [V nl tg l, I i, I (k + 1 : Nat)] lo [] := by
      rw [L34_14_eq]
      simp only [bin_leq, obs, cond_B, bin_add]
      rw [if_neg (by simp; omega), wrap_id (by omega), show (k : Int) + 1 = ((k + 1 : Nat) : Int) by omega]
      rfl
    rw [hout]
    refine ⟨fun hb _ => if_pos hb, fun h => if_neg fun hb => h ⟨hb, fun m h1 h2 => by omega⟩⟩
  | succ c ih =>
    intro j b hc hj
    have hj' : j ≤ i := by omega
    have hjl : j < l.length := by omega
    have hstep : L34_14 [V nl tg l, I i, I k, B b, I j] lo [] = L34_14 [V nl tg l, I i, I k, B (b && !low l i j), I (j + 1 : Nat)] lo [] := by
      rw [L34_14_eq]
      simp only [bin_leq, obs, cond_B]
      rw [if_pos (by simp; omega), idx hjl, obs, idx hi]
      simp only [obs, fldA_fp, part hjl (show 0 < 3 by omega), part hjl (show 1 < 3 by omega), part hi (show 0 < 3 by omega), part hi (show 1 < 3 by omega), three, List.getElem?_cons_zero, List.getElem?_cons_succ, oms, bin_eql, bin_lss, gd_B]
      by_cases e : (at' l j).1 = (at' l i).1
      · simp only [e, decide_true, if_true, obs, idx hjl, idx hi, fldA_fp, part hjl (show 1 < 3 by omega), part hi (show 1 < 3 by omega), three, List.getElem?_cons_zero, List.getElem?_cons_succ, oms, bin_lss, pickA_B, cond_B]
        by_cases e2 : (at' l j).2.1 < (at' l i).2.1
        · simp only [e2, decide_true, if_true]
          rw [L34_17_eq]
          simp only [bin_add, obs]
          rw [wrap_id (by omega), show (j : Int) + 1 = ((j + 1 : Nat) : Int) by omega]
          simp [low, e, e2]
        · simp only [e2, decide_false, Bool.false_eq_true, if_false]
          rw [L34_17_eq]
          simp only [bin_add, obs]
          rw [wrap_id (by omega), show (j : Int) + 1 = ((j + 1 : Nat) : Int) by omega]
          simp [low, e, e2]
      · simp only [e, decide_false, Bool.false_eq_true, if_false, obs, gd_undef, pickA_B, cond_B]
        rw [L34_17_eq]
        simp only [bin_add, obs]
        rw [wrap_id (by omega), show (j : Int) + 1 = ((j + 1 : Nat) : Int) by omega]
        simp [low, e]
    rw [hstep]
    obtain ⟨i1, i2⟩ := ih (j + 1) (b && !low l i j) (by omega) (by omega)
    refine ⟨fun hb h => i1 ?_ fun m h1 h2 => h m (by omega) h2, fun h => i2 fun ⟨hb, h'⟩ => h ?_⟩
    · simp [hb, h j (by omega) hj']
    · simp at hb
      refine ⟨hb.1, fun m h1 h2 => ?_⟩
      rcases Nat.lt_or_ge j m with e | e
      · exact h' m (by omega) h2
      · rw [show m = j by omega]; exact hb.2

theorem outerTop {i : Nat} (hi : i < l.length) (hn : l.length ≤ 200) (lo : List Nat) : ∀ (c k : Nat), i - k = c → k ≤ i → (∀ k', k' < k → ¬ okAt l i k') →
    ∃ t : Nat, IsTop l i t ∧ L34_6 [V nl tg l, I i, I k] lo [] = some ([I t], []) := by
  intro c
  have step : ∀ k, k ≤ i → (okAt l i k → L34_6 [V nl tg l, I i, I k] lo [] = some ([I k], [])) ∧ (¬ okAt l i k → L34_6 [V nl tg l, I i, I k] lo [] = L34_6 [V nl tg l, I i, I (k + 1 : Nat)] lo []) := by
    intro k hk
    have hkl : k < l.length := by omega
    obtain ⟨i1, i2⟩ := innerTop (nl := nl) (tg := tg) hi hn lo k hk (i + 1 - k) k (decide ((at' l k).1 = (at' l i).1)) rfl (by omega)
    have e : L34_6 [V nl tg l, I i, I k] lo [] = L34_14 [V nl tg l, I i, I k, B (decide ((at' l k).1 = (at' l i).1)), I k] lo [] := by
      rw [L34_6_eq]
      simp only [bin_leq, obs, cond_B]
      rw [if_pos (by simp; omega), idx hkl, obs, idx hi]
      simp only [obs, fldA_fp, part hkl (show 0 < 3 by omega), part hi (show 0 < 3 by omega), three, List.getElem?_cons_zero, List.getElem?_cons_succ, oms, bin_eql]
    rw [e]
    exact ⟨fun ⟨h1, h2⟩ => i1 (by simp [h1]) h2, fun h => i2 fun ⟨h1, h2⟩ => h ⟨of_decide_eq_true h1, h2⟩⟩
  have hii : okAt l i i := ⟨rfl, fun j h1 h2 => by rw [show j = i by omega]; simp [low]⟩
  induction c with
  | zero =>
    intro k hc hk hno
    have : k = i := by omega
    subst this
    exact ⟨k, ⟨by omega, hii, hno⟩, (step k hk).1 hii⟩
  | succ c ih =>
    intro k hc hk hno
    by_cases h : okAt l i k
    · exact ⟨k, ⟨hk, h, hno⟩, (step k hk).1 h⟩
    · rw [(step k hk).2 h]
      refine ih (k + 1) (by omega) (by omega) fun k' hk' => ?_
      rcases Nat.lt_or_ge k' k with e | e
      · exact hno k' e
      · rw [show k' = k by omega]; exact h

theorem call34 {i : Nat} (hi : i < l.length) (hn : l.length ≤ 200) (lo : List Nat) (H : Heap) : ∃ t : Nat, IsTop l i t ∧ callA cfg O 34 [V nl tg l, I i] lo H = some (I t, H) := by
  obtain ⟨t, h1, h2⟩ := outerTop (nl := nl) (tg := tg) hi hn [] (i - 0) 0 rfl (by omega) (fun k' h => by omega)
  refine ⟨t, h1, callA_args (H' := []) (rs := [I t]) rfl rfl ?_ rfl⟩
  rw [f34_eq]
  exact h2

/-! ### The calls of the package -/
theorem chk_zero {n : Nat} {i how : Int} : chk n i how = 0 ↔ n ≤ 200 ∧ 0 ≤ i ∧ i < n ∧ 1 ≤ how ∧ how ≤ 4 := by
  unfold chk
  split
  · simp; omega
  · split <;> simp <;> omega

theorem call29 (i how : Int) (lo : List Nat) (H : Heap) : ∃ z, (chk l.length i how = 0 → IsFst (fun j => rch (at' l i.toNat) (at' l j) how) (i.toNat + 1) l.length z) ∧ (chk l.length i how ≠ 0 → z = -1) ∧
    callA cfg O 29 [V nl tg l, I i, I how] lo H = some (.tup [I (max z 0), B (decide (0 ≤ z)), I (chk l.length i how)], H) := by
  by_cases h : chk l.length i how = 0
  · obtain ⟨h1, h2, h3, h4⟩ := chk_zero.mp h
    obtain ⟨m, rfl⟩ : ∃ m : Nat, i = m := ⟨i.toNat, by omega⟩
    obtain ⟨z, hz, he⟩ := nextLoop (nl := nl) (tg := tg) (l := l) (i := m) (how := how) (by omega) h1 h4 [] (l.length - (m + 1)) (m + 1) rfl (by omega) (fun j h1 h2 => by omega) (by omega)
    refine ⟨z, fun _ => hz, fun e => (e h).elim, ?_⟩
    refine callA_args (H' := []) rfl rfl (rs := [I (max z 0), B (decide (0 ≤ z)), I (chk l.length m how)]) ?_ rfl
    rw [f29_eq]
    simp only [call84, obs, bin_neq, h, cond_B, decide_true, Bool.not_true, Bool.false_eq_true, if_false, bin_add]
    rw [wrap_id (by omega), show (m : Int) + 1 = ((m + 1 : Nat) : Int) by omega]
    exact he
  · refine ⟨-1, fun e => (h e).elim, fun _ => rfl, ?_⟩
    refine callA_args (H' := []) rfl rfl (rs := [I 0, B false, I (chk l.length i how)]) ?_ rfl
    rw [f29_eq]
    simp only [call84, obs, bin_neq, h, cond_B, decide_false, Bool.not_false, if_true]
    rfl

theorem call30 (i how : Int) (lo : List Nat) (H : Heap) : ∃ z, (chk l.length i how = 0 → IsLst (fun j => rch (at' l j) (at' l i.toNat) how) i.toNat z) ∧ (chk l.length i how ≠ 0 → z = -1) ∧
    callA cfg O 30 [V nl tg l, I i, I how] lo H = some (.tup [I (max z 0), B (decide (0 ≤ z)), I (chk l.length i how)], H) := by
  by_cases h : chk l.length i how = 0
  · obtain ⟨h1, h2, h3, h4⟩ := chk_zero.mp h
    obtain ⟨m, rfl⟩ : ∃ m : Nat, i = m := ⟨i.toNat, by omega⟩
    obtain ⟨z, hz, he⟩ := lastLoop (nl := nl) (tg := tg) (l := l) (i := m) (how := how) (by omega) h1 h4 [] m (by omega) (fun j h1 h2 => by omega)
    refine ⟨z, fun _ => hz, fun e => (e h).elim, ?_⟩
    refine callA_args (H' := []) rfl rfl (rs := [I (max z 0), B (decide (0 ≤ z)), I (chk l.length m how)]) ?_ rfl
    rw [f30_eq]
    simp only [call84, obs, bin_neq, h, cond_B, decide_true, Bool.not_true, Bool.false_eq_true, if_false, bin_sub]
    rw [wrap_id (by omega)]
    exact he
  · refine ⟨-1, fun e => (h e).elim, fun _ => rfl, ?_⟩
    refine callA_args (H' := []) rfl rfl (rs := [I 0, B false, I (chk l.length i how)]) ?_ rfl
    rw [f30_eq]
    simp only [call84, obs, bin_neq, h, cond_B, decide_false, Bool.not_false, if_true]
    rfl

theorem call31 (i : Int) (lo : List Nat) (H : Heap) : ∃ t : Nat, (chk l.length i 1 = 0 → IsTop l i.toNat t) ∧ (chk l.length i 1 ≠ 0 → t = 0) ∧
    callA cfg O 31 [V nl tg l, I i] lo H = some (.tup [I t, I (chk l.length i 1)], H) := by
  by_cases h : chk l.length i 1 = 0
  · obtain ⟨h1, h2, h3, h4⟩ := chk_zero.mp h
    obtain ⟨m, rfl⟩ : ∃ m : Nat, i = m := ⟨i.toNat, by omega⟩
    have hmm : ∀ j, m ≤ j → j ≤ m → low l m j = false := fun j h1 h2 => by rw [show j = m by omega]; simp [low]
    obtain ⟨z, hz, he⟩ := topLoop (nl := nl) (tg := tg) (l := l) (i := m) (by omega) h1 [] m m (by omega) (by omega) ⟨rfl, hmm⟩ hmm (fun j h1 h2 => by omega)
    refine ⟨z, fun _ => hz, fun e => (e h).elim, ?_⟩
    refine callA_args (H' := []) rfl rfl (rs := [I z, I (chk l.length m 1)]) ?_ rfl
    rw [f31_eq]
    simp only [call84, obs, bin_neq, h, cond_B, decide_true, Bool.not_true, Bool.false_eq_true, if_false, bin_sub]
    rw [wrap_id (by omega)]
    exact he
  · refine ⟨0, fun e => (h e).elim, fun _ => rfl, ?_⟩
    refine callA_args (H' := []) rfl rfl (rs := [I 0, I (chk l.length i 1)]) ?_ rfl
    rw [f31_eq]
    simp only [call84, obs, bin_neq, h, cond_B, decide_false, Bool.not_false, if_true]
    rfl

/-! ### The law -/
theorem lawLoop {i : Nat} {how : Int} (hi : i < l.length) (hn : l.length ≤ 200) (v7 v8 v9 v10 v11 v12 v13 v14 v15 v16 v19 : AV) (lo : List Nat) : ∀ (c k : Nat) (zn zl : Int), l.length - k = c → k ≤ l.length →
    IsFst (fun j => rch (at' l i) (at' l j) how) (i + 1) k zn → IsLst (fun j => rch (at' l j) (at' l i) how) (min k i) zl →
    ∃ zn' zl', IsFst (fun j => rch (at' l i) (at' l j) how) (i + 1) l.length zn' ∧ IsLst (fun j => rch (at' l j) (at' l i) how) i zl' ∧
      L7_18 [V nl tg l, I i, I how, v7, v8, v9, v10, v11, v12, v13, v14, v15, v16, I zn, I zl, v19, I k] lo [] = L7_31 [V nl tg l, I i, v7, v8, v9, v10, v11, v12, v13, v14, v15, v16, I zn', I zl', v19] lo [] := by
  intro c
  induction c with
  | zero =>
    intro k zn zl hc hk hf hl
    have : k = l.length := by omega
    subst this
    rw [show min l.length i = i by omega] at hl
    refine ⟨zn, zl, hf, hl, ?_⟩
    rw [L7_18_eq]
    simp only [lenA_sl, obs, bin_lss, cond_B]
    rw [if_neg (by simp)]
  | succ c ih =>
    intro k zn zl hc hk hf hl
    have hk' : k < l.length := by omega
    have h27 : ∀ zn1, IsFst (fun j => rch (at' l i) (at' l j) how) (i + 1) (k + 1) zn1 → ∃ zn' zl', IsFst (fun j => rch (at' l i) (at' l j) how) (i + 1) l.length zn' ∧ IsLst (fun j => rch (at' l j) (at' l i) how) i zl' ∧
        L7_27 [V nl tg l, I i, I how, v7, v8, v9, v10, v11, v12, v13, v14, v15, v16, I zn1, I zl, v19, I k] lo [] = L7_31 [V nl tg l, I i, v7, v8, v9, v10, v11, v12, v13, v14, v15, v16, I zn', I zl', v19] lo [] := by
      intro zn1 hf1
      have h21 : ∀ zl1, IsLst (fun j => rch (at' l j) (at' l i) how) (min (k + 1) i) zl1 → ∃ zn' zl', IsFst (fun j => rch (at' l i) (at' l j) how) (i + 1) l.length zn' ∧ IsLst (fun j => rch (at' l j) (at' l i) how) i zl' ∧
        L7_21 [V nl tg l, I i, I how, v7, v8, v9, v10, v11, v12, v13, v14, v15, v16, I zn1, I zl1, v19, I k] lo [] = L7_31 [V nl tg l, I i, v7, v8, v9, v10, v11, v12, v13, v14, v15, v16, I zn', I zl', v19] lo [] := by
        intro zl1 hl1
        rw [L7_21_eq]
        simp only [bin_add, obs]
        rw [wrap_id (by omega), show (k : Int) + 1 = ((k + 1 : Nat) : Int) by omega]
        exact ih (k + 1) zn1 zl1 (by omega) (by omega) hf1 hl1
      rw [L7_27_eq]
      simp only [bin_lss, obs, gd_B]
      by_cases hki : k < i
      · have hki' : (k : Int) < i := by omega
        simp only [hki', decide_true, if_true, obs, idx hk', idx hi, whole hk', whole hi, call33, gdH_B, pickA_B, cond_B]
        by_cases hr : rch (at' l k) (at' l i) how = true
        · rw [if_pos hr]
          refine h21 k ?_
          rw [show min (k + 1) i = k + 1 by omega]
          exact .inr ⟨k, rfl, by omega, hr, fun j h1 h2 => by omega⟩
        · rw [if_neg hr]
          refine h21 zl ?_
          rw [show min k i = k by omega] at hl
          rw [show min (k + 1) i = k + 1 by omega]
          have hr' : rch (at' l k) (at' l i) how = false := by simpa using hr
          rcases hl with ⟨h1, h2⟩ | ⟨m, h1, h2, h3, h4⟩
          · refine .inl ⟨h1, fun j hj => ?_⟩
            rcases Nat.lt_or_ge j k with e | e
            · exact h2 j e
            · rw [show j = k by omega]; exact hr'
          · refine .inr ⟨m, h1, by omega, h3, fun j hj1 hj2 => ?_⟩
            rcases Nat.lt_or_ge j k with e | e
            · exact h4 j hj1 e
            · rw [show j = k by omega]; exact hr'
      · have hki' : ¬ (k : Int) < i := by omega
        simp only [hki', decide_false, Bool.false_eq_true, if_false, obs, gd_undef, gdH_B, pickA_B, cond_B]
        refine h21 zl ?_
        rw [show min k i = i by omega] at hl
        rw [show min (k + 1) i = i by omega]
        exact hl
    have keepF : (¬ (i < k ∧ zn < 0 ∧ rch (at' l i) (at' l k) how = true)) → IsFst (fun j => rch (at' l i) (at' l j) how) (i + 1) (k + 1) zn := by
      intro hno
      rcases hf with ⟨h1, h2⟩ | ⟨m, h1, h2, h3, h4, h5⟩
      · refine .inl ⟨h1, fun j hj1 hj2 => ?_⟩
        rcases Nat.lt_or_ge j k with e | e
        · exact h2 j hj1 e
        · have : j = k := by omega
          subst this
          cases hr : rch (at' l i) (at' l j) how with
          | false => exact hr
          | true => exact (hno ⟨by omega, by omega, hr⟩).elim
      · exact .inr ⟨m, h1, h2, by omega, h4, h5⟩
    rw [L7_18_eq]
    simp only [lenA_sl, obs, bin_lss, cond_B, bin_gtr]
    rw [if_pos (by simp; omega)]
    by_cases hki : i < k
    · have hki' : (i : Int) < k := by omega
      simp only [hki', decide_true, gd_B, if_true, obs, bin_lss, pickA_B]
      by_cases hz : zn < 0
      · simp only [hz, decide_true, gd_B, if_true, obs, idx hk', idx hi, whole hk', whole hi, call33, gdH_B, pickA_B, cond_B]
        by_cases hr : rch (at' l i) (at' l k) how = true
        · rw [if_pos hr]
          refine h27 k (.inr ⟨k, rfl, by omega, by omega, hr, fun j h1 h2 => ?_⟩)
          rcases hf with ⟨_, h⟩ | ⟨m, h, _⟩
          · exact h j h1 h2
          · omega
        · rw [if_neg hr]
          exact h27 zn (keepF fun h => hr h.2.2)
      · simp only [hz, decide_false, gd_B, Bool.false_eq_true, if_false, obs, gd_undef, gdH_B, pickA_B, cond_B]
        exact h27 zn (keepF fun h => hz h.2.1)
    · have hki' : ¬ (i : Int) < k := by omega
      simp only [hki', decide_false, gd_B, gd_undef, Bool.false_eq_true, if_false, obs, gdH_B, pickA_B, cond_B]
      exact h27 zn (keepF fun h => hki h.1)

theorem bests_max (x y : Int) : bests true (I x) [I y] = some (I (max x y)) := by
  simp only [bests, best, if_true, obs]
  congr 4
  split <;> omega

theorem fin (zn zl c c1 : Int) (t : Nat) (lo : List Nat) : L7_35 [I (max zn 0), B (decide (0 ≤ zn)), I c, I (max zl 0), B (decide (0 ≤ zl)), I c, I t, I c1, I c, I c1, I zn, I zl, I t] lo [] = some ([B true], []) := by
  rw [L7_35_eq]
  simp only [bests_max, obs, bin_eql, bin_eqlB, bin_geq, gd_B, decide_true, if_true, pickA_B, beq_self_eq_true]
  rfl

theorem law (i how : Int) : ∃ H', O.ent 7 [V nl tg l, I i, I how] [] [] = some ([B true], H') := by
  refine ⟨[], ?_⟩
  rw [f7_eq]
  obtain ⟨zn, an, bn, en⟩ := call29 (nl := nl) (tg := tg) (l := l) i how [] []
  obtain ⟨zl, al, bl, el⟩ := call30 (nl := nl) (tg := tg) (l := l) i how [] []
  obtain ⟨t, at1, bt, et⟩ := call31 (nl := nl) (tg := tg) (l := l) i [] []
  simp only [en, el, et, call32, obs, extractA_tup, List.getElem?_cons_zero, List.getElem?_cons_succ, bin_eql, cond_B]
  have top : ∀ zn zl, L7_31 [V nl tg l, I i, I (max zn 0), B (decide (0 ≤ zn)), I (chk l.length i how), I (max zl 0), B (decide (0 ≤ zl)), I (chk l.length i how), I t, I (chk l.length i 1), I (chk l.length i how), I (chk l.length i 1), I zn, I zl, I 0] [] [] = some ([B true], []) := by
    intro zn zl
    rw [L7_31_eq]
    simp only [bin_eql, obs, cond_B]
    by_cases h : chk l.length i 1 = 0
    · obtain ⟨h1, h2, h3, h4⟩ := chk_zero.mp h
      have at1 := at1 h
      obtain ⟨m, rfl⟩ : ∃ m : Nat, i = m := ⟨i.toNat, by omega⟩
      obtain ⟨t', ht', e⟩ := call34 (nl := nl) (tg := tg) (l := l) (i := m) (by omega) h1 [] []
      rw [e]
      simp only [h, decide_true, if_true, obs]
      rw [ht'.uniq at1]
      exact fin _ _ _ _ _ _
    · simp only [h, decide_false, Bool.false_eq_true, if_false]
      rw [bt h]
      exact fin zn zl _ _ 0 _
  by_cases h : chk l.length i how = 0
  · obtain ⟨h1, h2, h3, h4⟩ := chk_zero.mp h
    have an := an h
    have al := al h
    have e : decide (chk l.length i how = 0) = true := by simp [h]
    rw [if_pos e]
    obtain ⟨m, rfl⟩ : ∃ m : Nat, i = m := ⟨i.toNat, by omega⟩
    obtain ⟨zn', zl', a1, a2, e⟩ := lawLoop (nl := nl) (tg := tg) (l := l) (i := m) (how := how) (by omega) h1 (I (max zn 0)) (B (decide (0 ≤ zn))) (I (chk l.length m how)) (I (max zl 0)) (B (decide (0 ≤ zl))) (I (chk l.length m how)) (I t) (I (chk l.length m 1)) (I (chk l.length m how)) (I (chk l.length m 1)) (I 0) [] l.length 0 (-1) (-1) (by omega) (by omega) (.inl ⟨rfl, fun j h1 h2 => by omega⟩) (.inl ⟨rfl, fun j h1 => by omega⟩)
    have e' := e
    simp only [Int.natCast_zero] at e'
    rw [show ((0 : Nat) : Int) = 0 from rfl] at e
    rw [e, a1.uniq an, a2.uniq al]
    exact top zn zl
  · have e : ¬ decide (chk l.length i how = 0) = true := by simp [h]
    rw [if_neg e]
    have := top (-1) (-1)
    rw [bn h, bl h]
    exact this

end
end Walk
end Go.Proofs.Ytangmjeafnkfaaa
