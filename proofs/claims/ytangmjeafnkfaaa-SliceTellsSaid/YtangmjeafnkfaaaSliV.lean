import Derived.Test.YtangmjeafnkfaaaSliU
set_option linter.unusedVariables false
set_option linter.unusedSimpArgs false
namespace Go.Proofs.Ytangmjeafnkfaaa
open Go Go.AM
namespace Sli

theorem sameLoop {n1 n2 : Option Bool} {t1 t2 : Bool} {zs : List Int} (hz : zs.length < 2 ^ 63) : ∀ (k i : Nat), zs.length - i = k → i ≤ zs.length → ∀ H, L17_10 [V n1 t1 zs, V n2 t2 zs, I i] [] H = some ([B true], H) := by
  intro k
  induction k with
  | zero =>
    intro i hk hi H
    have : i = zs.length := by omega
    subst this
    rw [L17_10_eq]
    simp [-Option.bind_some, obs]
  | succ k ih =>
    intro i hk hi H
    have hi' : i < zs.length := by omega
    rw [L17_10_eq]
    simp only [lenA_sl, obs, bin_lss, cond_B]
    rw [if_pos (by simp <;> omega), idx hi', obs, ldi hi', obs, idx hi', obs, ldi hi']
    simp only [obs, bin_neq, decide_true, Bool.not_true, Bool.false_eq_true, if_false, cond_B, bin_add]
    rw [wrap_id (by omega), show (i : Int) + 1 = ((i + 1 : Nat) : Int) by omega]
    exact ih (i + 1) (by omega) (by omega) H

theorem ent17 {n1 n2 : Option Bool} {t1 t2 : Bool} {zs : List Int} (hz : zs.length < 2 ^ 63) : O.ent 17 [V n1 t1 zs, V n2 t2 zs] [] [] = some ([B true], []) := by
  rw [f17_eq]
  simp only [lenA_sl, obs, bin_neq, cond_B, decide_true, Bool.not_true, Bool.false_eq_true, if_false]
  exact sameLoop hz _ 0 rfl (by omega) _

/-- A list against one under way. -/
theorem call17 {n1 : Option Bool} {t1 : Bool} {zs : List Int} {o : AV} {H : Heap} (hz : zs.length < 2 ^ 63) (h : Lst 1 o H zs.length (zs.map Ia)) (lo : List Nat) : callA cfg O 17 [V n1 t1 zs, o] lo H = some (B true, H) := by
  obtain ⟨hl, ⟨nl, rfl, h1⟩ | ⟨id, g, rfl, ho⟩⟩ := h
  · exact callA_args (H' := []) (rs := [B true]) rfl rfl (ent17 hz) rfl
  · refine callA_rows (H' := []) (rs := [B true]) (ys := [V n1 t1 zs, V none false zs]) (b := true) rfl ?_ (ent17 hz) rfl rfl
    have e : pureArg H (.row id g 0 zs.length) = some (V none false zs, true) := by
      simp only [pureArg, pureLeaf, ho]
      rw [if_pos (by simp), List.drop_zero, List.take_of_length_le (by simp)]
    simp only [pureArgs, e, obs, oms]
    rfl

section
variable {nl : Option Bool} {tg : Bool} {l : List Dd}

theorem stop {A Bb C : List Int} {n1 n2 n3 : Option Bool} {t1 t2 t3 : Bool} {o1 o2 o3 : AV} {H : Heap} {w v i j : Int} {k : Nat} (hA : A.length < 2 ^ 63) (hB : Bb.length < 2 ^ 63) (hC : C.length < 2 ^ 63)
    (L1 : Lst 1 o1 H A.length (A.map Ia)) (L2 : Lst 1 o2 H Bb.length (Bb.map Ia)) (L3 : Lst 1 o3 H C.length (C.map Ia)) (hk : ¬ (k < l.length ∧ w = 0)) (lo : List Nat) :
    L10_20 [W nl tg l, I i, I j, V n1 t1 A, I w, V n2 t2 Bb, I w, V n3 t3 C, I v, I w, I v, o1, o2, o3, I k] lo H = some ([B true], H) := by
  rw [L10_20_eq]
  simp only [lenA_sl, bin_lss, obs]
  have hx : ∀ K : AV → Res, ((gd (B (decide ((k : Int) < l.length))) true (some (I w))).bind fun x3 =>
      (gd (B (decide ((k : Int) < l.length))) true (bin .eql .int x3 (I 0))).bind fun x4 =>
      (pickA (B (decide ((k : Int) < l.length))) x4 (B false)).bind K) = K (B false) := by
    intro K
    by_cases h : (k : Int) < l.length
    · have hw : ¬ w = 0 := fun e => hk ⟨by omega, e⟩
      simp only [h, decide_true, gd_B, if_true, obs, bin_eql, hw, decide_false, pickA_B]
    · simp only [h, decide_false, gd_B, Bool.false_eq_true, if_false, obs, gd_undef, pickA_B]
  rw [hx]
  simp only [cond_B, Bool.false_eq_true, if_false, call17 hA L1, call17 hB L2, call17 hC L3, obs, gd_B, gdH_B, if_true, bin_eql, decide_true, pickA_B, leave0_B]

theorem push1 {p : Nat → Bool} {k : Nat} {o : AV} {H : Heap} (hk : k < 200) (hp : p k = true) (L : Lst 1 o H (flt k p).length ((flt k p).map Ia)) : ∃ o' H', appA 1 8 o (.p (.sl (some false) true 1 [Ia k])) H = some (o', H') ∧ Lst 1 o' H' (flt (k + 1) p).length ((flt (k + 1) p).map Ia) ∧
    ∀ m cs b, Lst 1 b H m cs → Sep o b → Lst 1 b H' m cs ∧ Sep o' b := by
  have := flt_len k p
  obtain ⟨o', H', ea, hL', hK, _, h6, _⟩ := L.app (bytes := 8) (y := .p (.sl (some false) true 1 [Ia k])) (k := 1) (new := [Ia k]) (by simp [cellsA]) rfl (by omega) (by simp only [room]; omega)
  refine ⟨o', H', ea, ?_, fun m cs b hb hs => ⟨hb.keep hK hs, hs.app hb h6⟩⟩
  rw [flt_succ, if_pos hp]
  simpa using hL'

theorem loop (hu : ∀ k, (U l k).length < 2 ^ 63) {i : Nat} {j : Int} (hi : i < l.length) (hw : errF l [(i : Int)] = 0) {A Bb C : List Int} {n1 n2 n3 : Option Bool} {t1 t2 t3 : Bool}
    (hA : A = flt l.length (rb l i)) (hB : Bb = flt l.length (fun n => rb l n i)) (hC : C = flt l.length (fun n => decide (errF l [(i : Int), j] = 0) && (rb l n i && rb l j.toNat n))) (lo : List Nat) : ∀ (c k : Nat) (o1 o2 o3 : AV) (H : Heap), l.length - k = c → k ≤ l.length →
    Lst 1 o1 H (flt k (rb l i)).length ((flt k (rb l i)).map Ia) → Lst 1 o2 H (flt k (fun n => rb l n i)).length ((flt k (fun n => rb l n i)).map Ia) → Lst 1 o3 H (flt k (fun n => decide (errF l [(i : Int), j] = 0) && (rb l n i && rb l j.toNat n))).length ((flt k (fun n => decide (errF l [(i : Int), j] = 0) && (rb l n i && rb l j.toNat n))).map Ia) →
    Sep o1 o2 → Sep o1 o3 → Sep o2 o3 →
    ∃ H', L10_20 [W nl tg l, I i, I j, V n1 t1 A, I 0, V n2 t2 Bb, I 0, V n3 t3 C, I (errF l [(i : Int), j]), I 0, I (errF l [(i : Int), j]), o1, o2, o3, I k] lo H = some ([B true], H') := by
  obtain ⟨h200, hbad, _⟩ := errF_zero hw
  have hv := valid_of hbad
  have bA : A.length < 2 ^ 63 := by rw [hA]; have := flt_len l.length (rb l i); omega
  have bB : Bb.length < 2 ^ 63 := by rw [hB]; have := flt_len l.length (fun n => rb l n i); omega
  have bC : C.length < 2 ^ 63 := by rw [hC]; have := flt_len l.length (fun n => decide (errF l [(i : Int), j] = 0) && (rb l n i && rb l j.toNat n)); omega
  intro c
  induction c with
  | zero =>
    intro k o1 o2 o3 H hc hk L1 L2 L3 _ _ _
    have : k = l.length := by omega
    subst this
    rw [← hA] at L1
    rw [← hB] at L2
    rw [← hC] at L3
    exact ⟨H, stop bA bB bC L1 L2 L3 (by omega) lo⟩
  | succ c ih =>
    intro k o1 o2 o3 H hc hk L1 L2 L3 s12 s13 s23
    have hk' : k < l.length := by omega
    have nx : ∀ o1 o2 o3 H, Lst 1 o1 H (flt (k + 1) (rb l i)).length ((flt (k + 1) (rb l i)).map Ia) → Lst 1 o2 H (flt (k + 1) (fun n => rb l n i)).length ((flt (k + 1) (fun n => rb l n i)).map Ia) → Lst 1 o3 H (flt (k + 1) (fun n => decide (errF l [(i : Int), j] = 0) && (rb l n i && rb l j.toNat n))).length ((flt (k + 1) (fun n => decide (errF l [(i : Int), j] = 0) && (rb l n i && rb l j.toNat n))).map Ia) → Sep o1 o2 → Sep o1 o3 → Sep o2 o3 →
        ∃ H', L10_23 [W nl tg l, I i, I j, V n1 t1 A, I 0, V n2 t2 Bb, I 0, V n3 t3 C, I (errF l [(i : Int), j]), I 0, I (errF l [(i : Int), j]), o1, o2, o3, I k] lo H = some ([B true], H') := by
      intro o1 o2 o3 H L1 L2 L3 s12 s13 s23
      rw [L10_23_eq]
      simp only [bin_add, obs]
      rw [wrap_id (by omega), show (k : Int) + 1 = ((k + 1 : Nat) : Int) by omega]
      exact ih (k + 1) o1 o2 o3 H (by omega) (by omega) L1 L2 L3 s12 s13 s23
    have hlit : ∀ H, litA false 1 [I k] H = some (.p (.sl (some false) true 1 [Ia k]), H) := fun H => rfl
    have same : ∀ (p : Nat → Bool) (o : AV) (H : Heap), p k = false → Lst 1 o H (flt k p).length ((flt k p).map Ia) → Lst 1 o H (flt (k + 1) p).length ((flt (k + 1) p).map Ia) := by
      intro p o H hp h
      rw [flt_succ, if_neg (by simp [hp])]
      simpa using h
    have third : ∀ o1 o2 o3 H, Lst 1 o1 H (flt (k + 1) (rb l i)).length ((flt (k + 1) (rb l i)).map Ia) → Lst 1 o2 H (flt (k + 1) (fun n => rb l n i)).length ((flt (k + 1) (fun n => rb l n i)).map Ia) → Lst 1 o3 H (flt k (fun n => decide (errF l [(i : Int), j] = 0) && (rb l n i && rb l j.toNat n))).length ((flt k (fun n => decide (errF l [(i : Int), j] = 0) && (rb l n i && rb l j.toNat n))).map Ia) → Sep o1 o2 → Sep o1 o3 → Sep o2 o3 →
        ∃ H', L10_33 [W nl tg l, I i, I j, V n1 t1 A, I 0, V n2 t2 Bb, I 0, V n3 t3 C, I (errF l [(i : Int), j]), I 0, I (errF l [(i : Int), j]), o1, o2, o3, I k] lo H = some ([B true], H') := by
      intro o1 o2 o3 H L1 L2 L3 s12 s13 s23
      rw [L10_33_eq]
      simp only [bin_eql, obs, hlit]
      by_cases hz : errF l [(i : Int), j] = 0
      · obtain ⟨_, _, h3⟩ := errF_zero hz
        simp only [List.any_cons, List.any_nil, Bool.or_false, Bool.or_eq_false_iff] at h3
        obtain ⟨q, rfl, hq⟩ := in_of h3.2
        simp only [Int.toNat_natCast] at L3 nx ⊢
        simp only [hz, decide_true, gd_B, gdH_B, if_true, obs, call47 (nl := nl) (tg := tg) hv hu hk' h200 hi, pickA_B]
        cases h1 : rb l k i with
        | false =>
          simp only [gd_B, gdH_B, Bool.false_eq_true, if_false, obs, pickA_B, cond_B]
          have := nx o1 o2 o3 H L1 L2 (same _ o3 H (by simp [h1]) L3) s12 s13 s23
          rw [hz] at this
          exact this
        | true =>
          simp only [gd_B, gdH_B, if_true, obs, call47 (nl := nl) (tg := tg) hv hu hq h200 hk', pickA_B, cond_B]
          cases h2 : rb l q k with
          | false =>
            simp only [Bool.false_eq_true, if_false]
            have := nx o1 o2 o3 H L1 L2 (same _ o3 H (by simp [h2]) L3) s12 s13 s23
            rw [hz] at this
            exact this
          | true =>
            obtain ⟨o3', H3, ea, L3', keep⟩ := push1 (p := fun n => decide (errF l [(i : Int), (q : Int)] = 0) && (rb l n i && rb l q n)) (by omega) (by simp [hz, h1, h2]) L3
            simp only [if_true, ea, obs]
            obtain ⟨k1, k2⟩ := keep _ _ _ L1 s13.symm
            obtain ⟨k3, k4⟩ := keep _ _ _ L2 s23.symm
            have := nx o1 o2 o3' H3 k1 k3 L3' s12 k2.symm k4.symm
            rw [hz] at this
            exact this
      · simp only [hz, decide_false, gd_B, gdH_B, Bool.false_eq_true, if_false, obs, gd_undef, gdH_undef, pickA_B, cond_B]
        exact nx o1 o2 o3 H L1 L2 (same _ o3 H (by simp [hz]) L3) s12 s13 s23
    have second : ∀ o1 o2 o3 H, Lst 1 o1 H (flt (k + 1) (rb l i)).length ((flt (k + 1) (rb l i)).map Ia) → Lst 1 o2 H (flt k (fun n => rb l n i)).length ((flt k (fun n => rb l n i)).map Ia) → Lst 1 o3 H (flt k (fun n => decide (errF l [(i : Int), j] = 0) && (rb l n i && rb l j.toNat n))).length ((flt k (fun n => decide (errF l [(i : Int), j] = 0) && (rb l n i && rb l j.toNat n))).map Ia) → Sep o1 o2 → Sep o1 o3 → Sep o2 o3 →
        ∃ H', L10_29 [W nl tg l, I i, I j, V n1 t1 A, I 0, V n2 t2 Bb, I 0, V n3 t3 C, I (errF l [(i : Int), j]), I 0, I (errF l [(i : Int), j]), o1, o2, o3, I k] lo H = some ([B true], H') := by
      intro o1 o2 o3 H L1 L2 L3 s12 s13 s23
      rw [L10_29_eq]
      simp only [call47 (nl := nl) (tg := tg) hv hu hk' h200 hi, obs, cond_B, hlit]
      cases h1 : rb l k i with
      | false =>
        simp only [Bool.false_eq_true, if_false]
        exact third o1 o2 o3 H L1 (same _ o2 H h1 L2) L3 s12 s13 s23
      | true =>
        obtain ⟨o2', H2, ea, L2', keep⟩ := push1 (p := fun n => rb l n i) (by omega) h1 L2
        simp only [if_true, ea, obs]
        obtain ⟨k1, k2⟩ := keep _ _ _ L1 s12.symm
        obtain ⟨k3, k4⟩ := keep _ _ _ L3 s23
        exact third o1 o2' o3 H2 k1 L2' k3 k2.symm s13 k4
    rw [L10_20_eq]
    have hkl : (k : Int) < l.length := by omega
    simp only [lenA_sl, bin_lss, obs, hkl, decide_true, gd_B, if_true, bin_eql, pickA_B, cond_B, call47 (nl := nl) (tg := tg) hv hu hi h200 hk', hlit]
    cases h1 : rb l i k with
    | false =>
      simp only [Bool.false_eq_true, if_false]
      exact second o1 o2 o3 H (same _ o1 H h1 L1) L2 L3 s12 s13 s23
    | true =>
      obtain ⟨o1', H1, ea, L1', keep⟩ := push1 (p := rb l i) (by omega) h1 L1
      simp only [if_true, ea, obs]
      obtain ⟨k1, k2⟩ := keep _ _ _ L2 s12
      obtain ⟨k3, k4⟩ := keep _ _ _ L3 s13
      exact second o1' o2 o3 H1 L1' k1 k3 k2 k4 s23

theorem law' (hu : ∀ k, (U l k).length < 2 ^ 63) (i j : Int) : ∃ H', L10_9 [W nl tg l, I i, I j] [] [] = some ([B true], H') := by
  obtain ⟨n1, t1, e1⟩ := call43 (nl := nl) (tg := tg) hu i [] []
  obtain ⟨n2, t2, e2⟩ := call44 (nl := nl) (tg := tg) hu i [] []
  obtain ⟨n3, t3, e3⟩ := call45 (nl := nl) (tg := tg) hu i j [] []
  have f1 : litA false 1 [I i] [] = some (V (some false) true [i], []) := rfl
  have f2 : litA false 1 [I i, I j] [] = some (V (some false) true [i, j], []) := rfl
  rw [L10_9_eq]
  simp only [e1, e2, e3, obs, extractA_tup, List.getElem?_cons_zero, List.getElem?_cons_succ, f1, f2, call46 (nl := nl) (tg := tg) (ps := [i]) hu (by simp), call46 (nl := nl) (tg := tg) (ps := [i, j]) hu (by simp)]
  by_cases hw : errF l [i] = 0
  · obtain ⟨_, _, h3⟩ := errF_zero hw
    simp only [List.any_cons, List.any_nil, Bool.or_false] at h3
    obtain ⟨m, rfl, hm⟩ := in_of h3
    have := loop (nl := nl) (tg := tg) (n1 := n1) (n2 := n2) (n3 := n3) (t1 := t1) (t2 := t2) (t3 := t3) (j := j) hu hm hw (A := resB l m) (Bb := resO l m) (C := resC l m j) (by unfold resB; rw [if_pos hw]; rfl) (by unfold resO; rw [if_pos hw]; rfl) (by
      unfold resC
      by_cases hz : errF l [(m : Int), j] = 0
      · rw [if_pos hz]
        exact flt_congr fun n _ => by simp [hz]
      · rw [if_neg hz]
        simp [hz, flt]) [] l.length 0 (.p nilS) (.p nilS) (.p nilS) [] rfl (by omega) (Lst.nil 1 []) (Lst.nil 1 []) (Lst.nil 1 []) (Sep.nil _ _) (Sep.nil _ _) (Sep.nil _ _)
    rw [hw]
    exact this
  · have hv : ¬ errF l [i, j] = 0 := by
      intro h
      obtain ⟨h1, h2, h3⟩ := errF_zero h
      simp only [List.any_cons, List.any_nil, Bool.or_false, Bool.or_eq_false_iff] at h3
      apply hw
      unfold errF
      rw [if_neg (by omega), h2]
      simp [h3.1]
    have b1 : resB l i = [] := by unfold resB; rw [if_neg hw]
    have b2 : resO l i = [] := by unfold resO; rw [if_neg hw]
    have b3 : resC l i j = [] := by unfold resC; rw [if_neg hv]
    rw [b1, b2, b3]
    exact ⟨[], stop (k := 0) (A := []) (Bb := []) (C := []) (by simp) (by simp) (by simp) (Lst.nil 1 []) (Lst.nil 1 []) (Lst.nil 1 []) (fun h => hw h.2) []⟩

theorem law (hu : ∀ k, (U l k).length < 2 ^ 63) (i j : Int) : ∃ H', O.ent 10 [W nl tg l, I i, I j] [] [] = some ([B true], H') := by
  rw [f10_eq]
  simp only [lenA_sl, bin_leq, obs, cond_B]
  by_cases h : (l.length : Int) ≤ 200
  · have hb : bests false (I l.length) [I 40] = some (I (min l.length 40 : Nat)) := by
      simp only [bests, best, if_true, Option.bind_some, Bool.false_eq_true, if_false]
      congr 4
      split <;> omega
    rw [if_pos (by simpa using h), hb, obs, cutA_hi (by omega)]
    have e : (AV.p (.sl nl (tg && decide (((min l.length 40 : Nat) : Int) = l.length)) ((min l.length 40 : Nat) : Int).toNat ((l.map us).take (((min l.length 40 : Nat) : Int).toNat * 1)))) = W nl (tg && decide (((min l.length 40 : Nat) : Int) = l.length)) (l.take 40) := by
      simp only [Int.toNat_natCast, Nat.mul_one, W, List.length_take, List.map_take]
      rw [Nat.min_comm l.length 40]
      congr 2
      rcases Nat.lt_or_ge l.length 40 with q | q
      · rw [Nat.min_eq_right (by omega), List.take_of_length_le (by simp), List.take_of_length_le (by simp; omega)]
      · rw [Nat.min_eq_left q]
    simp only [obs]
    rw [e]
    refine law' (fun k => ?_) i j
    unfold U
    rcases Nat.lt_or_ge k 40 with q | q
    · have : (l.take 40).getD k (none, []) = l.getD k (none, []) := by simp [List.getD, List.getElem?_take, q]
      rw [this]; exact hu k
    · have : (l.take 40).getD k (none, []) = (none, []) := by simp [List.getD, List.getElem?_take, Nat.not_lt.mpr q]
      rw [this]; simp
  · rw [if_neg (by simpa using h)]
    exact law' hu i j

end
end Sli
end Go.Proofs.Ytangmjeafnkfaaa
