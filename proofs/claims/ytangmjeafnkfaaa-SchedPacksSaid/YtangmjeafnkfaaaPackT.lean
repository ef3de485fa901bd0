import Derived.Test.YtangmjeafnkfaaaPackS
set_option linter.unusedVariables false
set_option linter.unusedSimpArgs false
namespace Go.Proofs.Ytangmjeafnkfaaa
open Go Go.AM
namespace Pack

/-! ### The document's runs -/
theorem thr_between (n : Int) : (decide (0 ≤ n) && decide (n ≤ 7)) = thr n := by
  unfold thr
  congr 1
  exact decide_eq_decide.mpr (by omega)

/-- Runs whose last is of another thread (or there are none). -/
def Fresh (acc : List (Int × Int)) (x : Int) : Prop := ∀ p, acc.getLast? = some p → p.1 ≠ x

theorem pks_run (acc : List (Int × Int)) (x : Int) (h : Fresh acc x) : ∀ m : Nat, (List.replicate (m + 1) x).foldl pk acc = acc ++ [(x, (m : Int) + 1)] := by
  intro m
  induction m with
  | zero =>
    simp only [List.replicate_succ, List.replicate_zero, List.foldl_cons, List.foldl_nil]
    unfold pk
    split
    · rename_i p hp
      rw [if_neg (h p hp)]
      simp
    · rename_i hp
      rw [List.getLast?_eq_none_iff] at hp
      subst hp
      simp
  | succ m ih =>
    rw [List.replicate_succ', List.foldl_append, ih]
    simp only [List.foldl_cons, List.foldl_nil]
    unfold pk
    simp

section
variable {nl : Option Bool} {tg : Bool} {zs : List Int}

theorem refLoop (hz : zs.length ≤ 200) (lo : List Nat) : ∀ (c i k : Nat) (out : AV) (H : Heap) (hi : i < zs.length), zs.length - i + (zs.length - k) = c → i ≤ k → k ≤ zs.length → (∀ j (hj : j < zs.length), i ≤ j → j < k → zs[j] = zs[i]) → Fresh (pks (zs.take i)) zs[i] → Lst 2 out H (pks (zs.take i)).length ((pks (zs.take i)).flatMap val) →
    (i < k ∨ True) → ∃ nl' tg' H', L58_26 [V nl tg zs, out, I i, I k] lo H = some ([.p (.sl nl' tg' (pks zs).length ((pks zs).flatMap val)), I 0], H') := by
  intro c
  induction c using Nat.strongRecOn with
  | _ c ih =>
    intro i k out H hi hc hik hk hsame hfr hL _
    by_cases hgo : ∃ h : k < zs.length, zs[k] = zs[i]
    · obtain ⟨hk', he⟩ := hgo
      rw [L58_26_eq]
      have h0 : (k : Int) < zs.length := by omega
      simp only [lenA_sl, obs, bin_lss, h0, decide_true, gd_B, if_true, idx hk', idx hi, ldi hk', ldi hi, bin_eql, he, pickA_B, cond_B, bin_add]
      rw [wrap_id (by omega), show (k : Int) + 1 = ((k + 1 : Nat) : Int) by omega]
      refine ih (zs.length - i + (zs.length - (k + 1))) (by omega) i (k + 1) out H hi rfl (by omega) (by omega) (fun j hj h1 h2 => ?_) hfr hL (.inr trivial)
      rcases Nat.lt_or_ge j k with e | e
      · exact hsame j hj h1 e
      · have : j = k := by omega
        subst this
        exact he
    · have hik' : i < k := by
        rcases Nat.lt_or_ge i k with e | e
        · exact e
        · have : k = i := by omega
          subst this
          exact (hgo ⟨hi, rfl⟩).elim
      obtain ⟨m, hm⟩ : ∃ m, k = i + (m + 1) := ⟨k - i - 1, by omega⟩
      have hseg : zs.take k = zs.take i ++ List.replicate (m + 1) zs[i] := by
        rw [hm, List.take_add]
        congr 1
        apply List.ext_getElem
        · simp; omega
        · intro j h1 h2
          simp only [List.length_take, List.length_drop] at h1
          rw [List.getElem_take, List.getElem_drop, List.getElem_replicate]
          exact hsame (i + j) (by omega) (by omega) (by omega)
      have hpk : pks (zs.take k) = pks (zs.take i) ++ [(zs[i], (m : Int) + 1)] := by
        rw [hseg]
        unfold pks
        rw [List.foldl_append]
        exact pks_run _ _ hfr m
      have hlen := pks_len (zs.take i)
      rw [List.length_take] at hlen
      have bld : buildA [I 0, I 0] [(0, 1, I zs[i]), (1, 1, I ((m : Int) + 1))] = some (.agg [I zs[i], I ((m : Int) + 1)]) := rfl
      have hlit : litA false 2 [.agg [I zs[i], I ((m : Int) + 1)]] H = some (.p (.sl (some false) true 1 (val (zs[i], (m : Int) + 1))), H) := rfl
      obtain ⟨out', H1, ea, hL', _⟩ := hL.app (bytes := 16) (y := .p (.sl (some false) true 1 (val (zs[i], (m : Int) + 1)))) (k := 1) (new := val (zs[i], (m : Int) + 1)) (by simp [cellsA, val_len]) rfl (by omega) (by simp only [room]; omega)
      have step : L58_26 [V nl tg zs, out, I i, I k] lo H = L58_22 [V nl tg zs, out', I k] lo H1 := by
        rw [L58_26_eq]
        by_cases h0 : (k : Int) < zs.length
        · have hk' : k < zs.length := by omega
          have hne : ¬ zs[k] = zs[i] := fun e => hgo ⟨hk', e⟩
          simp only [lenA_sl, obs, bin_lss, h0, decide_true, gd_B, if_true, idx hk', idx hi, ldi hk', ldi hi, bin_eql, hne, decide_false, pickA_B, cond_B, Bool.false_eq_true, if_false, bin_sub]
          rw [wrap_id (by omega), show (k : Int) - i = (m : Int) + 1 by omega, bld, obs, hlit, obs, ea, obs]
        · simp only [lenA_sl, obs, bin_lss, h0, decide_false, gd_B, gd_undef, Bool.false_eq_true, if_false, pickA_B, cond_B, idx hi, ldi hi, bin_sub]
          rw [wrap_id (by omega), show (k : Int) - i = (m : Int) + 1 by omega, bld, obs, hlit, obs, ea, obs]
      rw [step, L58_22_eq]
      have hL2 : Lst 2 out' H1 (pks (zs.take k)).length ((pks (zs.take k)).flatMap val) := by
        rw [hpk]
        simpa using hL'
      by_cases h0 : (k : Int) < zs.length
      · have hk' : k < zs.length := by omega
        simp only [lenA_sl, obs, bin_lss, h0, decide_true, cond_B, if_true]
        refine ih (zs.length - k + (zs.length - k)) (by omega) k k out' H1 hk' rfl (by omega) (by omega) (fun j hj h1 h2 => by omega) (fun p hp => ?_) hL2 (.inr trivial)
        rw [hpk] at hp
        simp at hp
        subst hp
        exact fun e => hgo ⟨hk', e.symm⟩
      · have hkk : k = zs.length := by omega
        subst hkk
        rw [List.take_length] at hL2
        obtain ⟨nl', tg', H', e⟩ := hL2.leave2 lo (Ia 0)
        refine ⟨nl', tg', H', ?_⟩
        simp only [lenA_sl, obs, bin_lss, h0, decide_false, cond_B, Bool.false_eq_true, if_false]
        exact e

theorem checkLoop (hz : zs.length ≤ 200) (lo : List Nat) (H : Heap) : ∀ (c i : Nat), zs.length - i = c → i ≤ zs.length →
    L58_10 [V nl tg zs, I i] lo H = if ((zs.drop i).any fun n => !thr n) = true then some ([.p nilS, I 1], H) else L58_22 [V nl tg zs, .p nilS, I 0] lo H := by
  intro c
  induction c with
  | zero =>
    intro i hc hi
    have : i = zs.length := by omega
    subst this
    rw [L58_10_eq]
    simp only [lenA_sl, obs, bin_lss, cond_B]
    rw [if_neg (by simp)]
    simp
  | succ c ih =>
    intro i hc hi
    have hi' : i < zs.length := by omega
    rw [L58_10_eq]
    simp only [lenA_sl, obs, bin_lss, cond_B]
    rw [if_pos (by simp <;> omega), idx hi']
    simp only [obs, ldi hi', between_eq, thr_between, un_not, cond_B, bin_add]
    rw [wrap_id (by omega), show (i : Int) + 1 = ((i + 1 : Nat) : Int) by omega, ih (i + 1) (by omega) (by omega), List.drop_eq_getElem_cons hi', List.any_cons]
    cases ht : thr zs[i] with
    | true => simp
    | false => simp; rfl

theorem call58 (lo : List Nat) (H : Heap) : ∃ nl' tg', callA cfg O 58 [V nl tg zs] lo H = some (.tup (if 200 < zs.length then [.p nilS, I 2] else if (zs.any fun n => !thr n) = true then [.p nilS, I 1] else [.p (.sl nl' tg' (pks zs).length ((pks zs).flatMap val)), I 0]), H) := by
  by_cases h : 200 < zs.length
  · refine ⟨none, false, ?_⟩
    rw [if_pos h]
    refine callA_args (H' := []) (rs := [.p nilS, I 2]) rfl rfl ?_ rfl
    rw [f58_eq]
    simp only [lenA_sl, obs, bin_gtr, cond_B]
    rw [if_pos (by simp <;> omega)]
    rfl
  · simp only [if_neg h]
    have hc := checkLoop (nl := nl) (tg := tg) (zs := zs) (by omega) [] [] zs.length 0 rfl (by omega)
    rw [List.drop_zero] at hc
    by_cases h1 : (zs.any fun n => !thr n) = true
    · refine ⟨none, false, ?_⟩
      rw [if_pos h1]
      refine callA_args (H' := []) (rs := [.p nilS, I 1]) rfl rfl ?_ rfl
      rw [f58_eq]
      simp only [lenA_sl, obs, bin_gtr, cond_B]
      rw [if_neg (by simp <;> omega), show (I 0) = I (0 : Nat) from rfl, hc, if_pos h1]
    · have key : ∃ nl' tg' H', L58_22 [V nl tg zs, .p nilS, I 0] [] [] = some ([.p (.sl nl' tg' (pks zs).length ((pks zs).flatMap val)), I 0], H') := by
        rw [L58_22_eq]
        by_cases h0 : (0 : Int) < zs.length
        · have h0' : 0 < zs.length := by omega
          obtain ⟨nl', tg', H', e⟩ := refLoop (nl := nl) (tg := tg) (zs := zs) (by omega) [] _ 0 0 (.p nilS) [] h0' rfl (by omega) (by omega) (fun j hj h1 h2 => by omega) (fun p hp => by simp [pks] at hp) (Lst.nil 2 []) (.inr trivial)
          refine ⟨nl', tg', H', ?_⟩
          simp only [lenA_sl, obs, bin_lss, h0, decide_true, cond_B, if_true]
          exact e
        · have hz : zs = [] := List.length_eq_zero_iff.mp (by omega)
          subst hz
          exact ⟨some true, true, [], rfl⟩
      obtain ⟨nl', tg', H', e⟩ := key
      refine ⟨nl', tg', ?_⟩
      rw [if_neg h1]
      refine callA_args (H' := H') (rs := [_, _]) rfl rfl ?_ rfl
      rw [f58_eq]
      simp only [lenA_sl, obs, bin_gtr, cond_B]
      rw [if_neg (by simp <;> omega), show (I 0) = I (0 : Nat) from rfl, hc, if_neg h1]
      exact e

end

/-! ### Repeat -/
theorem mul_one' (m : Nat) (hm : m ≤ 200) (lo : List Nat) (H : Heap) : callA cfg O 148 [U64 1, U64 m] lo H = some (.tup [U64 0, U64 m], H) := by
  have h157 : callA cfg O 157 [U64 1, U64 m] [] [] = some (.tup [U64 0, U64 m], []) := by
    refine callA_args (H' := []) (rs := [U64 0, U64 m]) rfl rfl ?_ rfl
    rw [f157_eq]
    have e2 : (m &&& 4294967295 : Nat) = m := by
      have := Nat.and_two_pow_sub_one_eq_mod m 32
      rw [show (2 ^ 32 - 1 : Nat) = 4294967295 from rfl] at this
      rw [this]
      omega
    have a1 : bin .and .int (U64 1) (.p (.v (.int .u64 4294967295))) = some (U64 1) := and64 1 4294967295 (by omega) (by omega)
    have a2 : bin .and .int (U64 m) (.p (.v (.int .u64 4294967295))) = some (U64 m) := by
      have := and64 m 4294967295 (by omega) (by omega)
      rw [e2] at this
      exact this
    have a0 : bin .and .int (U64 0) (.p (.v (.int .u64 4294967295))) = some (U64 0) := and64 0 4294967295 (by omega) (by omega)
    have s1 := shr64 1 (by omega)
    have s2 := shr64 m (by omega)
    have s0 := shr64 0 (by omega)
    rw [show 1 / 4294967296 = 0 from rfl] at s1
    rw [show m / 4294967296 = 0 by omega] at s2
    rw [show 0 / 4294967296 = 0 from rfl] at s0
    have m1 := mul64 (a := 1) (b := m) (by omega)
    have m2 := mul64 (a := 0) (b := m) (by omega)
    have m3 := mul64 (a := 1) (b := 0) (by omega)
    have m4 := mul64 (a := 0) (b := 0) (by omega)
    have p0 := add64 (a := 0) (b := 0) (by omega)
    rw [Nat.one_mul] at m1
    rw [Nat.zero_mul] at m2
    simp only [a1, a2, s1, s2, s0, a0, m1, m2, m3, m4, p0, obs]
    rfl
  refine callA_args (H' := []) (rs := [U64 0, U64 m]) rfl rfl ?_ rfl
  rw [f148_eq]
  simp only [cond_B, Bool.false_eq_true, if_false, h157, obs, extractA_tup, List.getElem?_cons_zero, List.getElem?_cons_succ]
  rfl

abbrev Hr (m : Nat) (cs : List PV) : Heap := [.row 0 1 cs]

theorem splice_mid {α : Type} : ∀ (ys xs pre suf : List α), xs.length = ys.length → splice (pre ++ xs ++ suf) pre.length ys = pre ++ ys ++ suf := by
  intro ys
  induction ys with
  | nil => intro xs pre suf h; simp at h; subst h; rfl
  | cons y ys ih =>
    intro xs pre suf h
    match xs, h with
    | x :: xs, h =>
      have := ih xs (pre ++ [y]) suf (by simpa using h)
      simp only [List.length_append, List.length_singleton] at this
      rw [splice]
      have e : (pre ++ x :: xs ++ suf).set pre.length y = pre ++ [y] ++ xs ++ suf := by
        rw [List.append_assoc, List.set_append_right _ _ (by omega)]
        simp
      rw [e, this]
      simp

theorem repLoop (t : Int) (m : Nat) (hm : m ≤ 200) (lo : List Nat) : ∀ (c n : Nat), m - n = c → 1 ≤ n → n ≤ m →
    ∃ nl tg H', L125_18 [.row 0 0 0 m, I n] lo (Hr m (List.replicate n (Ia t) ++ List.replicate (m - n) (Ia 0))) = some ([.p (.sl nl tg m (List.replicate m (Ia t)))], H') := by
  intro c
  induction c using Nat.strongRecOn with
  | _ c ih =>
    intro n hc h1 hn
    rw [L125_18_eq]
    simp only [lenA_row, obs, bin_lss, cond_B]
    by_cases h : (n : Int) < m
    · have hlt : n < m := by omega
      obtain ⟨q, hq⟩ : ∃ q, q = min n (m - n) := ⟨_, rfl⟩
      have c1 : cutA 1 (.row 0 0 0 m) (some (I n)) none none (Hr m (List.replicate n (Ia t) ++ List.replicate (m - n) (Ia 0))) = some (.row 0 0 n (m - n)) := by
        simp only [cutA, bnd, asI, Option.bind_some, Hr, List.getElem?_cons_zero]
        rw [if_pos (by simp <;> omega)]
        simp
      have c2 : cutA 1 (.row 0 0 0 m) none (some (I n)) none (Hr m (List.replicate n (Ia t) ++ List.replicate (m - n) (Ia 0))) = some (.row 0 0 0 n) := by
        rw [cutA_row_hi (g' := 0) (xs := List.replicate n (Ia t) ++ List.replicate (m - n) (Ia 0)) rfl (by omega)]
        simp
      have c3 : copyA 1 (.row 0 0 n (m - n)) (.row 0 0 0 n) (Hr m (List.replicate n (Ia t) ++ List.replicate (m - n) (Ia 0))) = some (I (q : Nat), Hr m (List.replicate (n + q) (Ia t) ++ List.replicate (m - (n + q)) (Ia 0))) := by
        have e1 : cellsA 1 (.row 0 0 0 n) (Hr m (List.replicate n (Ia t) ++ List.replicate (m - n) (Ia 0))) = some (n, List.replicate n (Ia t)) := by
          simp [cellsA]
        simp only [copyA, Hr, List.getElem?_cons_zero]
        rw [if_pos (by simp <;> omega)]
        have e1' := e1
        simp only [Hr] at e1'
        rw [e1']
        simp only [obs, Nat.mul_one, ← hq]
        have htk : (List.replicate n (Ia t)).take q = List.replicate q (Ia t) := by
          rw [List.take_replicate, Nat.min_eq_left (by omega)]
        have hsp : splice (List.replicate n (Ia t) ++ List.replicate (m - n) (Ia 0)) n (List.replicate q (Ia t)) = List.replicate (n + q) (Ia t) ++ List.replicate (m - (n + q)) (Ia 0) := by
          have := splice_mid (List.replicate q (Ia t)) (List.replicate q (Ia 0)) (List.replicate n (Ia t)) (List.replicate (m - (n + q)) (Ia 0)) (by simp)
          simp only [List.length_replicate] at this
          rw [List.append_assoc, List.replicate_append_replicate, show q + (m - (n + q)) = m - n by omega] at this
          rw [this, List.replicate_append_replicate]
        rw [htk, hsp]
        rfl
      rw [if_pos (by simpa using h), c1, obs, c2, obs, c3]
      simp only [obs, bin_add]
      rw [wrap_id (by omega), show (n : Int) + (q : Nat) = ((n + q : Nat) : Int) by omega]
      exact ih (m - (n + q)) (by omega) (n + q) rfl (by omega) (by omega)
    · have : n = m := by omega
      subst this
      rw [if_neg (by simp)]
      simp only [Nat.sub_self, List.replicate_zero, List.append_nil]
      exact (Lst.row (sz := 1) (id := 0) (g := 0) (m := n) (cs := List.replicate n (Ia t)) (H := Hr n (List.replicate n (Ia t))) (by simp) rfl).leave1 lo

theorem call125 {nl : Option Bool} {tg : Bool} (t : Int) (m : Nat) (h1 : 1 ≤ m) (hm : m ≤ 200) (lo : List Nat) (H : Heap) :
    ∃ nl' tg', callA cfg O 125 [.p (.sl nl tg 1 [Ia t]), I m] lo H = some (.p (.sl nl' tg' m (List.replicate m (Ia t))), H) := by
  obtain ⟨nl', tg', H', e⟩ := repLoop t m hm [] _ 1 rfl (by omega) h1
  refine ⟨nl', tg', callA_args (H' := H') (rs := [_]) rfl rfl ?_ rfl⟩
  rw [f125_eq]
  have cv1 : conv (.int .u64) (I (1 : Nat)) = some (U64 1) := rfl
  have cv2 : conv (.int .u64) (I m) = some (U64 m) := by
    show some (AV.p (.v (.int .u64 (IntKind.u64.wrap m)))) = _
    rw [wrap_u64 (by omega)]
  have cv3 : conv (.int .i64) (U64 m) = some (I m) := by
    show some (AV.p (.v (.int .i64 (IntKind.i64.wrap m)))) = _
    rw [wrap_id (by omega)]
  have g1 : bin .gtr .int (U64 0) (.p (.v (.int .u64 0))) = some (B (decide (0 < 0))) := gtr64 0 0
  have g2 : bin .gtr .int (U64 m) (.p (.v (.int .u64 9223372036854775807))) = some (B (decide (9223372036854775807 < m))) := gtr64 m 9223372036854775807
  have mk : mkRow 1 8 [.v (.int .i64 0)] (I m) (I m) [] = some (.row 0 0 0 m, Hr m (List.replicate m (Ia 0))) := by
    simp only [mkRow, asI, obs]
    rw [if_pos (by simp only [room]; omega)]
    simp [zerosA, Hr]
  have cp : copyA 1 (.row 0 0 0 m) (.p (.sl nl tg 1 [Ia t])) (Hr m (List.replicate m (Ia 0))) = some (I 1, Hr m (List.replicate 1 (Ia t) ++ List.replicate (m - 1) (Ia 0))) := by
    obtain ⟨k, rfl⟩ : ∃ k, m = k + 1 := ⟨m - 1, by omega⟩
    simp [copyA, Hr, cellsA, splice, List.replicate_succ]
  simp only [bin_lss, obs, cond_B]
  rw [if_neg (by simp), L125_9_eq]
  simp only [lenA_sl, obs, cv1, cv2, mul_one' m hm, extractA_tup, List.getElem?_cons_zero, List.getElem?_cons_succ, g1]
  simp only [Nat.lt_irrefl, decide_false, gd_B, if_true, obs, g2]
  have hnm : ¬ (9223372036854775807 < m) := by omega
  simp only [hnm, decide_false, pickA_B, Bool.false_eq_true, if_false, cond_B]
  rw [L125_15_eq]
  simp only [cv3, obs, mk, cp]
  exact e

end Pack
end Go.Proofs.Ytangmjeafnkfaaa
