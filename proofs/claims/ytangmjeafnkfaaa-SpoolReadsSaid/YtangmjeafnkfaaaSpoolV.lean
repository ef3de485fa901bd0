import Derived.Test.YtangmjeafnkfaaaSpoolU
set_option linter.unusedVariables false
set_option linter.unusedSimpArgs false
namespace Go.Proofs.Ytangmjeafnkfaaa
open Go Go.AM
namespace Spool

theorem rec_eq {b : List Nat} (hl : b.length = 13) (hb : ∀ x ∈ b, x < 256) : recd (b.getD 0 0) (num ((b.drop 1).take 8)) = b ↔ num ((b.drop 9).take 4) = sm (b.take 9) := by
  have s8 : ((b.drop 1).take 8).length = 8 := by simp [hl]
  have h8 := be_num ((b.drop 1).take 8) fun x h => hb x (List.mem_of_mem_drop (List.mem_of_mem_take h))
  rw [s8] at h8
  have h9 : b.getD 0 0 :: be 8 (num ((b.drop 1).take 8)) = b.take 9 := by
    rw [h8]
    match b, hl with
    | x :: b', _ => simp
  have e4 : (b.drop 9).take 4 = b.drop 9 := List.take_of_length_le (by simp [hl])
  have s4 : (b.drop 9).length = 4 := by simp [hl]
  unfold recd
  rw [h9, e4]
  constructor
  · intro h
    have h' : b.take 9 ++ be 4 (sm (b.take 9)) = b.take 9 ++ b.drop 9 := by rw [List.take_append_drop]; exact h
    have := List.append_cancel_left h'
    rw [← this, num_be 4 _ (by have := sm_lt (b.take 9); omega)]
  · intro h
    rw [← h]
    have := be_num (b.drop 9) fun x h => hb x (List.mem_of_mem_drop h)
    rw [s4] at this
    rw [this, List.take_append_drop]

theorem wrap_back {N : Nat} (h : N < 18446744073709551616) : (IntKind.i64.wrap (N : Int) % 18446744073709551616).toNat = N := by
  simp only [IntKind.wrap, IntKind.bits, IntKind.signed]
  simp
  omega

section
variable {nl : Option Bool} {tg : Bool} {bs : List Nat}

theorem byteLoop (h13 : 13 ≤ bs.length) (hb : ∀ x ∈ bs, x < 256) (out : AV) (lo : List Nat) (H : Heap) : ∀ (c i : Nat), 9 - i = c → 1 ≤ i → i ≤ 9 →
    L27_16 [V nl tg bs, out, U64 (num ((bs.drop 1).take (i - 1))), I i] lo H = L27_16 [V nl tg bs, out, U64 (num ((bs.drop 1).take 8)), I 9] lo H := by
  intro c
  induction c with
  | zero =>
    intro i hc h1 h9
    have : i = 9 := by omega
    subst this
    rfl
  | succ c ih =>
    intro i hc h1 h9
    have hi' : i < bs.length := by omega
    have hx := hb _ (List.getElem_mem hi')
    have h1' : num ((bs.drop 1).take (i - 1)) < 256 ^ (i - 1) := by
      have := num_lt ((bs.drop 1).take (i - 1)) fun b h => hb b (List.mem_of_mem_drop (List.mem_of_mem_take h))
      rwa [List.length_take, List.length_drop, Nat.min_eq_left (by omega)] at this
    have h2 : 256 ^ (i - 1 + 1) ≤ 256 ^ 8 := Nat.pow_le_pow_right (by omega) (by omega)
    rw [Nat.pow_succ] at h2
    have hsn : num ((bs.drop 1).take i) = num ((bs.drop 1).take (i - 1)) * 256 + bs[i] := by
      rw [← num_snoc]
      have := take_snoc (bs := bs.drop 1) (i := i - 1) (by simp; omega)
      rw [show i - 1 + 1 = i by omega] at this
      rw [this]
      congr 3
      rw [List.getElem_drop]
      congr 1
      omega
    conv => lhs; rw [L27_16_eq]
    have hm : bin .mul .int (U64 (num ((bs.drop 1).take (i - 1)))) (.p (.v (.int .u64 256))) = some (U64 (num ((bs.drop 1).take (i - 1)) * 256)) := by
      show some (AV.p (.v (.int .u64 (IntKind.u64.wrap _)))) = _
      rw [wrap_u64 (by omega)]
      simp
    have ha : bin .add .int (U64 (num ((bs.drop 1).take (i - 1)) * 256)) (U64 bs[i]) = some (U64 (num ((bs.drop 1).take (i - 1)) * 256 + bs[i])) := by
      show some (AV.p (.v (.int .u64 (IntKind.u64.wrap _)))) = _
      rw [wrap_u64 (by omega)]
      simp
    simp only [bin_lss, obs, cond_B]
    rw [if_pos (by simp; omega), hm, obs, idx hi']
    simp only [obs, ldb hi', conv8_64 hx, ha, bin_add]
    rw [wrap_id (by omega), show (i : Int) + 1 = ((i + 1 : Nat) : Int) by omega, ← hsn]
    exact ih (i + 1) (by omega) (by omega) (by omega)
end

theorem refLoop (lo : List Nat) : ∀ (c : Nat) (nl : Option Bool) (tg : Bool) (bs : List Nat) (out : AV) (H : Heap) (acc : List (Int × Int)), (∀ x ∈ bs, x < 256) → bs.length ≤ 13 * c → bs.length + 13 * acc.length ≤ 4000 → Lst 2 out H acc.length (acc.flatMap val) →
    ∃ nl' tg' H', L27_10 [V nl tg bs, out] lo H = some (if (rd c bs).1 = 0 then [.p (.sl nl' tg' (acc ++ (rd c bs).2).length ((acc ++ (rd c bs).2).flatMap val)), I 0] else [.p nilS, I (rd c bs).1], H') := by
  intro c
  have stop : ∀ (nl : Option Bool) (tg : Bool) (bs : List Nat) (out : AV) (H : Heap) (acc : List (Int × Int)), bs.length < 13 → Lst 2 out H acc.length (acc.flatMap val) →
      ∃ nl' tg' H', L27_10 [V nl tg bs, out] lo H = some ([.p (.sl nl' tg' acc.length (acc.flatMap val)), I 0], H') := by
    intro nl tg bs out H acc h1 hL
    obtain ⟨nl', tg', H', e⟩ := hL.leave2 lo (Ia 0)
    refine ⟨nl', tg', H', ?_⟩
    rw [L27_10_eq]
    simp only [obs, lenA_sl, bin_geq, cond_B]
    rw [if_neg (by simp; omega)]
    exact e
  induction c with
  | zero =>
    intro nl tg bs out H acc hb hc hm hL
    have : rd 0 bs = (0, []) := rfl
    simp only [this, if_true, List.append_nil]
    exact stop nl tg bs out H acc (by omega) hL
  | succ c ih =>
    intro nl tg bs out H acc hb hc hm hL
    by_cases hlt : bs.length < 13
    · have : rd (c + 1) bs = (0, []) := by
        simp only [rd]
        rw [if_pos hlt]
      simp only [this, if_true, List.append_nil]
      exact stop nl tg bs out H acc hlt hL
    · have hl13 : (bs.take 13).length = 13 := by simp; omega
      have hb13 : ∀ x ∈ bs.take 13, x < 256 := fun x h => hb x (List.mem_of_mem_take h)
      have d8 : ((bs.take 13).drop 1).take 8 = (bs.drop 1).take 8 := by
        rw [List.drop_take, List.take_take]; rfl
      have g0 : (bs.take 13).getD 0 0 = bs.getD 0 0 := by
        simp [List.getD, List.getElem?_take]
      have b0 : bs[0]? = some (bs.getD 0 0) := by rw [List.getElem?_eq_getElem (by omega)]; simp [List.getD, show 0 < bs.length by omega]
      have hb0 : bs.getD 0 0 < 256 := hb _ (List.mem_of_getElem? b0)
      have hN : num ((bs.drop 1).take 8) < 18446744073709551616 := by
        have := num_lt ((bs.drop 1).take 8) fun b h => hb b (List.mem_of_mem_drop (List.mem_of_mem_take h))
        rw [List.length_take, List.length_drop, Nat.min_eq_left (by omega)] at this
        simpa using this
      have hone : oneF (bs.take 13) = if recd (bs.getD 0 0) (num ((bs.drop 1).take 8)) = bs.take 13 then
          (if right (bs.getD 0 0 : Nat) (IntKind.i64.wrap (num ((bs.drop 1).take 8))) = 0 then (((bs.getD 0 0 : Nat) : Int), IntKind.i64.wrap (num ((bs.drop 1).take 8)), 0) else (0, 0, 3)) else (0, 0, 11) := by
        unfold oneF
        rw [← g0, ← d8]
        simp only [← rec_eq hl13 hb13]
      have hrd : rd (c + 1) bs = if (oneF (bs.take 13)).2.2 = 0 then
          (if (rd c (bs.drop 13)).1 = 0 then (0, ((oneF (bs.take 13)).1, (oneF (bs.take 13)).2.1) :: (rd c (bs.drop 13)).2) else ((rd c (bs.drop 13)).1, []))
          else ((oneF (bs.take 13)).2.2, []) := by
        simp only [rd]
        rw [if_neg hlt]
      rw [L27_10_eq]
      simp only [obs, lenA_sl, bin_geq, cond_B]
      rw [if_pos (by simp; omega)]
      have hbl := byteLoop (nl := nl) (tg := tg) (bs := bs) (by omega) hb out lo H 8 1 rfl (by omega) (by omega)
      have e0 : num ((bs.drop 1).take (1 - 1)) = 0 := by simp [num]
      rw [e0] at hbl
      have hbl' : L27_16 [V nl tg bs, out, .p (.v (.int .u64 0)), I 1] lo H = L27_16 [V nl tg bs, out, U64 (num ((bs.drop 1).take 8)), I 9] lo H := hbl
      rw [hbl', L27_16_eq]
      simp only [bin_lss, obs, cond_B]
      rw [if_neg (by simp), idxA_sl (by omega)]
      simp only [obs, Int.toNat_zero, Nat.zero_mul, ld_fp, List.getElem?_map, b0, oms, conv8_i hb0, conv64_i]
      have hwb := wrap_back hN
      rw [hrd, hone]
      generalize IntKind.i64.wrap (num ((bs.drop 1).take 8)) = N at hwb ⊢
      generalize num ((bs.drop 1).take 8) = NN at hwb ⊢
      generalize bs.getD 0 0 = K at hb0 ⊢
      have bld : buildA [I 0, I 0] [(0, 1, I K), (1, 1, I N)] = some (.agg [I K, I N]) := rfl
      have hst : stA 2 (.ptr H.length 0) (.agg [I K, I N]) lo (H ++ [.box [I 0, I 0]]) = some (H ++ [.box [I K, I N]]) := st_new (ys := [Ia K, Ia N]) rfl rfl
      have hld : ld true 2 (.ptr H.length 0) (H ++ [.box [I K, I N]]) = some (.agg [I K, I N]) := by
        rw [ldAgg_box (xs := [I K, I N]) (by simp) (by simp)]; rfl
      obtain ⟨nr, tr, h82⟩ := call82 K N hb0 lo (H ++ [.box [I K, I N]])
      rw [hwb] at h82
      simp only [bld, boxZ, hst, hld, obs, oms, h82]
      rw [cutA_hi (by omega), obs, call81 (by rw [recd_len]; omega) (recd_len _ _).symm rfl (show (13 : Int).toNat = (bs.take 13).length by simp; omega) (by simp [List.map_take])]
      simp only [obs, un_not, cond_B, hld, call83, bin_neq]
      by_cases h1 : recd K NN = bs.take 13
      · by_cases h2 : right K N = 0
        · have hlit : litA false 2 [.agg [I K, I N]] (H ++ [.box [I K, I N]]) = some (.p (.sl (some false) true 1 (val (K, N))), H ++ [.box [I K, I N]]) := rfl
          obtain ⟨out', H1, ea, hL', _⟩ := (hL.push [.box [I K, I N]]).app (bytes := 16) (y := .p (.sl (some false) true 1 (val (K, N)))) (k := 1) (new := val (K, N)) (by simp [cellsA, val_len]) rfl (by omega) (by simp only [room]; omega)
          simp only [h1, h2, decide_true, Bool.not_true, Bool.false_eq_true, if_false, if_true, hld, hlit, obs, ea]
          rw [cutA_lo (by omega)]
          simp only [obs]
          have := ih nl tg (bs.drop 13) out' H1 (acc ++ [((K : Int), N)]) (fun x h => hb x (List.mem_of_mem_drop h)) (by simp; omega) (by simp; omega) (by simpa using hL')
          obtain ⟨nl', tg', H', e'⟩ := this
          refine ⟨nl', tg', H', ?_⟩
          have hV : (AV.p (.sl nl tg (bs.length - (13 : Int).toNat) (((bs.map U8).drop ((13 : Int).toNat * 1)).take ((bs.length - (13 : Int).toNat) * 1)))) = V nl tg (bs.drop 13) := by
            have q : ((bs.map U8).drop ((13 : Int).toNat * 1)).take ((bs.length - (13 : Int).toNat) * 1) = (bs.drop 13).map U8 := by
              rw [List.take_of_length_le (by simp)]
              simp [List.map_drop]
            rw [q]
            simp [V]
          rw [hV, e']
          by_cases hz : (rd c (bs.drop 13)).1 = 0
          · simp [hz]
          · simp [hz]
        · simp only [h1, h2, decide_true, decide_false, Bool.not_true, Bool.not_false, Bool.false_eq_true, if_false, if_true]
          exact ⟨none, false, _, rfl⟩
      · simp only [h1, decide_false, Bool.not_false, if_true, if_false]
        exact ⟨none, false, _, rfl⟩

theorem rd_len : ∀ (c : Nat) (bs : List Nat), (rd c bs).2.length * 13 ≤ bs.length := by
  intro c
  induction c with
  | zero => intro bs; simp [rd]
  | succ c ih =>
    intro bs
    have := ih (bs.drop 13)
    simp only [List.length_drop] at this
    simp only [rd]
    split
    · simp
    · split
      · split
        · simp; omega
        · simp
      · simp

theorem law {nl : Option Bool} {tg : Bool} {bs : List Nat} (hb : ∀ x ∈ bs, x < 256) : ∃ H', O.ent 6 [V nl tg bs] [] [] = some ([B true], H') := by
  have key : ∃ (ps : List (Int × Int)) (e : Int) (n1 n2 : Option Bool) (t1 t2 : Bool) (H1 H2 : Heap), ps.length ≤ 4000 ∧
      O.ent 26 [V nl tg bs] [] [] = some ([.p (.sl n1 t1 ps.length (ps.flatMap val)), I (13 * (ps.length : Nat)), I e], H1) ∧
      O.ent 27 [V nl tg bs] [] [] = some ([.p (.sl n2 t2 ps.length (ps.flatMap val)), I e], H2) := by
    rw [f26_eq, f27_eq]
    simp only [lenA_sl, obs, bin_gtr, cond_B]
    by_cases h : (4000 : Int) < bs.length
    · rw [if_pos (by simpa using h), if_pos (by simpa using h)]
      exact ⟨[], 2, _, _, _, _, _, _, by simp, rfl, rfl⟩
    · rw [if_neg (by simpa using h), if_neg (by simpa using h)]
      obtain ⟨n1, t1, H1, e1⟩ := readLoop (nl := nl) (tg := tg) hb (by omega) [] 400 0 (.p nilS) [] [] (by omega) (by omega) (by simp) (Lst.nil 2 [])
      obtain ⟨n2, t2, H2, e2⟩ := refLoop [] 400 nl tg bs (.p nilS) [] [] hb (by omega) (by simp; omega) (Lst.nil 2 [])
      simp only [List.drop_zero, List.nil_append] at e1 e2
      have hl := rd_len 400 bs
      by_cases hz : (rd 400 bs).1 = 0
      · rw [if_pos hz] at e1 e2
        exact ⟨(rd 400 bs).2, 0, n1, n2, t1, t2, H1, H2, by omega, e1, e2⟩
      · rw [if_neg hz] at e1 e2
        exact ⟨[], (rd 400 bs).1, _, _, _, _, H1, H2, by simp, e1, e2⟩
  obtain ⟨ps, e, n1, n2, t1, t2, H1, H2, hps, e1, e2⟩ := key
  refine ⟨[], ?_⟩
  rw [f6_eq]
  have c1 : callA cfg O 26 [V nl tg bs] [] [] = some (.tup [.p (.sl n1 t1 ps.length (ps.flatMap val)), I (13 * (ps.length : Nat)), I e], []) := callA_args rfl rfl e1 rfl
  have c2 : callA cfg O 27 [V nl tg bs] [] [] = some (.tup [.p (.sl n2 t2 ps.length (ps.flatMap val)), I e], []) := callA_args rfl rfl e2 rfl
  have c3 := call28 (nx := n1) (ny := n2) (tx := t1) (ty := t2) (ps := ps) (by omega) [] []
  simp only [c1, c2, c3, obs, extractA_tup, List.getElem?_cons_zero, List.getElem?_cons_succ, gd_B, if_true, lenA_sl, bin_mul]
  rw [wrap_id (by omega)]
  simp only [bin_eql, obs, decide_true, pickA_B, if_true, gd_B]
  rfl

end Spool
end Go.Proofs.Ytangmjeafnkfaaa
