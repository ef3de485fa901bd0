import Derived.Test.YtjncpgcbgdkflaaPuV
set_option linter.unusedVariables false
set_option linter.unusedSimpArgs false
namespace Go.Proofs.Ytjncpgcbgdkflaa
open Go Go.AM
namespace Spool

/-- Put: the list and a record, or what is wrong. -/
def putF (bs : List Nat) (k n : Int) : List Nat × Int :=
  if 3987 < bs.length then ([], 2) else if right k n = 0 then (bs ++ recd k.toNat (n % 18446744073709551616).toNat, 0) else ([], right k n)

theorem putF_len (bs : List Nat) (k n : Int) : (putF bs k n).1.length ≤ 4000 := by
  unfold putF
  split
  · simp
  · split
    · simp only [List.length_append, recd_len]; omega
    · simp

theorem right_lt {k n : Int} (h : right k n = 0) : 0 ≤ k ∧ k < 256 := by
  unfold right at h
  repeat' split at h
  all_goals omega

theorem ent42 {bs : List Nat} {nl : Option Bool} {tg : Bool} (hb : ∀ b ∈ bs, b < 256) (h8 : bs.length < 2 ^ 62) : O.ent 42 [V nl tg bs] [] [] = some ([U32 (sm bs)], []) := by
  rw [f42_eq]
  simp only [lenA_sl, obs]
  exact smLoop hb h8 _ _ _ 0 rfl (by omega)

theorem bx (k n : Int) : boxO [] (AV.cells (.agg [I k, I n])) [] = some (.ptr 0 0, [.box [I k, I n]]) := rfl
theorem bv (k n : Int) : ld true 2 (.ptr 0 0) [.box [I k, I n]] = some (.agg [I k, I n]) := rfl
theorem b0 (k n : Int) : ld false 1 (.ptr 0 (0 + 0)) [.box [I k, I n]] = some (I k) := rfl

section
variable {nl : Option Bool} {tg : Bool} {bs : List Nat}

theorem call17 (hb : bs.length < 2 ^ 62) (k n : Int) (lo : List Nat) (H : Heap) : ∃ nl' tg', callA cfg O 17 [V nl tg bs, .agg [I k, I n]] lo H = some (.tup [V nl' tg' (putF bs k n).1, I (putF bs k n).2], H) := by
  have key : ∃ nl' tg' H', O.ent 17 [V nl tg bs, .agg [I k, I n]] [] [] = some ([V nl' tg' (putF bs k n).1, I (putF bs k n).2], H') := by
    rw [f17_eq, bx]
    simp only [obs, lenA_sl, bin_add, bin_gtr, cond_B]
    rw [wrap_id (by omega)]
    unfold putF
    by_cases h : 3987 < bs.length
    · rw [if_pos (by simp; omega), if_pos h]
      exact ⟨_, _, _, leave0_all (ps := [_, _]) (H' := _) rfl⟩
    rw [if_neg (by simp; omega), if_neg h]
    simp only [bv, obs, call39, bin_neq, cond_B]
    by_cases hr : right k n = 0
    · rw [if_neg (by simp [hr]), if_pos hr]
      have hk := right_lt hr
      obtain ⟨K, rfl⟩ : ∃ K : Nat, k = K := ⟨k.toNat, by omega⟩
      have hK : K < 256 := by omega
      have l1 : ∀ G, ldS false 1 (.ptr 0 (0 + 1)) (.box [I K, I n] :: G) = some (I n) := fun _ => rfl
      have lp : litP 1 [.p (U8 (K % 256))] = some (.p (.sl (some false) true 1 [U8 (K % 256)])) := rfl
      have hN : (n % 18446744073709551616).toNat < 18446744073709551616 := by omega
      simp only [fldA_ptr, obs, b0, convi_8, lp, l1, conv_i64, Int.toNat_natCast]
      generalize (n % 18446744073709551616).toNat = N at hN ⊢
      obtain ⟨nb, tb, e8⟩ := call40 (n := N) (m := 8) (by omega) [] [.box [I K, I n]]
      have e8' : callA cfg O 40 [U64 N, I 8] [] [.box [I K, I n]] = some (.p (.sl nb tb 8 ((be 8 N).map U8)), [.box [I K, I n]]) := e8
      rw [Nat.mod_eq_of_lt hK]
      simp only [e8', obs]
      have hlen : (K :: be 8 N).length = 9 := by simp [be_len]
      have ap : appA 1 1 (.p (.sl (some false) true 1 [U8 K])) (.p (.sl nb tb 8 ((be 8 N).map U8))) [.box [I K, I n]] = some (.row 1 0 0 9, [.box [I K, I n], .row 0 1 ((K :: be 8 N).map U8)]) := by
        have hc : cellsA 1 (.p (.sl nb tb 8 ((be 8 N).map U8))) [.box [I K, I n]] = some (8, (be 8 N).map U8) := by simp [cellsA, be_len]
        simp only [appA, hc, obs, appTo]
        rw [if_neg (by omega), if_pos (by simp [room])]
        rfl
      have hb' : ∀ b ∈ (K :: be 8 N), b < 256 := by
        intro b hb
        rcases List.mem_cons.mp hb with e | e
        · omega
        · exact be_lt _ _ b e
      have e42 : callA cfg O 42 [.row 1 0 0 9] [] [.box [I K, I n], .row 0 1 ((K :: be 8 N).map U8)] = some (U32 (sm (K :: be 8 N)), [.box [I K, I n], .row 0 1 ((K :: be 8 N).map U8)]) := by
        refine callA_rows (H' := []) (rs := [U32 (sm (K :: be 8 N))]) rfl (pureArgs_row (sz := 1) (xs := (K :: be 8 N).map U8) rfl (by simp [be_len])) ?_ rfl rfl
        rw [← ent42 (nl := none) (tg := false) hb' (by omega)]
        rw [List.drop_zero, List.take_of_length_le (by simp [be_len])]
        show O.ent 42 [.p (.sl none false 9 ((K :: be 8 N).map U8))] [] [] = O.ent 42 [.p (.sl none false (K :: be 8 N).length ((K :: be 8 N).map U8))] [] []
        rw [hlen]
      obtain ⟨nc, tc, e4⟩ := call40 (n := sm (K :: be 8 N)) (m := 4) (by omega) [] [.box [I K, I n], .row 0 1 ((K :: be 8 N).map U8)]
      have e4' : callA cfg O 40 [U64 (sm (K :: be 8 N)), I 4] [] [.box [I K, I n], .row 0 1 ((K :: be 8 N).map U8)] = some (.p (.sl nc tc 4 ((be 4 (sm (K :: be 8 N))).map U8)), [.box [I K, I n], .row 0 1 ((K :: be 8 N).map U8)]) := e4
      have lt : ∃ H2, litA false 1 [V nl tg bs, .row 1 0 0 9, .p (.sl nc tc 4 ((be 4 (sm (K :: be 8 N))).map U8))] [.box [I K, I n], .row 0 1 ((K :: be 8 N).map U8)] =
          some (three3 (Vp nl tg bs) (Vp (some false) false (K :: be 8 N)) (Vp nc tc (be 4 (sm (K :: be 8 N)))), H2) := by
        generalize hx : K :: be 8 N = cs at hlen
        refine ⟨[.box [I K, I n], .row 1 1 []], ?_⟩
        simp [litA, litCells, AV.cells, toPVs, toPV, hlen, be_len]
        exact List.take_of_length_le (by simp [hlen])
      obtain ⟨H2, lt⟩ := lt
      obtain ⟨nd, td, e41⟩ := call41 (n1 := nl) (t1 := tg) (n2 := some false) (t2 := false) (n3 := nc) (t3 := tc) (a := bs) (b := K :: be 8 N) (c := be 4 (sm (K :: be 8 N))) (by omega) hlen (be_len _ _) [] H2
      simp only [ap, obs, e42, conv32_64 (sm_lt _), e4', lt, e41]
      refine ⟨nd, td, [], ?_⟩
      have : bs ++ recd K N = bs ++ (K :: be 8 N) ++ be 4 (sm (K :: be 8 N)) := by rw [recd, List.append_assoc]
      rw [this]
      exact leave0_all (ps := [_, _]) (H' := _) rfl
    · rw [if_pos (by simp [hr]), if_neg hr]
      exact ⟨_, _, _, leave0_all (ps := [_, _]) (H' := _) rfl⟩
  obtain ⟨nl', tg', H', e⟩ := key
  exact ⟨nl', tg', callA_args rfl rfl e rfl⟩

theorem call18 (hb : bs.length < 2 ^ 62) (k n : Int) (lo : List Nat) (H : Heap) : ∃ nl' tg', callA cfg O 18 [V nl tg bs, .agg [I k, I n]] lo H = some (.tup [V nl' tg' (putF bs k n).1, I (putF bs k n).2], H) := by
  have key : ∃ nl' tg' H', O.ent 18 [V nl tg bs, .agg [I k, I n]] [] [] = some ([V nl' tg' (putF bs k n).1, I (putF bs k n).2], H') := by
    rw [f18_eq, bx]
    simp only [obs, lenA_sl, bin_gtr, cond_B]
    unfold putF
    by_cases h : 3987 < bs.length
    · rw [if_pos (by simp; omega), if_pos h]
      exact ⟨_, _, _, leave0_all (ps := [_, _]) (H' := _) rfl⟩
    rw [if_neg (by simp; omega), if_neg h]
    simp only [bv, obs, call43, bin_neq, cond_B]
    by_cases hr : right k n = 0
    · rw [if_neg (by simp [hr]), if_pos hr]
      have hk := right_lt hr
      obtain ⟨K, rfl⟩ : ∃ K : Nat, k = K := ⟨k.toNat, by omega⟩
      have hK : K < 256 := by omega
      have li : ∀ H, litA false 1 [] H = some (.p (.sl (some false) true 0 []), H) := fun _ => rfl
      have c1 : ∀ (nl : Option Bool) (tg : Bool) (l : List Nat) H, cellsA 1 (V nl tg l) H = some (l.length, l.map U8) := fun nl tg l H => if_pos (by simp)
      have a1 : appA 1 1 (.p (.sl (some false) true 0 [])) (V nl tg bs) [.box [I K, I n]] = some (.row 1 0 0 bs.length, [.box [I K, I n], .row 0 1 (bs.map U8)]) := by
        simp only [appA, c1, obs, appTo]
        rw [if_neg (by omega), if_pos (by simp [room]; omega)]
        simp
      have l2 : ldS true 2 (.ptr 0 0) [.box [I K, I n], .row 0 1 (bs.map U8)] = some (.agg [I K, I n]) := rfl
      obtain ⟨nd, td, e44⟩ := call44 K n hK [] [.box [I K, I n], .row 0 1 (bs.map U8)]
      have a2 : appA 1 1 (.row 1 0 0 bs.length) (.p (.sl nd td 13 ((recd K (n % 18446744073709551616).toNat).map U8))) [.box [I K, I n], .row 0 1 (bs.map U8)] = some (.row 1 1 0 (bs.length + 13), [.box [I K, I n], .row 1 1 (bs.map U8 ++ (recd K (n % 18446744073709551616).toNat).map U8)]) := by
        have hc : ∀ H, cellsA 1 (.p (.sl nd td 13 ((recd K (n % 18446744073709551616).toNat).map U8))) H = some (13, (recd K (n % 18446744073709551616).toNat).map U8) := fun H => by simp [cellsA, recd_len]
        simp only [appA, hc, obs, appTo, List.getElem?_cons_zero, List.getElem?_cons_succ]
        rw [if_pos (by simp only [room, true_and, List.length_map]; omega)]
        simp [List.take_of_length_le]
      simp only [li, obs, a1, l2, e44, a2, Int.toNat_natCast]
      obtain ⟨nl', tg', H', e⟩ := (Lst.row (sz := 1) (id := 1) (g := 1) (m := bs.length + 13) (cs := bs.map U8 ++ (recd K (n % 18446744073709551616).toNat).map U8) (H := [.box [I K, I n], .row 1 1 (bs.map U8 ++ (recd K (n % 18446744073709551616).toNat).map U8)]) (by simp [recd_len]) rfl).leave2 [] (Ia 0)
      refine ⟨nl', tg', H', ?_⟩
      rw [e]
      show _ = some ([AV.p (.sl nl' tg' (bs ++ recd K (n % 18446744073709551616).toNat).length ((bs ++ recd K (n % 18446744073709551616).toNat).map U8)), _], H')
      rw [List.length_append, List.map_append, recd_len]
    · rw [if_pos (by simp [hr]), if_neg hr]
      exact ⟨_, _, _, leave0_all (ps := [_, _]) (H' := _) rfl⟩
  obtain ⟨nl', tg', H', e⟩ := key
  exact ⟨nl', tg', callA_args rfl rfl e rfl⟩
end
end Spool
end Go.Proofs.Ytjncpgcbgdkflaa
