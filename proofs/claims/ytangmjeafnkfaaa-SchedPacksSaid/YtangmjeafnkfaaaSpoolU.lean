import Derived.Test.YtangmjeafnkfaaaSpoolT
set_option linter.unusedVariables false
set_option linter.unusedSimpArgs false
namespace Go.Proofs.Ytangmjeafnkfaaa
open Go Go.AM
namespace Spool

/-- One record: its value, or what is wrong. -/
def oneF (b : List Nat) : Int × Int × Int :=
  if num ((b.drop 9).take 4) = sm (b.take 9) then
    (if right (b.getD 0 0 : Nat) (IntKind.i64.wrap (num ((b.drop 1).take 8))) = 0 then ((b.getD 0 0 : Nat), IntKind.i64.wrap (num ((b.drop 1).take 8)), 0) else (0, 0, 3))
  else (0, 0, 11)

theorem call80 {nl : Option Bool} {tg : Bool} {b : List Nat} (hl : b.length = 13) (hb : ∀ x ∈ b, x < 256) {n : Nat} {xs : List PV} (hn : n = 13) (hx : xs = b.map U8) (lo : List Nat) (H : Heap) :
    callA cfg O 80 [.p (.sl nl tg n xs)] lo H = some (.tup [.agg [I (oneF b).1, I (oneF b).2.1], I (oneF b).2.2], H) := by
  subst hn hx
  have key : ∃ H', O.ent 80 [.p (.sl nl tg 13 (b.map U8))] [] [] = some ([.agg [I (oneF b).1, I (oneF b).2.1], I (oneF b).2.2], H') := by
    rw [f80_eq]
    have e1 : boxO [] [I 0, I 0] [] = some (.ptr 0 0, [.box [I 0, I 0]]) := rfl
    have c1 : ∀ H, cutA 1 (.p (.sl nl tg 13 (b.map U8))) (some (I 9)) none none H = some (.p (.sl nl tg 4 (((b.drop 9).take 4).map U8))) := fun H => by
      rw [cutA_lo (by omega)]; simp [List.map_drop, List.map_take]
    have c2 : ∀ H, cutA 1 (.p (.sl nl tg 13 (b.map U8))) none (some (I 9)) none H = some (.p (.sl nl (tg && decide ((9 : Int) = (13 : Nat))) 9 ((b.take 9).map U8))) := fun H => by
      rw [cutA_hi (by omega)]; simp [List.map_drop, List.map_take]
    have c3 : ∀ H, cutA 1 (.p (.sl nl tg 13 (b.map U8))) (some (I 1)) (some (I 9)) none H = some (.p (.sl nl (tg && decide ((9 : Int) = (13 : Nat))) 8 (((b.drop 1).take 8).map U8))) := fun H => by
      rw [cutA_sl (by omega)]; simp [List.map_drop, List.map_take]
    have s4 : ((b.drop 9).take 4).length = 4 := by simp [hl]
    have s9 : (b.take 9).length = 9 := by simp [hl]
    have s8 : ((b.drop 1).take 8).length = 8 := by simp [hl]
    have m4 : ∀ x ∈ (b.drop 9).take 4, x < 256 := fun x h => hb x (List.mem_of_mem_drop (List.mem_of_mem_take h))
    have m9 : ∀ x ∈ b.take 9, x < 256 := fun x h => hb x (List.mem_of_mem_take h)
    have m8 : ∀ x ∈ (b.drop 1).take 8, x < 256 := fun x h => hb x (List.mem_of_mem_drop (List.mem_of_mem_take h))
    rw [e1]
    simp only [obs, c1, c2, c3]
    rw [call130 m4 (by omega) s4.symm rfl]
    simp only [obs, c1, c2, c3]
    rw [call131 m9 (by omega) s9.symm rfl]
    simp only [obs, conv32_64 (sm_lt _)]
    have hneq : bin .neq .int (U64 (num ((b.drop 9).take 4))) (U64 (sm (b.take 9))) = some (B (!decide (num ((b.drop 9).take 4) = sm (b.take 9)))) := by
      show some (B (((num ((b.drop 9).take 4) : Nat) : Int) != ((sm (b.take 9) : Nat) : Int))) = _
      by_cases h : num ((b.drop 9).take 4) = sm (b.take 9)
      · simp [h]
      · have : ((num ((b.drop 9).take 4) : Nat) : Int) ≠ (sm (b.take 9) : Nat) := by omega
        simp [h, this]
    simp only [obs, hneq, cond_B]
    have bld0 : buildA [I 0, I 0] [] = some (.agg [I 0, I 0]) := rfl
    unfold oneF
    by_cases h : num ((b.drop 9).take 4) = sm (b.take 9)
    · have b0 : b[0]? = some (b.getD 0 0) := by rw [List.getElem?_eq_getElem (by omega)]; simp [List.getD, show 0 < b.length by omega]
      have hb0 : b.getD 0 0 < 256 := hb _ (List.mem_of_getElem? b0)
      rw [if_neg (by simp [h]), idxA_sl (by omega)]
      simp only [obs, Int.toNat_zero, Nat.zero_mul, ld_fp, List.getElem?_map, b0, oms, conv8_i hb0, c3]
      rw [call130 m8 (by omega) s8.symm rfl]
      simp only [obs, conv64_i, h, if_true]
      generalize IntKind.i64.wrap (num ((b.drop 1).take 8)) = N
      generalize ((b.getD 0 0 : Nat) : Int) = K
      have bld : buildA [I 0, I 0] [(0, 1, I K), (1, 1, I N)] = some (.agg [I K, I N]) := rfl
      have bx : boxO [] [I 0, I 0] [.box [I 0, I 0]] = some (.ptr 1 0, [.box [I 0, I 0], .box [I 0, I 0]]) := rfl
      have st : stA 2 (.ptr 1 0) (.agg [I K, I N]) [] [.box [I 0, I 0], .box [I 0, I 0]] = some [.box [I 0, I 0], .box [I K, I N]] := rfl
      have ll : ld true 2 (.ptr 1 0) [.box [I 0, I 0], .box [I K, I N]] = some (.agg [I K, I N]) := rfl
      simp only [bld, bx, st, ll, obs, oms, call132, bin_neq, cond_B]
      by_cases hr : right K N = 0
      · have st2 : stA 2 (.ptr 0 0) (.agg [I K, I N]) [] [.box [I 0, I 0], .box [I K, I N]] = some [.box [I K, I N], .box [I K, I N]] := rfl
        have l2 : ld true 2 (.ptr 0 0) [.box [I K, I N], .box [I K, I N]] = some (.agg [I K, I N]) := rfl
        simp only [hr, decide_true, Bool.not_true, Bool.false_eq_true, if_false, ll, st2, l2, obs, oms, if_true]
        exact ⟨_, leave0_agg [] _ [Ia K, Ia N] (Ia 0)⟩
      · have st2 : stA 2 (.ptr 0 0) (.agg [I 0, I 0]) [] [.box [I 0, I 0], .box [I K, I N]] = some [.box [I 0, I 0], .box [I K, I N]] := rfl
        have l2 : ld true 2 (.ptr 0 0) [.box [I 0, I 0], .box [I K, I N]] = some (.agg [I 0, I 0]) := rfl
        simp only [hr, decide_false, Bool.not_false, if_true, bld0, st2, l2, obs, oms, if_false]
        exact ⟨_, leave0_agg [] _ [Ia 0, Ia 0] (Ia 3)⟩
    · have st2 : stA 2 (.ptr 0 0) (.agg [I 0, I 0]) [] [.box [I 0, I 0]] = some [.box [I 0, I 0]] := rfl
      have l2 : ld true 2 (.ptr 0 0) [.box [I 0, I 0]] = some (.agg [I 0, I 0]) := rfl
      rw [if_pos (by simp [h]), if_neg h]
      simp only [bld0, st2, l2, obs, oms]
      exact ⟨_, leave0_agg [] _ [Ia 0, Ia 0] (Ia 11)⟩
  obtain ⟨H', e⟩ := key
  exact callA_args rfl rfl e rfl

def rd : Nat → List Nat → Int × List (Int × Int)
  | 0, _ => (0, [])
  | c + 1, bs =>
    if bs.length < 13 then (0, []) else
    if (oneF (bs.take 13)).2.2 = 0 then
      (if (rd c (bs.drop 13)).1 = 0 then (0, ((oneF (bs.take 13)).1, (oneF (bs.take 13)).2.1) :: (rd c (bs.drop 13)).2) else ((rd c (bs.drop 13)).1, []))
    else ((oneF (bs.take 13)).2.2, [])

theorem st_new {n : Nat} {xs : List AV} {ys : List PV} {lo : List Nat} {H : Heap} (h1 : ys.length = n) (h2 : xs.length = n) : stA n (.ptr H.length 0) (.agg (ys.map .p)) lo (H ++ [.box xs]) = some (H ++ [.box (ys.map .p)]) := by
  rw [stA_box (xs := xs) (by simp) (by simp [AV.cells, h1]) (by omega) (by simp [AV.cells, List.all_eq_true]; intro x _; rfl) (okLevels_p _ _ _)]
  have hs : splice xs 0 (ys.map .p) = ys.map .p := by
    have gen : ∀ (ys xs : List AV) (pre : List AV), xs.length = ys.length → splice (pre ++ xs) pre.length ys = pre ++ ys := by
      intro ys
      induction ys with
      | nil => intro xs pre h; simp at h; subst h; rfl
      | cons y ys ih =>
        intro xs pre h
        match xs, h with
        | x :: xs, h =>
          have := ih xs (pre ++ [y]) (by simpa using h)
          simp only [List.append_assoc, List.singleton_append, List.length_append, List.length_singleton] at this
          rw [splice, ← this]
          simp
    simpa using gen (ys.map .p) xs [] (by simp [h1, h2])
  simp only [AV.cells, hs]
  rw [List.set_append_right _ _ (by omega)]
  simp

theorem boxZ (H : Heap) : boxO [] [I 0, I 0] H = some (.ptr H.length 0, H ++ [.box [I 0, I 0]]) := boxO_p [Ia 0, Ia 0] H

section
variable {nl : Option Bool} {tg : Bool} {bs : List Nat}

theorem readLoop (hb : ∀ x ∈ bs, x < 256) (h4 : bs.length ≤ 4000) (lo : List Nat) : ∀ (c at' : Nat) (out : AV) (H : Heap) (acc : List (Int × Int)), bs.length - at' ≤ 13 * c → at' ≤ bs.length → acc.length * 13 ≤ at' → Lst 2 out H acc.length (acc.flatMap val) →
    ∃ nl' tg' H', L26_12 [V nl tg bs, out, I at'] lo H = some (if (rd c (bs.drop at')).1 = 0 then [.p (.sl nl' tg' (acc ++ (rd c (bs.drop at')).2).length ((acc ++ (rd c (bs.drop at')).2).flatMap val)), I (13 * ((acc ++ (rd c (bs.drop at')).2).length : Nat)), I 0] else [.p nilS, I 0, I (rd c (bs.drop at')).1], H') := by
  intro c
  have stop : ∀ (c at' : Nat) (out : AV) (H : Heap) (acc : List (Int × Int)), at' ≤ bs.length → bs.length < at' + 13 → acc.length * 13 ≤ at' → Lst 2 out H acc.length (acc.flatMap val) →
      ∃ nl' tg' H', L26_12 [V nl tg bs, out, I at'] lo H = some ([.p (.sl nl' tg' acc.length (acc.flatMap val)), I (13 * (acc.length : Nat)), I 0], H') := by
    intro c at' out H acc h1 h2 h3 hL
    obtain ⟨nl', tg', H', e⟩ := hL.leave3 lo (Ia (13 * (acc.length : Nat))) (Ia 0)
    refine ⟨nl', tg', H', ?_⟩
    rw [L26_12_eq]
    simp only [bin_add, obs, lenA_sl, bin_leq, cond_B, hL.len, bin_mul]
    rw [wrap_id (by omega), if_neg (by simp; omega), wrap_id (by omega)]
    exact e
  induction c with
  | zero =>
    intro at' out H acc hc ha hm hL
    have : (rd 0 (bs.drop at')) = (0, []) := rfl
    simp only [this, if_true, List.append_nil]
    exact stop 0 at' out H acc ha (by omega) hm hL
  | succ c ih =>
    intro at' out H acc hc ha hm hL
    by_cases hlt : bs.length < at' + 13
    · have : (rd (c + 1) (bs.drop at')) = (0, []) := by
        simp only [rd, List.length_drop]
        rw [if_pos (by omega)]
      simp only [this, if_true, List.append_nil]
      exact stop 0 at' out H acc ha hlt hm hL
    · have hrd : rd (c + 1) (bs.drop at') = if (oneF ((bs.drop at').take 13)).2.2 = 0 then
          (if (rd c (bs.drop (at' + 13))).1 = 0 then (0, ((oneF ((bs.drop at').take 13)).1, (oneF ((bs.drop at').take 13)).2.1) :: (rd c (bs.drop (at' + 13))).2) else ((rd c (bs.drop (at' + 13))).1, []))
          else ((oneF ((bs.drop at').take 13)).2.2, []) := by
        simp only [rd, List.length_drop, List.drop_drop]
        rw [if_neg (by omega)]
      have hl13 : ((bs.drop at').take 13).length = 13 := by simp; omega
      have hb13 : ∀ x ∈ (bs.drop at').take 13, x < 256 := fun x h => hb x (List.mem_of_mem_drop (List.mem_of_mem_take h))
      rw [L26_12_eq]
      simp only [bin_add, obs, lenA_sl, bin_leq, cond_B]
      rw [wrap_id (by omega), if_pos (by simp; omega), cutA_sl (by omega), obs, call80 hl13 hb13 (by omega) (by
        simp only [Int.toNat_natCast, Nat.mul_one, List.map_take, List.map_drop]
        congr 1
        omega)]
      rw [hrd]
      generalize oneF ((bs.drop at').take 13) = v
      obtain ⟨k, n, e⟩ := v
      simp only [obs, extractA_tup, List.getElem?_cons_zero, List.getElem?_cons_succ, boxZ]
      have hst : stA 2 (.ptr H.length 0) (.agg [I k, I n]) lo (H ++ [.box [I 0, I 0]]) = some (H ++ [.box [I k, I n]]) := st_new (ys := [Ia k, Ia n]) rfl rfl
      simp only [hst, oms, obs, bin_neq, cond_B]
      by_cases he : e = 0
      · have hld : ld true 2 (.ptr H.length 0) (H ++ [.box [I k, I n]]) = some (.agg [I k, I n]) := by
          rw [ldAgg_box (xs := [I k, I n]) (by simp) (by simp)]; rfl
        have hlit : litA false 2 [.agg [I k, I n]] (H ++ [.box [I k, I n]]) = some (.p (.sl (some false) true 1 (val (k, n))), H ++ [.box [I k, I n]]) := rfl
        obtain ⟨out', H1, ea, hL', _⟩ := (hL.push [.box [I k, I n]]).app (bytes := 16) (y := .p (.sl (some false) true 1 (val (k, n)))) (k := 1) (new := val (k, n)) (by simp [cellsA, val_len]) rfl (by omega) (by simp only [room]; omega)
        simp only [he, decide_true, Bool.not_true, Bool.false_eq_true, if_false, if_true, hld, hlit, obs, ea, bin_add]
        rw [show (at' : Int) + 13 = ((at' + 13 : Nat) : Int) by omega]
        have := ih (at' + 13) out' H1 (acc ++ [(k, n)]) (by omega) (by omega) (by simp; omega) (by simpa using hL')
        obtain ⟨nl', tg', H', e'⟩ := this
        refine ⟨nl', tg', H', ?_⟩
        rw [e']
        by_cases hz : (rd c (bs.drop (at' + 13))).1 = 0
        · simp [hz]
        · simp [hz]
      · simp only [he, decide_false, Bool.not_false, if_true, if_false]
        exact ⟨none, false, _, rfl⟩

end
end Spool
end Go.Proofs.Ytangmjeafnkfaaa
