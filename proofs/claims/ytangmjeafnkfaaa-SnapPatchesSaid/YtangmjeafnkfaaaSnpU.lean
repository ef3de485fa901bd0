import Derived.Test.YtangmjeafnkfaaaSnpT
set_option linter.unusedSimpArgs false
namespace Go.Proofs.Ytangmjeafnkfaaa.Snp
open Go Go.AM

def good (n : Int) : Int → List (Int × Int) → Bool
  | _, [] => true
  | last, (a, _) :: r => decide (last < a ∧ a < n) && good n a r

/-- What the document's list is, from i on. -/
def bld (zs : List Int) : Nat → Nat → List (Int × Int) → List Int
  | 0, _, _ => []
  | c + 1, i, ps =>
    match ps with
    | (a, v) :: r => if a = i then v :: bld zs c (i + 1) r else zs.getD i 0 :: bld zs c (i + 1) ((a, v) :: r)
    | [] => zs.getD i 0 :: bld zs c (i + 1) []

/-- The list that is built, after i rounds. -/
def Built (out : AV) (H : Heap) (i : Nat) (cs : List Int) : Prop :=
  cs.length = i ∧ ((i = 0 ∧ out = .p nilS ∧ H = []) ∨ ∃ g, 0 < i ∧ out = .row 0 g 0 i ∧ H = [.row g 1 (cs.map Ia)])

theorem built_step {out : AV} {H : Heap} {i : Nat} {cs : List Int} {x : Int} (h : Built out H i cs) (hi : i < 20000) :
    ∃ out' H', appA 1 8 out (.p (.sl (some false) true 1 [Ia x])) H = some (out', H') ∧ Built out' H' (i + 1) (cs ++ [x]) := by
  obtain ⟨hl, ⟨rfl, rfl, rfl⟩ | ⟨g, h0, rfl, rfl⟩⟩ := h
  · have := List.length_eq_zero_iff.mp hl
    subst this
    exact ⟨.row 0 0 0 1, [.row 0 1 [Ia x]], by simp [appA, cellsA, appTo, room], rfl, .inr ⟨0, by omega, rfl, rfl⟩⟩
  · refine ⟨.row 0 (g + 1) 0 (i + 1), [.row (g + 1) 1 ((cs ++ [x]).map Ia)], ?_, by simp [hl], .inr ⟨g + 1, by omega, rfl, rfl⟩⟩
    have e : ((cs.map Ia).take i) = cs.map Ia := List.take_of_length_le (by simp [hl])
    have hr : (i + 1) * 8 ≤ room := by simp only [room]; omega
    simp [appA, cellsA, appTo, hl, hr, e]

theorem built_leave {out : AV} {H : Heap} {i : Nat} {cs : List Int} (h : Built out H i cs) : ∃ H' nl tg, leave 0 [] [out, I 0] H = some ([.p (.sl nl tg cs.length (cs.map Ia)), I 0], H') := by
  obtain ⟨hl, ⟨rfl, rfl, rfl⟩ | ⟨g, h0, rfl, rfl⟩⟩ := h
  · have := List.length_eq_zero_iff.mp hl
    subst this
    exact ⟨[], some true, true, rfl⟩
  · have e : ((cs.map Ia).take i) = cs.map Ia := List.take_of_length_le (by simp [hl])
    refine ⟨[.row (g + 1) 1 []], none, false, ?_⟩
    simp [leave, frzAll, frzA, frzLeaf, toPV, hl, e]

section
variable {na nl : Option Bool} {ta tg : Bool} {zs : List Int} {ps : List (Int × Int)} {n : Nat}

theorem loopB (hz : zs.length < 2 ^ 63) (hb : ps.length < 2 ^ 63) (hn : n ≤ 20000) : ∀ (c i k : Nat) (out : AV) (H : Heap) (cs : List Int), n - i = c → i ≤ n → k ≤ ps.length → Built out H i cs →
    ∃ H' nl' tg', L16_24 [.p (.sl na ta zs.length (zs.map Ia)), I n, .p (.sl nl tg ps.length (ps.flatMap two)), out, I k, I i] [] H =
      some ([.p (.sl nl' tg' (cs ++ bld zs c i (ps.drop k)).length ((cs ++ bld zs c i (ps.drop k)).map Ia)), I 0], H') := by
  intro c
  induction c with
  | zero =>
    intro i k out H cs hc hi hk hB
    have : i = n := by omega
    subst this
    rw [L16_24_eq]
    simp only [bin_lss, Option.bind_some, cond_B]
    rw [if_neg (by simp)]
    simp only [bld, List.append_nil]
    exact built_leave hB
  | succ c ih =>
    intro i k out H cs hc hi hk hB
    have hin : i < n := by omega
    rw [L16_24_eq]
    simp only [bin_lss, Option.bind_some, cond_B, lenA_sl]
    rw [if_pos (by simp; omega)]
    have step35 : ∀ x : Int, x = zs.getD i 0 → ∃ H' nl' tg', L16_35 [.p (.sl na ta zs.length (zs.map Ia)), I n, .p (.sl nl tg ps.length (ps.flatMap two)), out, I k, I i, I x] [] H =
        some ([.p (.sl nl' tg' (cs ++ bld zs (c + 1) i (ps.drop k)).length ((cs ++ bld zs (c + 1) i (ps.drop k)).map Ia)), I 0], H') := by
      intro x hx
      have fin : ∀ (k' : Nat) (y : Int), k' ≤ ps.length → bld zs (c + 1) i (ps.drop k) = y :: bld zs c (i + 1) (ps.drop k') → ∃ H' nl' tg', L16_41 [.p (.sl na ta zs.length (zs.map Ia)), I n, .p (.sl nl tg ps.length (ps.flatMap two)), out, I k', I i, I y] [] H =
          some ([.p (.sl nl' tg' (cs ++ bld zs (c + 1) i (ps.drop k)).length ((cs ++ bld zs (c + 1) i (ps.drop k)).map Ia)), I 0], H') := by
        intro k' y hk' he
        rw [L16_41_eq]
        obtain ⟨out', H1, e1, hB'⟩ := built_step (x := y) hB (by omega)
        have e0 : litA false 1 [I y] H = some (.p (.sl (some false) true 1 [Ia y]), H) := rfl
        rw [e0]
        simp only [Option.bind_some]
        rw [e1]
        simp only [Option.bind_some, bin_add]
        rw [wrap_id (by omega), show (i : Int) + 1 = ((i + 1 : Nat) : Int) by omega, he, show cs ++ y :: bld zs c (i + 1) (ps.drop k') = (cs ++ [y]) ++ bld zs c (i + 1) (ps.drop k') by simp]
        exact ih (i + 1) k' out' H1 (cs ++ [y]) (by omega) (by omega) hk' hB'
      rw [L16_35_eq]
      simp only [lenA_sl, Option.bind_some, bin_lss, gd_B]
      by_cases hkl : k < ps.length
      · obtain ⟨p, hp⟩ : ∃ p, ps[k]? = some p := ⟨_, List.getElem?_eq_getElem hkl⟩
        obtain ⟨a, v⟩ := p
        have hd : ps.drop k = (a, v) :: ps.drop (k + 1) := by
          rw [List.getElem?_eq_getElem hkl] at hp
          rw [List.drop_eq_getElem_cons hkl, Option.some.inj hp]
        have hk0 : (k : Int) < (ps.length : Nat) := by omega
        have g0 := rows_get (f := two) two_len hp (j := 0) (by omega)
        have g1 := rows_get (f := two) two_len hp (j := 1) (by omega)
        simp only [two, List.getElem?_cons_zero, List.getElem?_cons_succ] at g0 g1
        have q0 : (0 : Int) ≤ k := by omega
        simp only [hk0, decide_true, if_true, Option.bind_some, idxA_sl (show (0 : Int) ≤ k ∧ (k : Int) < (ps.length : Nat) from ⟨q0, hk0⟩), fldA_fp, ld_fp, Int.toNat_natCast, g0, Option.map_some, bin_eql, pickA_B, cond_B]
        by_cases ha : a = i
        · simp only [ha, decide_true, if_true, Option.bind_some, idxA_sl (show (0 : Int) ≤ k ∧ (k : Int) < (ps.length : Nat) from ⟨q0, hk0⟩), fldA_fp, ld_fp, Int.toNat_natCast, g1, Option.map_some, bin_add]
          rw [wrap_id (by omega), show (k : Int) + 1 = ((k + 1 : Nat) : Int) by omega]
          refine fin (k + 1) v (by omega) ?_
          rw [hd]
          simp only [bld, ha, if_true]
        · simp only [ha, decide_false, Bool.false_eq_true, if_false]
          refine fin k x hk ?_
          rw [hd]
          simp only [bld, ha, if_false, hx]
      · have hk0 : ¬ ((k : Int) < (ps.length : Nat)) := by omega
        simp only [hk0, decide_false, Bool.false_eq_true, if_false, Option.bind_some, pickA_B, cond_B]
        refine fin k x hk ?_
        rw [List.drop_eq_nil_of_le (by omega)]
        simp only [bld, hx]
    by_cases hiz : i < zs.length
    · have h0 : (i : Int) < (zs.length : Nat) := by omega
      simp only [h0, decide_true, if_true, Option.bind_some, idxA_sl (show (0 : Int) ≤ i ∧ (i : Int) < (zs.length : Nat) from ⟨by omega, h0⟩), ld_fp, Int.toNat_natCast, Nat.mul_one, List.getElem?_map, List.getElem?_eq_getElem hiz, Option.map_some]
      exact step35 _ (by simp [List.getD, hiz])
    · have h0 : ¬ ((i : Int) < (zs.length : Nat)) := by omega
      simp only [h0, decide_false, Bool.false_eq_true, if_false]
      exact step35 _ (by simp [List.getD, hiz])

theorem loopA (hz : zs.length < 2 ^ 63) (hb : ps.length < 2 ^ 63) (hn : n ≤ 20000) : ∀ (c i : Nat) (last : Int), ps.length - i = c → i ≤ ps.length → (i = 0 → last = -1) → (0 < i → 0 ≤ last ∧ ∃ v, ps[i - 1]? = some (last, v)) →
    ∃ H' nl' tg', L16_10 [.p (.sl na ta zs.length (zs.map Ia)), I n, .p (.sl nl tg ps.length (ps.flatMap two)), I i] [] [] =
      some (if good n last (ps.drop i) = true then [.p (.sl nl' tg' (bld zs n 0 ps).length ((bld zs n 0 ps).map Ia)), I 0] else [.p nilS, I 3], H') := by
  intro c
  induction c with
  | zero =>
    intro i last hc hi h0 h1
    have : i = ps.length := by omega
    subst this
    rw [L16_10_eq]
    simp only [lenA_sl, bin_lss, Option.bind_some, cond_B]
    rw [if_neg (by simp), List.drop_eq_nil_of_le (by omega)]
    simp only [good, if_true]
    have := loopB (na := na) (nl := nl) (ta := ta) (tg := tg) hz hb hn n 0 0 (.p nilS) [] [] (by omega) (by omega) (by omega) ⟨rfl, .inl ⟨rfl, rfl, rfl⟩⟩
    simpa using this
  | succ c ih =>
    intro i last hc hi h0 h1
    have hi' : i < ps.length := by omega
    obtain ⟨p, hp⟩ : ∃ p, ps[i]? = some p := ⟨_, List.getElem?_eq_getElem hi'⟩
    obtain ⟨a, v⟩ := p
    have hd : ps.drop i = (a, v) :: ps.drop (i + 1) := by
      rw [List.getElem?_eq_getElem hi'] at hp
      rw [List.drop_eq_getElem_cons hi', Option.some.inj hp]
    have g0 := rows_get (f := two) two_len hp (j := 0) (by omega)
    simp only [two, List.getElem?_cons_zero] at g0
    rw [L16_10_eq]
    simp only [lenA_sl, bin_lss, Option.bind_some, cond_B]
    rw [if_pos (by simp; omega), idxA_sl (by omega)]
    simp only [Option.bind_some, fldA_fp, ld_fp, Int.toNat_natCast, g0, Option.map_some, bin_sub]
    rw [wrap_id (by omega)]
    simp only [between_eq, Option.bind_some, un_not, gd_B]
    have next : ∀ (b : Bool), b = decide (last < a ∧ a < n) → ∃ H' nl' tg', (AM.cond (B !b) (leave 0 [] [.p nilS, I 3] []) ((bin .add .int (I i) (I 1)).bind fun x26 => L16_10 [.p (.sl na ta zs.length (zs.map Ia)), I n, .p (.sl nl tg ps.length (ps.flatMap two)), x26] [] [])) =
        some (if good n last (ps.drop i) = true then [.p (.sl nl' tg' (bld zs n 0 ps).length ((bld zs n 0 ps).map Ia)), I 0] else [.p nilS, I 3], H') := by
      intro b hb'
      rw [hd]
      simp only [good, ← hb']
      cases b with
      | false => exact ⟨[], none, false, rfl⟩
      | true =>
        have hc' := of_decide_eq_true hb'.symm
        simp only [Bool.not_true, cond_B, Bool.false_eq_true, if_false, bin_add, Option.bind_some, Bool.true_and]
        rw [wrap_id (by omega), show (i : Int) + 1 = ((i + 1 : Nat) : Int) by omega]
        refine ih (i + 1) a (by omega) (by omega) (fun e => by omega) fun _ => ⟨?_, v, by simpa using hp⟩
        rcases Nat.eq_zero_or_pos i with e | e
        · have := h0 e; omega
        · have := (h1 e).1; omega
    by_cases hbt : 0 ≤ a ∧ a ≤ (n : Int) - 1
    · have e1 : (decide (0 ≤ a) && decide (a ≤ (n : Int) - 1)) = true := by simp; omega
      simp only [e1, Bool.not_true, if_true, Option.bind_some, bin_gtr]
      rcases Nat.eq_zero_or_pos i with e | e
      · have hl := h0 e
        have e2 : ¬ ((0 : Int) < i) := by omega
        simp only [e2, decide_false, Bool.false_eq_true, if_false, Option.bind_some, gd_B, pickA_B]
        have := next true (by simp; omega)
        simpa using this
      · obtain ⟨hl, v', hp'⟩ := h1 e
        have e2 : (0 : Int) < i := by omega
        have g1 := rows_get (f := two) two_len hp' (j := 0) (by omega)
        simp only [two, List.getElem?_cons_zero] at g1
        simp only [e2, decide_true, if_true, Option.bind_some, gd_B, pickA_B, idxA_sl (show (0 : Int) ≤ i ∧ (i : Int) < (ps.length : Nat) by omega), fldA_fp, ld_fp, Int.toNat_natCast, g0, Option.map_some, bin_sub]
        rw [wrap_id (by omega), show (i : Int) - 1 = ((i - 1 : Nat) : Int) by omega]
        simp only [idxA_sl (show (0 : Int) ≤ ((i - 1 : Nat) : Int) ∧ ((i - 1 : Nat) : Int) < (ps.length : Nat) by omega), Option.bind_some, fldA_fp, ld_fp, Int.toNat_natCast, g1, Option.map_some, bin_leq, pickA_B, Bool.false_eq_true, if_false, if_true, gd_B]
        by_cases hla : a ≤ last
        · have := next false (by simp; omega)
          simpa [hla] using this
        · have := next true (by simp; omega)
          simpa [hla] using this
    · have e1 : (decide (0 ≤ a) && decide (a ≤ (n : Int) - 1)) = false := by
        cases h : (decide (0 ≤ a) && decide (a ≤ (n : Int) - 1)) with
        | false => rfl
        | true => simp at h; exact (hbt h).elim
      simp only [e1, Bool.not_false, if_true, Option.bind_some, gd_B, pickA_B, gd_undef]
      have hlast : ¬ (last < a ∧ a < n) := by
        rcases Nat.eq_zero_or_pos i with e | e
        · have := h0 e; omega
        · have := (h1 e).1; omega
      have := next false (by simp; omega)
      simpa using this

theorem f16_spec {n : Int} (hz : zs.length < 2 ^ 63) (hb : ps.length < 2 ^ 63) :
    ∃ H' nl' tg', O.ent 16 [.p (.sl na ta zs.length (zs.map Ia)), I n, .p (.sl nl tg ps.length (ps.flatMap two))] [] [] =
      some (if n < 0 ∨ 20000 < n then [.p nilS, I 1] else if good n (-1) ps = true then [.p (.sl nl' tg' (bld zs n.toNat 0 ps).length ((bld zs n.toNat 0 ps).map Ia)), I 0] else [.p nilS, I 3], H') := by
  rw [f16_eq]
  simp only [between_eq, Option.bind_some, un_not, cond_B]
  by_cases h : n < 0 ∨ 20000 < n
  · refine ⟨[], none, false, ?_⟩
    rw [if_pos (by simp; omega), if_pos h]
    rfl
  · rw [if_neg (by simp; omega)]
    simp only [if_neg h]
    obtain ⟨m, rfl⟩ : ∃ m : Nat, n = m := ⟨n.toNat, by omega⟩
    have := loopA (na := na) (nl := nl) (ta := ta) (tg := tg) hz hb (n := m) (by omega) ps.length 0 (-1) (by omega) (by omega) (fun _ => rfl) (fun e => by omega)
    simpa using this

end

theorem run_bld {n : Nat} : ∀ (ps : List (Int × Int)) (k : Nat) (cs : List Int), cs.length = n → k ≤ n → run n ((k : Int) - 1) cs ps = if good n ((k : Int) - 1) ps = true then some (cs.take k ++ bld cs (n - k) k ps) else none := by
  have nilB : ∀ (c i : Nat) (cs : List Int), c + i = cs.length → bld cs c i [] = cs.drop i := by
    intro c
    induction c with
    | zero => intro i cs h; simp only [bld]; rw [List.drop_eq_nil_of_le (by omega)]
    | succ c ih =>
      intro i cs h
      simp only [bld]
      rw [ih (i + 1) cs (by omega), List.drop_eq_getElem_cons (show i < cs.length by omega)]
      simp [List.getD, show i < cs.length by omega]
  have skip : ∀ (d k : Nat) (cs : List Int) (a v : Int) (r : List (Int × Int)) (c : Nat), (k : Int) + d = a → bld cs (d + c) k ((a, v) :: r) = (List.range d).map (fun j => cs.getD (k + j) 0) ++ bld cs c (k + d) ((a, v) :: r) := by
    intro d
    induction d with
    | zero => intro k cs a v r c h; simp
    | succ d ih =>
      intro k cs a v r c h
      rw [show d + 1 + c = (d + c) + 1 by omega]
      simp only [bld]
      rw [if_neg (by omega), ih (k + 1) cs a v r c (by omega), List.range_succ_eq_map]
      simp only [List.map_cons, List.map_map, Nat.add_zero, List.cons_append]
      rw [show k + 1 + d = k + (d + 1) by omega]
      congr 2
      refine List.map_congr_left fun j _ => ?_
      simp only [Function.comp]
      rw [show k + 1 + j = k + (j + 1) by omega]
  have later : ∀ (c i : Nat) (cs : List Int) (m : Nat) (v : Int) (ps : List (Int × Int)), m < i → bld (cs.set m v) c i ps = bld cs c i ps := by
    intro c
    induction c with
    | zero => intros; rfl
    | succ c ih =>
      intro i cs m v ps h
      have e : (cs.set m v).getD i 0 = cs.getD i 0 := by simp [List.getD, List.getElem?_set_ne (show m ≠ i by omega)]
      cases ps with
      | nil => simp only [bld, e, ih (i + 1) cs m v [] (by omega)]
      | cons p r =>
        obtain ⟨a, w⟩ := p
        simp only [bld, e, ih (i + 1) cs m v _ (show m < i + 1 by omega)]
  intro ps
  induction ps with
  | nil =>
    intro k cs hl hk
    simp only [run, good, if_true]
    rw [nilB (n - k) k cs (by omega), List.take_append_drop]
  | cons p r ih =>
    intro k cs hl hk
    obtain ⟨a, v⟩ := p
    simp only [run, good]
    by_cases h : (k : Int) - 1 < a ∧ a < n
    · obtain ⟨m, rfl⟩ : ∃ m : Nat, a = m := ⟨a.toNat, by omega⟩
      have hkm : k ≤ m := by omega
      have hmn : m < n := by omega
      have e := ih (m + 1) (cs.set m v) (by simpa using hl) (by omega)
      rw [show ((m + 1 : Nat) : Int) - 1 = (m : Int) by omega] at e
      rw [if_neg (by omega), Int.toNat_natCast, e]
      simp only [h, and_self, decide_true, Bool.true_and]
      have hm : m < cs.length := by omega
      have key : (cs.set m v).take (m + 1) ++ bld (cs.set m v) (n - (m + 1)) (m + 1) r = cs.take k ++ bld cs (n - k) k (((m : Int), v) :: r) := by
        rw [later _ _ _ _ _ _ (by omega)]
        have e2 := skip (m - k) k cs m v r (n - m) (by omega)
        rw [show m - k + (n - m) = n - k by omega, show k + (m - k) = m by omega] at e2
        rw [e2, show n - m = (n - (m + 1)) + 1 by omega]
        simp only [bld, if_true]
        have e3 : (cs.set m v).take (m + 1) = cs.take m ++ [v] := by
          rw [List.take_succ_eq_append_getElem (by simpa using hm), List.take_set_of_le (Nat.le_refl _)]
          simp
        have e4 : cs.take m = cs.take k ++ (List.range (m - k)).map fun j => cs.getD (k + j) 0 := by
          refine List.ext_getElem (by simp; omega) fun j h1 h2 => ?_
          simp at h1
          rw [List.getElem_append]
          split
          · simp
          · rename_i hj
            simp at hj
            simp only [List.getElem_map, List.getElem_range, List.getElem_take, List.length_take]
            rw [show k + (j - min k cs.length) = j by omega]
            simp [List.getD, show j < cs.length by omega]
        rw [e3, e4]
        simp
      rw [key]
    · rw [if_pos (by omega)]
      simp [h]

theorem bld_start {n : Nat} {zs : List Int} : ∀ (c i : Nat) (ps : List (Int × Int)), c + i = n → bld (start n zs) c i ps = bld zs c i ps := by
  intro c
  induction c with
  | zero => intros; rfl
  | succ c ih =>
    intro i ps h
    have e : (start n zs).getD i 0 = zs.getD i 0 := by
      unfold start
      simp only [List.getD]
      rw [List.getElem?_append]
      split
      · rename_i h1
        simp at h1
        rw [List.getElem?_take, if_pos (by omega)]
      · rename_i h1
        simp at h1
        rw [List.getElem?_replicate]
        split
        · rw [List.getElem?_eq_none (by omega)]; rfl
        · rw [List.getElem?_eq_none (by omega)]
    cases ps with
    | nil => simp only [bld, e, ih (i + 1) [] (by omega)]
    | cons p r =>
      obtain ⟨a, w⟩ := p
      simp only [bld, e, ih (i + 1) _ (show c + (i + 1) = n by omega)]

end Go.Proofs.Ytangmjeafnkfaaa.Snp
