import Derived.Test.YtangmjeafnkfaaaSnpS
namespace Go.Proofs.Ytangmjeafnkfaaa.Snp
open Go Go.AM

theorem between_eq (a b c : Int) (lo : List Nat) (H : Heap) : callA cfg O 61 [I a, I b, I c] lo H = some (B (decide (b ≤ a) && decide (a ≤ c)), H) := by
  have h : O.ent 61 [I a, I b, I c] [] [] = some ([B (decide (b ≤ a) && decide (a ≤ c))], []) := by
    rw [f61_eq]
    by_cases h : b ≤ a <;> simp [h]
  exact callA_pure (xs := [Ia a, Ia b, Ia c]) rfl h rfl

def two (p : Int × Int) : List PV := [Ia p.1, Ia p.2]
theorem two_len (p : Int × Int) : (two p).length = 2 := rfl

/-- The program's run. -/
def run (n : Int) : Int → List Int → List (Int × Int) → Option (List Int)
  | _, cs, [] => some cs
  | last, cs, (a, v) :: r => if a ≤ last ∨ n ≤ a then none else run n a (cs.set a.toNat v) r

def resOf15 : Option (List Int) → List AV
  | none => [.p nilS, I 3]
  | some cs => [.p (.sl none false cs.length (cs.map Ia)), I 0]

theorem splice1 (cs : List Int) (i : Nat) (v : Int) : splice (cs.map Ia) i [Ia v] = (cs.set i v).map Ia := by
  simp [splice, List.map_set]

theorem loop15 {nl : Option Bool} {tg : Bool} {n : Nat} {ps : List (Int × Int)} (hb : ps.length < 2 ^ 63) : ∀ (k i : Nat) (last : Int) (cs : List Int), ps.length - i = k → i ≤ ps.length → cs.length = n → -1 ≤ last →
    ∃ H', L15_16 1 [I n, .row 0 0 0 n, I last, .p (.sl nl tg ps.length (ps.flatMap two)), I ps.length, I i] [] [.row 0 1 (cs.map Ia)] = some (resOf15 (run n last cs (ps.drop i)), H') := by
  intro k
  induction k with
  | zero =>
    intro i last cs hk hi hc hlast
    have : i = ps.length := by omega
    subst this
    rw [L15_16_eq]
    simp [run, resOf15, leave, frzAll, frzA, frzLeaf, toPV, hc]
    exact List.take_of_length_le (by simp [hc])
  | succ k ih =>
    intro i last cs hk hi hc hlast
    have hi' : i < ps.length := by omega
    obtain ⟨p, hp⟩ : ∃ p, ps[i]? = some p := ⟨_, List.getElem?_eq_getElem hi'⟩
    obtain ⟨a, v⟩ := p
    have hd : ps.drop i = (a, v) :: ps.drop (i + 1) := by
      rw [List.getElem?_eq_getElem hi'] at hp
      rw [List.drop_eq_getElem_cons hi', Option.some.inj hp]
    rw [L15_16_eq, hd]
    simp only [bin_lss, Option.bind_some, cond_B]
    rw [if_pos (by simp; omega), idxA_sl (by omega)]
    simp only [Option.bind_some, Int.toNat_natCast]
    rw [ldAgg_fp (by rw [rows_length two_len]; have : (i + 1) * 2 ≤ ps.length * 2 := Nat.mul_le_mul_right _ (by omega); omega), rows_part two_len hp]
    simp only [Option.bind_some, two]
    have e1 : (boxO [] [I 0, I 0] [.row 0 1 (cs.map Ia)]) = some (.ptr 1 0, [.row 0 1 (cs.map Ia), .box [I 0, I 0]]) := rfl
    have e2 : stA 2 (.ptr 1 0) (.agg [I a, I v]) [1] [.row 0 1 (cs.map Ia), .box [I 0, I 0]] = some [.row 0 1 (cs.map Ia), .box [I a, I v]] := rfl
    rw [e1]
    simp only [Option.bind_some, List.map_cons, List.map_nil]
    rw [e2]
    simp only [Option.bind_some, Option.map_some, fldA_ptr]
    have e3 : ld false 1 (.ptr 1 (0 + 0)) [.row 0 1 (cs.map Ia), .box [I a, I v]] = some (I a) := rfl
    have e4 : ld false 1 (.ptr 1 (0 + 1)) [.row 0 1 (cs.map Ia), .box [I a, I v]] = some (I v) := rfl
    simp only [e3, e4, Option.bind_some, bin_leq, gd_B]
    unfold run
    by_cases h1 : a ≤ last
    · simp [h1, resOf15, leave, frzAll, frzA, frzLeaf]
    · by_cases h2 : (n : Int) ≤ a
      · simp only [h1, h2, decide_false, decide_true, if_true, e3, bin_geq, Option.bind_some, pickA_B, cond_B, Bool.false_eq_true, if_false, or_true]
        exact ⟨_, rfl⟩
      · have ha : 0 ≤ a ∧ a < (n : Nat) := by omega
        simp only [h1, h2, decide_false, if_true, e3, bin_geq, Option.bind_some, pickA_B, cond_B, Bool.false_eq_true, if_false, or_self]
        rw [idxA_row ha]
        simp only [Option.bind_some]
        have hlt : a.toNat < cs.length := by omega
        have e5 : stA 1 (.rptr 0 0 (0 + a.toNat * 1)) (I v) [1] [.row 0 1 (cs.map Ia), .box [I a, I v]] = some [.row 0 1 ((cs.set a.toNat v).map Ia), .box [I a, I v]] := by
          have h0 : a.toNat + 1 ≤ cs.length := hlt
          simp [stA, AV.cells, toPVs, toPV, splice, List.map_set, h0]
        rw [e5]
        simp only [Option.map_some, Option.bind_some, bin_add]
        rw [wrap_id (by omega)]
        have e6 : (AV.ltd 1 (I n) && (AV.ltd 1 (.row 0 0 0 n) && (AV.ltd 1 (I a) && (AV.ltd 1 (.p (.sl nl tg ps.length (ps.flatMap two))) && (AV.ltd 1 (I ps.length) && (AV.ltd 1 (I ((i : Int) + 1)) && true)))))) = true := rfl
        have := ih (i + 1) a (cs.set a.toNat v) (by omega) (by omega) (by simp [hc]) (by omega)
        rw [show (((i + 1 : Nat)) : Int) = (i : Int) + 1 by omega] at this
        rw [if_pos e6]
        exact this

def start (n : Nat) (zs : List Int) : List Int := zs.take n ++ List.replicate (n - zs.length) 0

theorem splice_front {α : Type} : ∀ (ys xs : List α) (off : Nat), off + ys.length ≤ xs.length → splice xs off ys = xs.take off ++ ys ++ xs.drop (off + ys.length) := by
  intro ys
  induction ys with
  | nil => intro xs off h; simp [splice]
  | cons y ys ih =>
    intro xs off h
    simp only [List.length_cons] at h
    have h0 : off < xs.length := by omega
    simp only [splice]
    rw [ih (xs.set off y) (off + 1) (by simp; omega)]
    have e1 : (xs.set off y).take (off + 1) = xs.take off ++ [y] := by
      rw [List.take_succ_eq_append_getElem (by simpa using h0), List.take_set_of_le (Nat.le_refl _)]
      simp
    have e2 : (xs.set off y).drop (off + 1 + ys.length) = xs.drop (off + 1 + ys.length) := by
      rw [List.drop_set_of_lt (by omega)]
    rw [e1, e2, List.length_cons, show off + (ys.length + 1) = off + 1 + ys.length by omega]
    simp

theorem f15_spec {na nl : Option Bool} {ta tg : Bool} {n : Int} {zs : List Int} {ps : List (Int × Int)} (hz : zs.length < 2 ^ 63) (hb : ps.length < 2 ^ 63) :
    ∃ H', O.ent 15 [.p (.sl na ta zs.length (zs.map Ia)), I n, .p (.sl nl tg ps.length (ps.flatMap two))] [] [] = some (if n < 0 ∨ 20000 < n then [.p nilS, I 1] else resOf15 (run n (-1) (start n.toNat zs) ps), H') := by
  rw [f15_eq]
  simp only [bin_lss, Option.bind_some, gd_B]
  by_cases h1 : n < 0
  · refine ⟨[], ?_⟩
    simp [h1, leave, frzAll, frzA, frzLeaf]
  · by_cases h2 : 20000 < n
    · refine ⟨[], ?_⟩
      simp [h1, h2, leave, frzAll, frzA, frzLeaf]
    · simp only [h1, h2, decide_false, decide_true, if_true, Option.bind_some, bin_gtr, pickA_B, cond_B, Bool.false_eq_true, if_false, or_self]
      obtain ⟨m, rfl⟩ : ∃ m : Nat, n = m := ⟨n.toNat, by omega⟩
      have e1 : mkRow 1 8 [Ia 0] (I m) (I m) [] = some (.row 0 0 0 m, [.row 0 1 ((List.replicate m 0).map Ia)]) := by
        have : (zerosA m [Ia 0]) = (List.replicate m 0).map Ia := by
          unfold zerosA
          rw [List.map_replicate]
          induction m with
          | zero => rfl
          | succ m ih => rw [List.replicate_succ, List.flatten_cons, List.replicate_succ, ih (by omega) (by omega)]; rfl
        unfold mkRow
        simp [asI, this, room]
        omega
      have e2 : copyA 1 (.row 0 0 0 m) (.p (.sl na ta zs.length (zs.map Ia))) [.row 0 1 ((List.replicate m 0).map Ia)] = some (I (min zs.length m : Nat), [.row 0 1 ((start m zs).map Ia)]) := by
        have e : splice ((List.replicate m 0).map Ia) 0 ((zs.map Ia).take (min zs.length m)) = (start m zs).map Ia := by
          rw [splice_front _ _ _ (by simp; omega)]
          simp only [List.take_zero, List.nil_append, Nat.zero_add, start, List.map_append]
          congr 1
          · rw [← List.map_take]
            congr 1
            rcases Nat.le_total zs.length m with h | h
            · rw [Nat.min_eq_left h, List.take_of_length_le (Nat.le_refl _), List.take_of_length_le h]
            · rw [Nat.min_eq_right h]
          · rw [← List.map_drop]
            congr 1
            simp
            omega
        unfold copyA
        simp only [List.getElem?_cons_zero]
        rw [if_pos (by simp)]
        simpa [cellsA] using e
      rw [e1]
      simp only [Option.bind_some]
      rw [e2]
      simp only [Option.bind_some, lenA_sl]
      have hs : (start m zs).length = m := by simp [start]; omega
      have := loop15 (nl := nl) (tg := tg) (n := m) (ps := ps) hb ps.length 0 (-1) (start m zs) (by omega) (by omega) hs (by omega)
      simpa using this

end Go.Proofs.Ytangmjeafnkfaaa.Snp
