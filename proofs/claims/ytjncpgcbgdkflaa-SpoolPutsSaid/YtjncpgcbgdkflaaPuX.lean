import Derived.Test.YtjncpgcbgdkflaaPuW
import Derived.Test.YtjncpgcbgdkflaaTy
set_option linter.unusedVariables false
set_option linter.unusedSimpArgs false
namespace Go.Proofs.Ytjncpgcbgdkflaa
open Go Go.AM
namespace Spool

/-- All: a record for each value, or what is wrong with the first wrong one. -/
def allF : List (Int × Int) → List Nat → List Nat × Int
  | [], acc => (acc, 0)
  | p :: ps, acc => if (putF acc p.1 p.2).2 = 0 then allF ps (putF acc p.1 p.2).1 else ([], (putF acc p.1 p.2).2)

theorem putF_err {bs : List Nat} {k n : Int} (h : (putF bs k n).2 ≠ 0) : (putF bs k n).1 = [] := by
  unfold putF at h ⊢
  split
  · rfl
  · rename_i h1
    rw [if_neg h1] at h
    split
    · rename_i h2
      rw [if_pos h2] at h
      exact absurd rfl h
    · rfl

section
variable {nl : Option Bool} {tg : Bool} {ps : List (Int × Int)}
abbrev R (nl : Option Bool) (tg : Bool) (ps : List (Int × Int)) : AV := .p (.sl nl tg ps.length (ps.flatMap val))
theorem idxV {i : Nat} (h : i < ps.length) : idxA 2 (R nl tg ps) (I i) = some (.fp (ps.flatMap val) (i * 2)) := by
  have := idxA_sl (sz := 2) (n := ps.length) (nl := nl) (t := tg) (xs := ps.flatMap val) (j := (i : Int)) (by omega)
  simpa using this
theorem ldV {i : Nat} (h : i < ps.length) (H : Heap) : ld true 2 (.fp (ps.flatMap val) (i * 2)) H = some (.agg [I ps[i].1, I ps[i].2]) := by
  rw [ldAgg_fp (by rw [rows_length val_len]; omega), rows_part val_len (List.getElem?_eq_getElem h)]
  rfl

theorem boxZ (H : Heap) : boxO [] [I 0, I 0] H = some (.ptr H.length 0, H ++ [.box [I 0, I 0]]) := boxO_p [Ia 0, Ia 0] H
theorem stZ (k n : Int) (lo : List Nat) (H : Heap) : stA 2 (.ptr H.length 0) (.agg [I k, I n]) lo (H ++ [.box [I 0, I 0]]) = some (H ++ [.box [I k, I n]]) := by
  have := stA_box (H := H ++ [.box [I 0, I 0]]) (id := H.length) (n := 2) (off := 0) (xs := [I 0, I 0]) (y := .agg [I k, I n]) (lo := lo) (by simp) rfl (by simp) rfl (okLevels_p lo _ [Ia k, Ia n])
  rw [this]
  simp [splice, AV.cells]
theorem ldZ (k n : Int) (H : Heap) : ld true 2 (.ptr H.length 0) (H ++ [.box [I k, I n]]) = some (.agg [I k, I n]) := by
  rw [ldAgg_box (xs := [I k, I n]) (by simp) (by simp)]
  rfl

theorem allLoop (hn : ps.length < 2 ^ 60) : ∀ (c i : Nat) (n1 : Option Bool) (t1 : Bool) (acc : List Nat) (H : Heap), ps.length - i = c → i ≤ ps.length → acc.length ≤ 4000 →
    ∃ n2 t2 H', L19_8 [V n1 t1 acc, R nl tg ps, I ps.length, I i] [] H = some ([V n2 t2 (allF (ps.drop i) acc).1, I (allF (ps.drop i) acc).2], H') := by
  intro c
  induction c with
  | zero =>
    intro i n1 t1 acc H hc hi ha
    have : i = ps.length := by omega
    subst this
    refine ⟨n1, t1, [], ?_⟩
    rw [L19_8_eq, List.drop_eq_nil_of_le (Nat.le_refl _)]
    simp only [bin_lss, obs, cond_B, allF]
    rw [if_neg (by simp)]
    exact leave0_all (ps := [_, _]) (H' := _) rfl
  | succ c ih =>
    intro i n1 t1 acc H hc hi ha
    have hi' : i < ps.length := by omega
    rw [L19_8_eq]
    simp only [bin_lss, obs, cond_B]
    rw [if_pos (by simp; omega), idxV hi', obs, ldV hi', obs, boxZ, obs, stZ]
    simp only [oms, obs, ldZ]
    obtain ⟨n2, t2, e⟩ := call17 (nl := n1) (tg := t1) (bs := acc) (by omega) ps[i].1 ps[i].2 [] (H ++ [.box [I ps[i].1, I ps[i].2]])
    rw [e, List.drop_eq_getElem_cons hi']
    simp only [obs, extractA_tup, List.getElem?_cons_zero, List.getElem?_cons_succ, bin_neq, cond_B, allF, bin_add]
    by_cases hz : (putF acc ps[i].1 ps[i].2).2 = 0
    · rw [if_neg (by simp [hz]), if_pos hz, wrap_id (by omega)]
      exact ih (i + 1) n2 t2 _ _ (by omega) (by omega) (putF_len _ _ _)
    · rw [if_pos (by simp [hz]), if_neg hz]
      exact ⟨_, _, _, leave0_all (ps := [_, _]) (H' := _) rfl⟩

theorem call19 (hn : ps.length < 2 ^ 60) (lo : List Nat) (H : Heap) : ∃ n2 t2, callA cfg O 19 [R nl tg ps] lo H = some (.tup [V n2 t2 (allF ps []).1, I (allF ps []).2], H) := by
  obtain ⟨n2, t2, H', e⟩ := allLoop (nl := nl) (tg := tg) hn ps.length 0 (some true) true [] [] (by omega) (by omega) (by simp)
  refine ⟨n2, t2, callA_args rfl rfl (H' := H') (rs := [_, _]) ?_ rfl⟩
  rw [f19_eq]
  exact e

theorem allF_len : ∀ (ps : List (Int × Int)) (acc : List Nat), acc.length ≤ 4000 → (allF ps acc).1.length ≤ 4000 := by
  intro ps
  induction ps with
  | nil => intro acc h; exact h
  | cons p ps ih =>
    intro acc h
    unfold allF
    split
    · exact ih _ (putF_len _ _ _)
    · simp

theorem lawLoop (hn : ps.length < 2 ^ 60) {x y : List Nat} (hx : x.length ≤ 4000) {nx ny na : Option Bool} {tx ty ta : Bool} {E : Int} (h : Heap) : ∀ (c i : Nat) (n1 : Option Bool) (t1 : Bool) (acc : List Nat), ps.length - i = c → i ≤ ps.length → acc.length ≤ 4000 →
    L4_18 [R nl tg ps, V nx tx x, I E, V ny ty x, I E, V na ta (allF (ps.drop i) acc).1, I (allF (ps.drop i) acc).2, V n1 t1 acc, I 0, I i] [] h = some ([B true], []) := by
  have fin : ∀ (n1 : Option Bool) (t1 : Bool) (acc : List Nat) (w : Int) (i : Nat), acc.length ≤ 4000 → (ps.length ≤ i ∨ w ≠ 0) → i ≤ ps.length → L4_18 [R nl tg ps, V nx tx x, I E, V ny ty x, I E, V na ta acc, I w, V n1 t1 acc, I w, I i] [] h = some ([B true], []) := by
    intro n1 t1 acc w i ha hw hi
    rw [L4_18_eq]
    have e1 := call20 (nx := nx) (tx := tx) (ny := ny) (ty := ty) (x := x) (y := x) (by omega) rfl rfl rfl rfl [] h
    have e2 := call20 (nx := na) (tx := ta) (ny := n1) (ty := t1) (x := acc) (y := acc) (by omega) rfl rfl rfl rfl [] h
    by_cases hl : i < ps.length
    · have g : (i : Int) < ps.length := by omega
      have g2 : w ≠ 0 := by omega
      simp [-Option.bind_some, obs, g, g2, e1, e2, gdH_B]
    · have g : ¬ (i : Int) < ps.length := by omega
      simp [-Option.bind_some, obs, g, e1, e2, gdH_B]
  intro c
  induction c with
  | zero =>
    intro i n1 t1 acc hc hi ha
    have : i = ps.length := by omega
    subst this
    rw [List.drop_eq_nil_of_le (Nat.le_refl _)]
    exact fin n1 t1 acc 0 _ ha (.inl (Nat.le_refl _)) (Nat.le_refl _)
  | succ c ih =>
    intro i n1 t1 acc hc hi ha
    have hi' : i < ps.length := by omega
    have g : (i : Int) < ps.length := by omega
    obtain ⟨n2, t2, e⟩ := call18 (nl := n1) (tg := t1) (bs := acc) (by omega) ps[i].1 ps[i].2 [] h
    have e0 : (R nl tg ps) = .p (.sl nl tg ps.length (ps.flatMap val)) := rfl
    rw [L4_18_eq]
    simp only [lenA_sl, bin_lss, obs, g, decide_true, gd_B, if_true, bin_eql, pickA_B, cond_B, idxV hi', ldV hi', e, extractA_tup, List.getElem?_cons_zero, List.getElem?_cons_succ, bin_add]
    rw [wrap_id (by omega), List.drop_eq_getElem_cons hi']
    simp only [allF]
    by_cases hz : (putF acc ps[i].1 ps[i].2).2 = 0
    · simp only [hz, if_true]
      exact ih (i + 1) n2 t2 _ (by omega) (by omega) (putF_len _ _ _)
    · simp only [hz, if_false]
      have := putF_err hz
      rw [this]
      exact fin n2 t2 [] _ (i + 1) (by simp) (.inr hz) (by omega)
end

theorem best320 (z : Int) : bests false (I z) [I 320] = some (I (min z 320)) := by
  have : bests false (I z) [I 320] = (best false (I z) (I 320)).bind fun y => some y := rfl
  rw [this]
  have : best false (I z) (I 320) = some (I (if (320 : Int) < z then 320 else z)) := rfl
  rw [this]
  have e : (if (320 : Int) < z then 320 else z) = min z 320 := by split <;> omega
  rw [e]
  rfl

theorem ent4 {nl nb : Option Bool} {tg tb : Bool} {ps : List (Int × Int)} {bs : List Nat} (hb : bs.length < 2 ^ 60) (k n : Int) :
    O.ent 4 [V nb tb bs, .agg [I k, I n], R nl tg ps] [] [] = some ([B true], []) := by
  rw [f4_eq, bx]
  have hc : ∀ H, cutA 2 (R nl tg ps) none (some (I (min (ps.length : Int) 320))) none H = some (R nl (tg && decide (min (ps.length : Int) 320 = ps.length)) (ps.take 320)) := fun H => by
    rw [cutA_hi (by omega)]
    have e1 : (min (ps.length : Int) 320).toNat = (ps.take 320).length := by rw [List.length_take]; omega
    rw [e1]
    show _ = some (AV.p (.sl nl _ (ps.take 320).length ((ps.take 320).flatMap val)))
    congr 3
    have e2 : ps.flatMap val = (ps.take 320).flatMap val ++ (ps.drop 320).flatMap val := by rw [← List.flatMap_append, List.take_append_drop]
    rw [e2, List.take_left' (rows_length val_len _)]
  obtain ⟨n1, t1, e17⟩ := call17 (nl := nb) (tg := tb) (bs := bs) (by omega) k n [] [.box [I k, I n]]
  obtain ⟨n2, t2, e18⟩ := call18 (nl := nb) (tg := tb) (bs := bs) (by omega) k n [] [.box [I k, I n]]
  have hl : (ps.take 320).length < 2 ^ 60 := by rw [List.length_take]; omega
  obtain ⟨n3, t3, e19⟩ := call19 (nl := nl) (tg := tg && decide (min (ps.length : Int) 320 = ps.length)) (ps := ps.take 320) hl [] [.box [I k, I n]]
  simp only [lenA_sl, obs, best320, hc, bv, e17, e18, e19, extractA_tup, List.getElem?_cons_zero, List.getElem?_cons_succ]
  exact lawLoop hl (putF_len _ _ _) (y := []) _ _ 0 _ _ _ rfl (by omega) (by simp)
end Spool
end Go.Proofs.Ytjncpgcbgdkflaa
