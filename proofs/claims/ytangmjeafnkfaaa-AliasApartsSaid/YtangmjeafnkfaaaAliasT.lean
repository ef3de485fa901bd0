import Derived.Test.YtangmjeafnkfaaaAliasS
import Derived.Test.YtangmjeafnkfaaaAm20
set_option linter.unusedVariables false
set_option linter.unusedSimpArgs false
namespace Go.Proofs.Ytangmjeafnkfaaa
open Go Go.AM
namespace Alias

theorem bests_max (x y : Int) : bests true (I x) [I y] = some (I (max x y)) := by
  simp only [bests, best, if_true, Option.bind_some]
  congr 4
  split <;> omega

theorem bests_min (x y : Int) : bests false (I x) [I y] = some (I (min x y)) := by
  simp only [bests, best, if_true, Option.bind_some, Bool.false_eq_true, if_false]
  congr 4
  split <;> omega

/-- Apart: of two places in order. -/
def ap (ins : List A_TIns) (loop : Int) (x y : Int) : Bool :=
  if x < 0 ∨ (ins.length : Int) ≤ y ∨ x = y then false else
  let p := (ins.getD x.toNat default).1
  let q := (ins.getD y.toNat default).1
  if tl p = false ∨ tl q = false then false else
  if x < loop ∧ loop ≤ y then fresh p && fresh q else fresh q || (fresh p && bef q)

section
variable {xs : List PV} {loop : Int} {nl : Option Bool} {tg : Bool} {ins : List A_TIns}

theorem idxi {k : Nat} (h : k < ins.length) : idxA 8 (.p (.sl nl tg ins.length (ins.flatMap enc_TIns))) (I k) = some (.fp (ins.flatMap enc_TIns) (k * 8)) := by
  have := idxA_sl (sz := 8) (n := ins.length) (nl := nl) (t := tg) (xs := ins.flatMap enc_TIns) (j := (k : Int)) (by omega)
  simpa using this

theorem opAt {k : Nat} (h : k < ins.length) (H : Heap) : ld false 1 (.fp (ins.flatMap enc_TIns) (k * 8 + 0)) H = some (I (ins.getD k default).1) := by
  have hg : ins[k]? = some (ins.getD k default) := by rw [List.getElem?_eq_getElem h]; simp [List.getD, h]
  rw [ld_fp, rows_get len_TIns hg (by omega)]
  rfl

theorem call36 (hlen : xs.length = 13) (h2 : xs[2]? = some (Ia loop)) (h3 : xs[3]? = some (.sl nl tg ins.length (ins.flatMap enc_TIns))) (a b : Int) (lo : List Nat) (H : Heap) :
    callA cfg O 36 [.agg (xs.map .p), I a, I b] lo H = some (B (ap ins loop (min a b) (max a b)), H) := by
  have key : ∃ H', O.ent 36 [.agg (xs.map .p), I a, I b] [] [] = some ([B (ap ins loop (min a b) (max a b))], H') := by
    refine ⟨[.box (xs.map .p)], ?_⟩
    rw [f36_eq]
    have e1 : boxO [] (AV.cells (.agg (xs.map .p))) [] = some (.ptr 0 0, [.box (xs.map .p)]) := boxO_p xs []
    have l2 : ld false 1 (.ptr 0 2) [.box (xs.map .p)] = some (I loop) := by rw [ld_box (xs := xs.map .p) rfl, List.getElem?_map, h2]; rfl
    have l3 : ld false 1 (.ptr 0 3) [.box (xs.map .p)] = some (.p (.sl nl tg ins.length (ins.flatMap enc_TIns))) := by rw [ld_box (xs := xs.map .p) rfl, List.getElem?_map, h3]; rfl
    rw [e1]
    generalize [AObj.box (xs.map .p)] = G at *
    have hle : min a b ≤ max a b := by omega
    simp only [obs, bests_min, bests_max, fldA_ptr, Nat.zero_add]
    generalize min a b = x at hle ⊢
    generalize max a b = y at hle ⊢
    simp only [bin_lss, obs]
    unfold ap
    by_cases c1 : x < 0
    · simp only [c1, decide_true, gd_B, gd_undef, gdH_B, gdH_undef, Bool.true_eq_false, if_false, obs, pickA_B, if_true, cond_B, leave0_B, true_or]
    simp only [c1, decide_false, gd_B, if_true, obs, l3, lenA_sl, bin_geq, pickA_B, Bool.false_eq_true, if_false]
    by_cases c2 : (ins.length : Int) ≤ y
    · simp only [c2, decide_true, gd_B, gd_undef, gdH_B, gdH_undef, Bool.true_eq_false, if_false, obs, pickA_B, if_true, cond_B, leave0_B, true_or, or_true]
    simp only [c2, decide_false, gd_B, if_true, obs, bin_eql, pickA_B, Bool.false_eq_true, if_false]
    by_cases c3 : x = y
    · simp only [c3, decide_true, gd_B, gd_undef, gdH_B, gdH_undef, Bool.true_eq_false, if_false, obs, pickA_B, if_true, cond_B, leave0_B, true_or, or_true]
    obtain ⟨i, rfl⟩ : ∃ i : Nat, x = i := ⟨x.toNat, by omega⟩
    obtain ⟨j, rfl⟩ : ∃ j : Nat, y = j := ⟨y.toNat, by omega⟩
    have hi : i < ins.length := by omega
    have hj : j < ins.length := by omega
    obtain ⟨p, hp0⟩ : ∃ p, (ins.getD i default).1 = p := ⟨_, rfl⟩
    obtain ⟨q, hq0⟩ : ∃ q, (ins.getD j default).1 = q := ⟨_, rfl⟩
    have opp : ∀ H, ld false 1 (.fp (ins.flatMap enc_TIns) (i * 8 + 0)) H = some (I p) := fun H => by rw [← hp0]; exact opAt hi H
    have opq : ∀ H, ld false 1 (.fp (ins.flatMap enc_TIns) (j * 8 + 0)) H = some (I q) := fun H => by rw [← hq0]; exact opAt hj H
    simp only [c3, decide_false, gd_B, if_true, obs, l3, idxi hi, idxi hj, fldA_fp, opp, opq, hp0, hq0, gdH_B, call88, un_not, pickA_B, Bool.false_eq_true, if_false, or_self, Int.toNat_natCast]
    cases hp : tl p with
    | false => simp only [Bool.not_false, Bool.true_eq_false, if_false, if_true, obs, gd_undef, gdH_undef, gd_B, gdH_B, pickA_B, cond_B, leave0_B, true_or]
    | true =>
      simp only [Bool.not_true, Bool.false_eq_true, if_false, if_true, obs, gd_B, gdH_B, pickA_B, cond_B, l3, idxi hi, idxi hj, fldA_fp, opp, opq, call88, un_not]
      cases hq : tl q with
      | false => simp only [Bool.not_false, Bool.true_eq_false, if_false, if_true, obs, pickA_B, cond_B, leave0_B, or_true]
      | true =>
        simp only [Bool.not_true, Bool.true_eq_false, Bool.false_eq_true, if_false, if_true, obs, or_self, l2, l3, idxi hi, idxi hj, fldA_fp, opp, opq, bin_lss, gd_B, bin_geq]
        have tail : ((callA cfg O 89 [I q] [] G).bind fun r55 =>
            (gd r55.1 false (some (I p))).bind fun x56 =>
            (gdH r55.1 false (callA cfg O 89 [x56] [] r55.2) r55.2).bind fun r57 =>
            (gd r55.1 false (some r57.1)).bind fun x58 =>
            (gd x58 true (some (I q))).bind fun x59 =>
            (gdH x58 true (callA cfg O 90 [x59] [] r57.2) r57.2).bind fun r60 =>
            (gd r55.1 false (pickA x58 r60.1 (B false))).bind fun x61 =>
            (pickA r55.1 (B true) x61).bind fun x62 =>
            leave 0 [] [x62] r60.2) = some ([B (fresh q || (fresh p && bef q))], G) := by
          simp only [call89, obs]
          cases fresh q with
          | true => simp only [gd_B, gdH_B, Bool.true_eq_false, if_false, obs, gd_undef, gdH_undef, pickA_B, if_true, leave0_B, Bool.true_or]
          | false =>
            simp only [gd_B, gdH_B, Bool.false_eq_true, if_true, if_false, obs, call89, pickA_B]
            cases fresh p with
            | true => simp only [gd_B, gdH_B, if_true, obs, call90, pickA_B, leave0_B, Bool.false_or, Bool.true_and]
            | false => simp only [gd_B, gdH_B, Bool.false_eq_true, if_false, obs, pickA_B, leave0_B, Bool.false_or, Bool.false_and]
        by_cases d1 : (i : Int) < loop
        · simp only [d1, decide_true, if_true, obs, pickA_B, l2, bin_geq]
          by_cases d2 : loop ≤ (j : Int)
          · simp only [d2, decide_true, if_true, cond_B, call89, obs, gd_B, gdH_B, and_self]
            cases fresh p with
            | true => simp only [gd_B, gdH_B, if_true, obs, call89, pickA_B, leave0_B, Bool.true_and]
            | false => simp only [gd_B, gdH_B, Bool.false_eq_true, if_false, obs, pickA_B, leave0_B, Bool.false_and]
          · simp only [d2, decide_false, Bool.false_eq_true, if_false, cond_B, and_false]
            exact tail
        · simp only [d1, decide_false, Bool.false_eq_true, if_false, obs, gd_undef, pickA_B, cond_B, false_and]
          exact tail
  obtain ⟨H', h⟩ := key
  exact callA_args (rs := [B _]) rfl (by
    have hl : ∀ xs : List PV, pureLeaves H (xs.map .p) = some (xs.map .p, false) := by
      intro xs
      induction xs with
      | nil => rfl
      | cons x xs ih => simp [pureLeaves, pureLeaf, ih]
    simp [pureArgs, pureArg, hl, pureLeaf]) h rfl

theorem call37 (hlen : xs.length = 13) (h2 : xs[2]? = some (Ia loop)) (h3 : xs[3]? = some (.sl nl tg ins.length (ins.flatMap enc_TIns))) (a b : Int) (lo : List Nat) (H : Heap) :
    callA cfg O 37 [.agg (xs.map .p), I a, I b] lo H = some (B (ap ins loop (min a b) (max a b)), H) := by
  have key : ∃ H', O.ent 37 [.agg (xs.map .p), I a, I b] [] [] = some ([B (ap ins loop (min a b) (max a b))], H') := by
    refine ⟨[.box (xs.map .p)], ?_⟩
    rw [f37_eq]
    have e1 : boxO [] (AV.cells (.agg (xs.map .p))) [] = some (.ptr 0 0, [.box (xs.map .p)]) := boxO_p xs []
    have l2 : ld false 1 (.ptr 0 2) [.box (xs.map .p)] = some (I loop) := by rw [ld_box (xs := xs.map .p) rfl, List.getElem?_map, h2]; rfl
    have l3 : ld false 1 (.ptr 0 3) [.box (xs.map .p)] = some (.p (.sl nl tg ins.length (ins.flatMap enc_TIns))) := by rw [ld_box (xs := xs.map .p) rfl, List.getElem?_map, h3]; rfl
    rw [e1]
    generalize [AObj.box (xs.map .p)] = G at *
    have main : ∀ x y : Int, x ≤ y → L37_9 [I x, I y, .ptr 0 0] [] G = some ([B (ap ins loop x y)], G) := by
      intro x y hle
      rw [L37_9_eq]
      simp only [bin_lss, obs, fldA_ptr, Nat.zero_add]
      unfold ap
      by_cases c1 : x < 0
      · simp only [c1, decide_true, gd_B, gd_undef, gdH_B, gdH_undef, Bool.true_eq_false, if_false, obs, pickA_B, if_true, cond_B, leave0_B, true_or]
      simp only [c1, decide_false, gd_B, if_true, obs, bin_eql, pickA_B, Bool.false_eq_true, if_false]
      by_cases c3 : x = y
      · simp only [c3, decide_true, gd_B, gd_undef, gdH_B, gdH_undef, Bool.true_eq_false, if_false, obs, pickA_B, if_true, cond_B, leave0_B, true_or, or_true]
      simp only [c3, decide_false, gd_B, if_true, obs, l3, lenA_sl, bin_geq, pickA_B, Bool.false_eq_true, if_false]
      by_cases c2 : (ins.length : Int) ≤ y
      · simp only [c2, decide_true, gd_B, gd_undef, gdH_B, gdH_undef, Bool.true_eq_false, if_false, obs, pickA_B, if_true, cond_B, leave0_B, true_or, or_true]
      obtain ⟨i, rfl⟩ : ∃ i : Nat, x = i := ⟨x.toNat, by omega⟩
      obtain ⟨j, rfl⟩ : ∃ j : Nat, y = j := ⟨y.toNat, by omega⟩
      have hi : i < ins.length := by omega
      have hj : j < ins.length := by omega
      obtain ⟨p, hp0⟩ : ∃ p, (ins.getD i default).1 = p := ⟨_, rfl⟩
      obtain ⟨q, hq0⟩ : ∃ q, (ins.getD j default).1 = q := ⟨_, rfl⟩
      have opp : ∀ H, ld false 1 (.fp (ins.flatMap enc_TIns) (i * 8 + 0)) H = some (I p) := fun H => by rw [← hp0]; exact opAt hi H
      have opq : ∀ H, ld false 1 (.fp (ins.flatMap enc_TIns) (j * 8 + 0)) H = some (I q) := fun H => by rw [← hq0]; exact opAt hj H
      simp only [c2, decide_false, obs, cond_B, l3, idxi hi, idxi hj, fldA_fp, opp, opq, hp0, hq0, call91, un_not, Bool.false_eq_true, if_false, or_self, Int.toNat_natCast]
      cases hp : tl p with
      | false => simp only [Bool.not_false, Bool.true_eq_false, if_false, if_true, obs, gd_undef, gdH_undef, gd_B, gdH_B, pickA_B, cond_B, leave0_B, true_or]
      | true =>
        simp only [Bool.not_true, Bool.false_eq_true, if_false, if_true, obs, gd_B, gdH_B, pickA_B, cond_B, call91, un_not]
        cases hq : tl q with
        | false => simp only [Bool.not_false, Bool.true_eq_false, if_false, if_true, obs, pickA_B, cond_B, leave0_B, or_true]
        | true =>
          simp only [Bool.not_true, Bool.true_eq_false, Bool.false_eq_true, if_false, if_true, obs, or_self, l2, bin_lss, gd_B, bin_leq, bin_eql]
          -- is a value fresh?
          have fr : ∀ (z : Int) (K : AV → Res), ((gd (B (decide (z = 16))) false (some (I z))).bind fun x29 =>
              (gd (B (decide (z = 16))) false (bin .eql .int x29 (I 18))).bind fun x30 =>
              (pickA (B (decide (z = 16))) (B true) x30).bind K) = K (B (fresh z)) := by
            intro z K
            unfold fresh
            by_cases h : z = 16
            · simp only [h, decide_true, gd_B, Bool.true_eq_false, if_false, obs, gd_undef, pickA_B, if_true, Bool.true_or]
            · simp only [h, decide_false, gd_B, if_true, obs, bin_eql, pickA_B, Bool.false_eq_true, if_false, Bool.false_or]
          have fr' := fr p
          have fq' := fr q
          simp only [gd_B] at fr' fq'
          rw [fr', fq']
          have elit : ∀ H, litA false 1 [I 1, I 2, I 3] H = some (V (some false) true [1, 2, 3], H) := fun H => rfl
          have ebef : ∀ H, callA cfg O 92 [V (some false) true [1, 2, 3], I q] [] H = some (B (bef q), H) := fun H => call92 (by simp) q [] H
          have tail : ((gd (B (fresh q)) false (some (B (fresh p)))).bind fun x46 =>
              (gd (B (fresh q)) false (some x46)).bind fun x47 =>
              (gdH x47 true (litA false 1 [I 1, I 2, I 3] G) G).bind fun r48 =>
              (gd x47 true (some (I q))).bind fun x49 =>
              (gdH x47 true (callA cfg O 92 [r48.1, x49] [] r48.2) r48.2).bind fun r50 =>
              (gd (B (fresh q)) false (pickA x47 r50.1 (B false))).bind fun x51 =>
              (pickA (B (fresh q)) (B true) x51).bind fun x52 =>
              leave 0 [] [x52] r50.2) = some ([B (fresh q || (fresh p && bef q))], G) := by
            cases fresh q with
            | true => simp only [gd_B, gdH_B, Bool.true_eq_false, if_false, obs, gd_undef, gdH_undef, pickA_B, if_true, leave0_B, Bool.true_or]
            | false =>
              simp only [gd_B, gdH_B, Bool.false_eq_true, if_true, if_false, obs, pickA_B]
              cases fresh p with
              | true => simp only [gd_B, gdH_B, if_true, obs, elit, ebef, pickA_B, leave0_B, Bool.false_or, Bool.true_and]
              | false => simp only [gd_B, gdH_B, Bool.false_eq_true, if_false, obs, pickA_B, leave0_B, Bool.false_or, Bool.false_and]
          have tail' := tail
          simp only [gd_B, obs, pickA_B] at tail'
          simp only [gd_B]
          by_cases d1 : (i : Int) < loop
          · simp only [d1, decide_true, if_true, obs, pickA_B, bin_leq, l2]
            by_cases d2 : loop ≤ (j : Int)
            · simp only [d2, decide_true, if_true, cond_B, and_self]
              cases fresh p with
              | true => simp only [if_true, obs, pickA_B, leave0_B, Bool.true_and]
              | false => simp only [Bool.false_eq_true, if_false, obs, pickA_B, leave0_B, Bool.false_and]
            · simp only [d2, decide_false, Bool.false_eq_true, if_false, cond_B, and_false]
              exact tail'
          · simp only [d1, decide_false, Bool.false_eq_true, if_false, obs, gd_undef, pickA_B, cond_B, false_and]
            exact tail'
    simp only [obs, bin_gtr, cond_B]
    by_cases h : b < a
    · rw [if_pos (by simpa using h), show min a b = b by omega, show max a b = a by omega]
      exact main b a (by omega)
    · rw [if_neg (by simpa using h), show min a b = a by omega, show max a b = b by omega]
      exact main a b (by omega)
  obtain ⟨H', h⟩ := key
  exact callA_args (rs := [B _]) rfl (by
    have hl : ∀ xs : List PV, pureLeaves H (xs.map .p) = some (xs.map .p, false) := by
      intro xs
      induction xs with
      | nil => rfl
      | cons x xs ih => simp [pureLeaves, pureLeaf, ih]
    simp [pureArgs, pureArg, hl, pureLeaf]) h rfl

theorem law (hlen : xs.length = 13) (h2 : xs[2]? = some (Ia loop)) (h3 : xs[3]? = some (.sl nl tg ins.length (ins.flatMap enc_TIns))) (a b : Int) : ∃ H', O.ent 8 [.agg (xs.map .p), I a, I b] [] [] = some ([B true], H') := by
  refine ⟨[.box (xs.map .p)], ?_⟩
  rw [f8_eq]
  have e1 : boxO [] (AV.cells (.agg (xs.map .p))) [] = some (.ptr 0 0, [.box (xs.map .p)]) := boxO_p xs []
  have l13 : ld true 13 (.ptr 0 0) [.box (xs.map .p)] = some (.agg (xs.map .p)) := by
    rw [ldAgg_box (xs := xs.map .p) rfl (by simp [hlen]), List.drop_zero, List.take_of_length_le (by simp [hlen])]
  rw [e1]
  simp only [obs, call35, gd_B, gdH_B, if_true, l13, call36 hlen h2 h3, call37 hlen h2 h3, bin_eqlB, beq_self_eq_true, pickA_B, leave0_B]

end
end Alias
end Go.Proofs.Ytangmjeafnkfaaa
