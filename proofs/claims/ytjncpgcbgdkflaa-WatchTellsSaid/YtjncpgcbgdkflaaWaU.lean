/- Watching a slot: the value; the writes. -/
import Derived.Test.YtjncpgcbgdkflaaWaT
set_option linter.unusedVariables false
set_option linter.unusedSectionVars false
set_option linter.unusedSimpArgs false
namespace Go.Proofs.Ytjncpgcbgdkflaa
open Go Go.AM
namespace Wa
section
variable {l : List E} {nl : Option Bool} {tg : Bool}

theorem cutR_lo {n : Nat} (hn : n ≤ l.length) (H : Heap) : cutA 12 (Rw enc nl tg l) (some (I n)) none none H = some (Rw enc nl tg (l.drop n)) := by
  rw [cutA_lo (by omega)]
  have e : ((l.flatMap enc).drop (n * 12)).take ((l.length - n) * 12) = (l.drop n).flatMap enc := by
    rw [rows_drop hE, List.take_of_length_le (by rw [rows_length hE, List.length_drop]; exact Nat.le_refl _)]
  simp only [Int.toNat_natCast, e, Rw, List.length_drop]

def hp7 (c p : Int) (x : PV) (R : Heap) : Heap := [.box [I 0, I 0], .box [B false], .box [I 0], .box [I c, I p], .box [.p x]] ++ R
theorem hp7_push (c p : Int) (x : PV) (R : Heap) (o : AObj) : hp7 c p x R ++ [o] = hp7 c p x (R ++ [o]) := rfl
theorem hp7_get (c p : Int) (x : PV) (R : Heap) : (hp7 c p x R)[3]? = some (bxV (c, p)) := rfl
def res7 (o : Option A_Val) : List AV := match o with | some v => [avV v, B true, I 0] | none => [avV (0, 0), B false, I 0]

theorem fw_step (c p : Int) (k m : Nat) : fw l c p k (m + 1) = if at' (l.getD k z0) 4 c p = true then some (od (l.getD k z0)) else if at' (l.getD k z0) 3 c p = true then some (vl (l.getD k z0)) else fw l c p (k + 1) m := rfl
theorem at_excl (e : E) (c p : Int) (h : at' e 4 c p = true) : at' e 3 c p = false := by
  unfold at' at *
  simp only [Bool.and_eq_true, decide_eq_true_eq] at h
  have : ¬ kd e = 3 := by omega
  simp [this]

theorem loop24 {n : Nat} (hn : n ≤ l.length) (hb : l.length < 2 ^ 40) (c p : Int) (x : PV) : ∀ (m j : Nat) (R : Heap), n + j + m = l.length →
    L7_24 [.ptr 0 0, .ptr 1 0, .ptr 2 0, .ptr 3 0, Rw enc nl tg (l.drop n), I (l.drop n).length, I j] [] (hp7 c p x R) = some (res7 (fw l c p (n + j) m), []) := by
  intro m
  induction m with
  | zero =>
    intro j R hj
    rw [L7_24_eq]
    have h0 : ¬ ((j : Int) < ((l.drop n).length : Int)) := by rw [List.length_drop]; omega
    simp only [core, h0, build0, fw]
    rfl
  | succ m ih =>
    intro j R hj
    have hjl : j < (l.drop n).length := by rw [List.length_drop]; omega
    have h0 : (j : Int) < ((l.drop n).length : Int) := by omega
    have hg : (l.drop n).getD j z0 = l.getD (n + j) z0 := by
      rw [List.getD_eq_getElem?_getD, List.getD_eq_getElem?_getD, List.getElem?_drop]
    have hv := ldEv hjl (hp7 c p x R)
    rw [hg] at hv
    rw [L7_24_eq, fw_step]
    simp only [core, h0, idxE hjl, hv, box12, stE12, ldE12, call35, box2]
    generalize he : l.getD (n + j) z0 = e
    have st := stE2 (ea e) (eb e) (I 0) [] (hp7 c p x R ++ [bxE e])
    simp only [core, st]
    have l1 : ld true 2 (.ptr (hp7 c p x R ++ [bxE e]).length 0) (hp7 c p x R ++ [bxE e] ++ [.box [I (ea e), I (eb e)]]) = some (.agg [I (ea e), I (eb e)]) := bV (v := (ea e, eb e)) (atE _ _)
    have l2 : ld true 2 (.ptr 3 0) (hp7 c p x R ++ [bxE e] ++ [.box [I (ea e), I (eb e)]]) = some (.agg [I c, I p]) := bV (v := (c, p)) rfl
    have hge : (hp7 c p x R ++ [bxE e] ++ [.box [I (ea e), I (eb e)]])[(hp7 c p x R).length]? = some (bxE e) := getE (atE _ _)
    have l3 := b0 hge
    have l4 := b8 hge
    have l5 := b10 hge
    have hs := sl_at e c p
    cases hsl : sl e with
    | false =>
      rw [hsl] at hs
      rw [Bool.false_and] at hs
      have h3 : at' e 3 c p = false := (Bool.or_eq_false_iff.mp hs.symm).1
      have h4 : at' e 4 c p = false := (Bool.or_eq_false_iff.mp hs.symm).2
      simp only [core, h3, h4]
      rw [wrap_id (by omega), nxt, hp7_push, hp7_push, show n + j + 1 = n + (j + 1) by omega]
      exact ih (j + 1) _ (by omega)
    | true =>
      rw [hsl] at hs
      rw [Bool.true_and] at hs
      simp only [core, l1, l2, ne2]
      cases hq : decide (ea e = c ∧ eb e = p) with
      | false =>
        rw [hq] at hs
        have h3 : at' e 3 c p = false := (Bool.or_eq_false_iff.mp hs.symm).1
        have h4 : at' e 4 c p = false := (Bool.or_eq_false_iff.mp hs.symm).2
        simp only [core, h3, h4]
        rw [wrap_id (by omega), nxt, hp7_push, hp7_push, show n + j + 1 = n + (j + 1) by omega]
        exact ih (j + 1) _ (by omega)
      | true =>
        rw [hq] at hs
        have hcp : ea e = c ∧ eb e = p := by simpa using hq
        simp only [core, l3]
        by_cases h4k : kd e = 4
        · have h4 : at' e 4 c p = true := by unfold at'; simp [h4k, hcp.1, hcp.2]
          simp only [core, h4k, h4, l5]
          rfl
        · have h4 : at' e 4 c p = false := by unfold at'; simp [h4k]
          have h3 : at' e 3 c p = true := by rw [h4, Bool.or_false] at hs; exact hs.symm
          simp only [core, h4k, h4, h3, l4]
          rfl

theorem kn_step (c p : Int) (k : Nat) : kn l c p (k + 1) = if (at' (l.getD k z0) 3 c p || at' (l.getD k z0) 4 c p) = true then some (vl (l.getD k z0)) else kn l c p k := rfl

theorem loop7 {n : Nat} (hn : n ≤ l.length) (hb : l.length < 2 ^ 40) (c p : Int) {tg' : Bool} : ∀ (k : Nat) (R : Heap), k ≤ n →
    L7_200002 [I ((k : Int) - 1), .ptr 4 0, Rw enc nl tg l, I n, .ptr 0 0, .ptr 1 0, .ptr 2 0, .ptr 3 0] [] (hp7 c p (.sl nl tg' (l.take n).length ((l.take n).flatMap enc)) R) = some (res7 ((kn l c p k).or (fw l c p n (l.length - n))), []) := by
  intro k
  induction k with
  | zero =>
    intro R _
    rw [L7_200002_eq]
    have h0 : ((0 : Nat) : Int) - 1 < 0 := by omega
    simp only [core, h0, kn, cutR_lo hn, Option.none_or]
    have := loop24 (nl := nl) (tg := tg) hn hb c p (.sl nl tg' (l.take n).length ((l.take n).flatMap enc)) (l.length - n) 0 R (by omega)
    exact this
  | succ k ih =>
    intro R hk
    have hkl : k < (l.take n).length := by rw [List.length_take]; omega
    rw [L7_200002_eq]
    have h0 : ¬ (((k + 1 : Nat) : Int) - 1 < 0) := by omega
    have h1 : ((k + 1 : Nat) : Int) - 1 = (k : Int) := by omega
    have hq : ld false 1 (.ptr 4 0) (hp7 c p (.sl nl tg' (l.take n).length ((l.take n).flatMap enc)) R) = some (Rw enc nl tg' (l.take n)) := rfl
    have hg : (l.take n).getD k z0 = l.getD k z0 := by
      rw [List.getD_eq_getElem?_getD, List.getD_eq_getElem?_getD, List.getElem?_take, if_pos (by omega)]
    have hv := ldEv hkl (hp7 c p (.sl nl tg' (l.take n).length ((l.take n).flatMap enc)) R)
    rw [hg] at hv
    generalize hx : PV.sl nl tg' (l.take n).length ((l.take n).flatMap enc) = x at *
    simp only [core, h0]
    rw [h1, hq, kn_step]
    simp only [core, idxE hkl, hv, box12, stE12, ldE12, call35, box2]
    generalize he : l.getD k z0 = e at *
    have st := stE2 (ea e) (eb e) (I 0) [] (hp7 c p x R ++ [bxE e])
    simp only [core, st]
    have l1 : ld true 2 (.ptr (hp7 c p x R ++ [bxE e]).length 0) (hp7 c p x R ++ [bxE e] ++ [.box [I (ea e), I (eb e)]]) = some (.agg [I (ea e), I (eb e)]) := bV (v := (ea e, eb e)) (atE _ _)
    have l2 : ld true 2 (.ptr 3 0) (hp7 c p x R ++ [bxE e] ++ [.box [I (ea e), I (eb e)]]) = some (.agg [I c, I p]) := bV (v := (c, p)) rfl
    have hge : (hp7 c p x R ++ [bxE e] ++ [.box [I (ea e), I (eb e)]])[(hp7 c p x R).length]? = some (bxE e) := getE (atE _ _)
    have l4 := b8 hge
    have hs := sl_at e c p
    rw [← hs]
    cases hsl : sl e with
    | false =>
      simp only [core, Bool.false_and]
      rw [wrap_id (by omega), hp7_push, hp7_push]
      exact ih _ (by omega)
    | true =>
      simp only [core, l1, l2, eq2, Bool.true_and]
      cases hq : decide (ea e = c ∧ eb e = p) with
      | false =>
        simp only [core]
        rw [wrap_id (by omega), hp7_push, hp7_push]
        exact ih _ (by omega)
      | true =>
        simp only [core, l4]
        rfl

theorem call7 (c p a : Int) (lo : List Nat) (H : Heap) : callA cfg O 7 [Rw enc nl tg l, I c, I p, I a] lo H =
    some (if chk l.length a = 0 then .tup (res7 ((kn l c p a.toNat).or (fw l c p a.toNat (l.length - a.toNat)))) else .tup [avV (0, 0), B false, I (chk l.length a)], H) := by
  have he : O.ent 7 [Rw enc nl tg l, I c, I p, I a] [] [] = some (if chk l.length a = 0 then res7 ((kn l c p a.toNat).or (fw l c p a.toNat (l.length - a.toNat))) else [avV (0, 0), B false, I (chk l.length a)], []) := by
    rw [f7_eq]
    have b1 : boxO [] [I 0, I 0] [] = some (.ptr 0 0, [.box [I 0, I 0]]) := rfl
    have b2 : boxO [] [B false] [.box [I 0, I 0]] = some (.ptr 1 0, [.box [I 0, I 0], .box [B false]]) := rfl
    have b3 : boxO [] [I 0] [.box [I 0, I 0], .box [B false]] = some (.ptr 2 0, [.box [I 0, I 0], .box [B false], .box [I 0]]) := rfl
    have b4 : boxO [] [I 0, I 0] [.box [I 0, I 0], .box [B false], .box [I 0]] = some (.ptr 3 0, [.box [I 0, I 0], .box [B false], .box [I 0], .box [I 0, I 0]]) := rfl
    have s4 : stA 2 (.ptr 3 0) (.agg [I c, I p]) [] [.box [I 0, I 0], .box [B false], .box [I 0], .box [I 0, I 0]] = some [.box [I 0, I 0], .box [B false], .box [I 0], .box [I c, I p]] := rfl
    simp only [core, b1, b2, b3, call33]
    by_cases h : chk l.length a = 0
    · have hr := chk_ok h
      rw [if_pos h]
      obtain ⟨n, rfl⟩ : ∃ n : Nat, a = n := ⟨a.toNat, by omega⟩
      have hn : n ≤ l.length := by omega
      simp only [core, h, build2, b4, s4, cutR_hi hE hn, call34, rng_fn]
      have := loop7 (l := l) (nl := nl) (tg := tg) (tg' := tg && decide ((n : Int) = l.length)) hn (by omega) c p n [] (Nat.le_refl _)
      have hq : ld false 1 (.ptr ([.box [I 0, I 0], .box [B false], .box [I 0], .box [I c, I p]] : Heap).length 0) ([.box [I 0, I 0], .box [B false], .box [I 0], .box [I c, I p]] ++ [.box [Rw enc nl (tg && decide ((n : Int) = l.length)) (l.take n)]]) = some (Rw enc nl (tg && decide ((n : Int) = l.length)) (l.take n)) := rfl
      rw [hq]
      have hln : ((l.take n).length : Int) = n := by rw [List.length_take]; omega
      simp only [core]
      rw [hln, wrap_id (by omega)]
      exact this
    · rw [if_neg h]
      simp only [core, h, build0]
      rfl
  refine (callA_args (H' := []) rfl rfl he ?_).trans ?_
  · split
    · unfold res7; split <;> rfl
    · rfl
  · split
    · unfold res7; split <;> rfl
    · rfl

/-! ### Writes -/
def wp (l : List E) (c p : Int) (i : Nat) : Bool := wr (l.getD i z0) c p
theorem loop9 (hb : l.length < 2 ^ 40) (c p : Int) : ∀ (m j : Nat) (o : AV) (H : Heap), j + m = l.length → Cx H [] [(o, 1, (flt (wp l c p) j).length, (flt (wp l c p) j).map Ia)] →
    ∃ nl' tg', L9_14 [I c, I p, o, Rw enc nl tg l, I l.length, I j] [] H = some ([V nl' tg' (flt (wp l c p) l.length), I 0], []) := by
  intro m
  induction m with
  | zero =>
    intro j o H hj h
    have : j = l.length := by omega
    subst this
    rw [L9_14_eq]
    simp only [core, Int.lt_irrefl]
    obtain ⟨nl', tg', H', e⟩ := h.hd.leave2 [] (Ia 0)
    have := leave0_heap e
    subst this
    exact ⟨nl', tg', e⟩
  | succ m ih =>
    intro j o H hj h
    have hjl : j < l.length := by omega
    have h0 : (j : Int) < (l.length : Int) := by omega
    have hv := ldEv hjl H
    rw [L9_14_eq]
    simp only [core, h0, idxE hjl, hv, box12, stE12, ldE12, build2, call36]
    have h1 := h.push [bxE (l.getD j z0)]
    cases hw : wr (l.getD j z0) c p with
    | true =>
      obtain ⟨o', H', e1, h2⟩ := plc [] (by omega) h1 (show wp l c p j = true from hw)
      simp only [core, lit1, e1, L9_23_eq]
      rw [wrap_id (by omega), nxt]
      exact ih (j + 1) _ _ (by omega) h2
    | false =>
      simp only [core, L9_23_eq]
      rw [wrap_id (by omega), nxt]
      exact ih (j + 1) _ _ (by omega) (plc0 [] h1 (show wp l c p j = false from hw))

theorem call9 (c p : Int) : ∃ nl' tg', ∀ (lo : List Nat) (H : Heap), callA cfg O 9 [Rw enc nl tg l, I c, I p] lo H =
    some (if chk l.length 0 = 0 then .tup [V nl' tg' (flt (wp l c p) l.length), I 0] else .tup [.p nilS, I (chk l.length 0)], H) := by
  have he : ∃ nl' tg', O.ent 9 [Rw enc nl tg l, I c, I p] [] [] = some (if chk l.length 0 = 0 then [V nl' tg' (flt (wp l c p) l.length), I 0] else [.p nilS, I (chk l.length 0)], []) := by
    rw [f9_eq]
    simp only [core, call33]
    by_cases h : chk l.length 0 = 0
    · have hr := chk_ok h
      simp only [core, h]
      exact loop9 (by omega) c p l.length 0 (.p nilS) [] (by omega) ((Cx.nil []).newNil 1)
    · refine ⟨none, false, ?_⟩
      simp only [core, h]
      rfl
  obtain ⟨nl', tg', he⟩ := he
  refine ⟨nl', tg', fun lo H => (callA_args (H' := []) rfl rfl he ?_).trans ?_⟩
  · split <;> rfl
  · split <;> rfl
end
end Wa
end Go.Proofs.Ytjncpgcbgdkflaa
