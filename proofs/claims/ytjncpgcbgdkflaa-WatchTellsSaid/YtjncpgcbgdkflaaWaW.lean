/- Watching a slot: the document's value and whole; the law. -/
import Derived.Test.YtjncpgcbgdkflaaWaV
set_option linter.unusedVariables false
set_option linter.unusedSectionVars false
set_option linter.unusedSimpArgs false
namespace Go.Proofs.Ytjncpgcbgdkflaa
open Go Go.AM
namespace Wa
section
variable {l : List E} {nl : Option Bool} {tg : Bool}

theorem fl8 {k : Nat} (hkl : k < l.length) (H : Heap) : ld true 2 (.fp (l.flatMap enc) (k * 12 + 8)) H = some (avV (vl (l.getD k z0))) := by
  rw [ldAgg_fp (by rw [rows_length hE]; omega), ← getl hkl]
  have := rows_part hE (List.getElem?_eq_getElem hkl)
  have h2 : ((l.flatMap enc).drop (k * 12 + 8)).take 2 = ((enc l[k]).drop 8).take 2 := by
    rw [← this, List.drop_take, List.drop_drop, List.take_take]
    rfl
  rw [h2]
  rfl
theorem fl10 {k : Nat} (hkl : k < l.length) (H : Heap) : ld true 2 (.fp (l.flatMap enc) (k * 12 + 10)) H = some (avV (od (l.getD k z0))) := by
  rw [ldAgg_fp (by rw [rows_length hE]; omega), ← getl hkl]
  have := rows_part hE (List.getElem?_eq_getElem hkl)
  have h2 : ((l.flatMap enc).drop (k * 12 + 10)).take 2 = ((enc l[k]).drop 10).take 2 := by
    rw [← this, List.drop_take, List.drop_drop, List.take_take]
    rfl
  rw [h2]
  rfl
theorem fl0 {k : Nat} (hkl : k < l.length) (H : Heap) : ld false 1 (.fp (l.flatMap enc) (k * 12 + 0)) H = some (I (kd (l.getD k z0))) := by rw [fldR hE hkl (by omega), getl hkl]; rfl
theorem fl6 {k : Nat} (hkl : k < l.length) (H : Heap) : ld false 1 (.fp (l.flatMap enc) (k * 12 + 6)) H = some (I (ea (l.getD k z0))) := by rw [fldR hE hkl (by omega), getl hkl]; rfl
theorem fl7 {k : Nat} (hkl : k < l.length) (H : Heap) : ld false 1 (.fp (l.flatMap enc) (k * 12 + 7)) H = some (I (eb (l.getD k z0))) := by rw [fldR hE hkl (by omega), getl hkl]; rfl

theorem end12 (hb : l.length < 2 ^ 40) (c p : Int) (v : A_Val) (k : Nat) : L12_8 [Rw enc nl tg l, I c, I p, .ptr 0 0, .ptr 1 0, B true, I k] [] [bxV (0, 0), bxV v] = some ([avV v, B true], []) := by
  rw [L12_8_eq]
  by_cases h : (k : Int) < l.length
  · simp only [core, h]
    rfl
  · simp only [core, h]
    rfl

theorem loop12 (hb : l.length < 2 ^ 40) (c p : Int) : ∀ (m k : Nat), k + m = l.length →
    L12_8 [Rw enc nl tg l, I c, I p, .ptr 0 0, .ptr 1 0, B false, I k] [] [bxV (0, 0), bxV (0, 0)] = some ([avV (ow (fw l c p k m)), B (fw l c p k m).isSome], []) := by
  intro m
  induction m with
  | zero =>
    intro k hk
    have : k = l.length := by omega
    subst this
    rw [L12_8_eq]
    simp only [core, Int.lt_irrefl]
    rfl
  | succ m ih =>
    intro k hk
    have h0 : (k : Int) < (l.length : Int) := by omega
    have hkl : k < l.length := by omega
    have ih' := ih (k + 1) (by omega)
    rw [L12_8_eq, fw_step]
    have s1 : ∀ v : A_Val, stA 2 (.ptr 1 0) (avV v) [] [bxV (0, 0), bxV (0, 0)] = some [bxV (0, 0), bxV v] := fun _ => rfl
    cases h3 : at' (l.getD k z0) 3 c p with
    | true =>
      have h4 : at' (l.getD k z0) 4 c p = false := by
        cases h4 : at' (l.getD k z0) 4 c p with
        | false => rfl
        | true => rw [at_excl _ _ _ h4] at h3; cases h3
      simp only [core, h0, idxE hkl, ldEv hkl, call15, h3, h4, fl8 hkl]
      rw [s1]
      simp only [core, L12_17_eq, idxE hkl, ldEv hkl, call15, h4, L12_11_eq]
      rw [wrap_id (by omega), nxt]
      exact end12 hb c p _ (k + 1)
    | false =>
      simp only [core, h0, idxE hkl, ldEv hkl, call15, h3, L12_17_eq]
      cases h4 : at' (l.getD k z0) 4 c p with
      | true =>
        simp only [core, fl10 hkl]
        rw [s1]
        simp only [core, L12_11_eq]
        rw [wrap_id (by omega), nxt]
        exact end12 hb c p _ (k + 1)
      | false =>
        simp only [core, L12_11_eq]
        rw [wrap_id (by omega), nxt]
        exact ih'

theorem call12 {n : Nat} (hn : n ≤ l.length) (hb : l.length < 2 ^ 40) (c p : Int) (lo : List Nat) (H : Heap) : callA cfg O 12 [Rw enc nl tg l, I c, I p, I n] lo H =
    some (.tup [avV (ow ((kn l c p n).or (fw l c p n (l.length - n)))), B ((kn l c p n).or (fw l c p n (l.length - n))).isSome], H) := by
  refine callA_args (H' := []) (rs := [avV (ow ((kn l c p n).or (fw l c p n (l.length - n)))), B ((kn l c p n).or (fw l c p n (l.length - n))).isSome]) rfl rfl ?_ rfl
  rw [f12_eq]
  have b1 : boxO [] [I 0, I 0] [] = some (.ptr 0 0, [bxV (0, 0)]) := rfl
  have b2 : boxO [] [I 0, I 0] [bxV (0, 0)] = some (.ptr 1 0, [bxV (0, 0), bxV (0, 0)]) := rfl
  have s1 : ∀ v : A_Val, stA 2 (.ptr 1 0) (avV v) [] [bxV (0, 0), bxV (0, 0)] = some [bxV (0, 0), bxV v] := fun _ => rfl
  simp only [core, b1, call38 hn hb, b2, s1]
  cases hk : kn l c p n with
  | some v => exact end12 hb c p v n
  | none => exact loop12 hb c p (l.length - n) n (by omega)

theorem loop14 (hb : l.length < 2 ^ 40) : ∀ (m j : Nat) (R : Heap), j + m = l.length → L14_6 [Rw enc nl tg l, I j] [] R = some ([I (wf l j m)], []) := by
  intro m
  induction m with
  | zero =>
    intro j R hj
    have : j = l.length := by omega
    subst this
    rw [L14_6_eq]
    simp only [core, Int.lt_irrefl, leave0_I, wf]
  | succ m ih =>
    intro j R hj
    have hjl : j < l.length := by omega
    have h0 : (j : Int) < (l.length : Int) := by omega
    rw [L14_6_eq, wf_step]
    have on : ∀ R, L14_9 [Rw enc nl tg l, I j] [] R = some ([I (wf l (j + 1) m)], []) := by
      intro R
      rw [L14_9_eq]
      simp only [core]
      rw [wrap_id (by omega), nxt]
      exact ih (j + 1) R (by omega)
    have hbad : bad l j = (sl (l.getD j z0) && (match kn l (ea (l.getD j z0)) (eb (l.getD j z0)) j with | some v => !decide (v.1 = (told (l.getD j z0)).1 ∧ v.2 = (told (l.getD j z0)).2) | none => false)) := rfl
    have f0 := fun H => fl0 hjl H
    have f6 := fun H => fl6 hjl H
    have f7 := fun H => fl7 hjl H
    have f8 := fun H => fl8 hjl H
    have f10 := fun H => fl10 hjl H
    generalize he : l.getD j z0 = e at *
    cases hsl : sl e with
    | false =>
      rw [hsl, Bool.false_and] at hbad
      rw [hbad]
      have h3 : ¬ kd e = 3 := fun h => by have := (sl_kinds e).mpr (.inl h); rw [hsl] at this; cases this
      have h4 : ¬ kd e = 4 := fun h => by have := (sl_kinds e).mpr (.inr h); rw [hsl] at this; cases this
      simp only [core, h0, idxE hjl, f0, h3, h4, on]
    | true =>
      rw [hsl, Bool.true_and] at hbad
      have hc := (sl_kinds e).mp hsl
      have c38 := fun lo H => call38 (l := l) (nl := nl) (tg := tg) (n := j) (by omega) hb (ea e) (eb e) lo H
      have hbin : (if kd e = 3 then False else if kd e = 4 then False else True) = False := by
        rcases hc with h | h <;> simp [h]
      have key : ∀ (H2 : Heap) (i1 i2 : Nat), H2[i1]? = some (bxV (ow (kn l (ea e) (eb e) j))) → H2[i2]? = some (bxV (told e)) →
          L14_21 [Rw enc nl tg l, I j, .ptr i1 0, B (kn l (ea e) (eb e) j).isSome, .ptr i2 0] [] H2 = some ([I (if bad l j = true then (j : Int) else wf l (j + 1) m)], []) := by
        intro H2 i1 i2 g1 g2
        rw [L14_21_eq, hbad]
        cases hk : kn l (ea e) (eb e) j with
        | none =>
          simp only [core, Option.isSome_none, on]
        | some v =>
          rw [hk] at g1
          simp only [core, Option.isSome_some, bV g1, bV g2, ow, Option.getD_some, avV, ne2]
          by_cases hd : v.1 = (told e).1 ∧ v.2 = (told e).2
          · simp only [core, decide_eq_true hd, on]
          · simp only [core, decide_eq_false hd, leave0_I]
      have st1 := stE2 (ow (kn l (ea e) (eb e) j)).1 (ow (kn l (ea e) (eb e) j)).2 (I 0) [] R
      have st2 := stE2 (vl e).1 (vl e).2 (I 0) [] (R ++ [bxV (ow (kn l (ea e) (eb e) j))])
      have main : (pickA (B (!decide (kd e = 3))) (if (!decide (kd e = 3)) = true then B (!decide (kd e = 4)) else undefA) (B false)) = some (B false) := by
        rcases hc with h | h <;> simp [h]
      rcases hc with h3 | h4
      · have h4 : ¬ kd e = 4 := by omega
        have ht : told e = vl e := if_neg h4
        have f0' : ∀ H, ld false 1 (.fp (l.flatMap enc) (j * 12 + 0)) H = some (I 3) := fun H => by rw [f0, h3]
        simp only [core, h0, idxE hjl, f0', f6, f7, c38, box2, avV, st1, f8, st2]
        have d3 : ¬ ((3 : Int) = 4) := by decide
        simp only [core, d3]
        exact key _ _ _ (getE (atE _ _)) (by rw [ht]; exact atE _ _)
      · have h3 : ¬ kd e = 3 := by omega
        have ht : told e = od e := if_pos h4
        have f0' : ∀ H, ld false 1 (.fp (l.flatMap enc) (j * 12 + 0)) H = some (I 4) := fun H => by rw [f0, h4]
        have d3 : ¬ ((4 : Int) = 3) := by decide
        have st3 : stA 2 (.ptr (R ++ [bxV (ow (kn l (ea e) (eb e) j))]).length 0) (.agg [I (od e).1, I (od e).2]) [] (R ++ [bxV (ow (kn l (ea e) (eb e) j))] ++ [.box [I (vl e).1, I (vl e).2]]) = some (R ++ [bxV (ow (kn l (ea e) (eb e) j))] ++ [.box [I (od e).1, I (od e).2]]) := stEA (ys := [Ia (od e).1, Ia (od e).2]) (n := 2) rfl rfl (by decide)
        simp only [core, h0, idxE hjl, f0', d3, f6, f7, c38, box2, avV, st1, f8, f10, st2, st3]
        exact key _ _ _ (getE (atE _ _)) (by rw [ht]; exact atE _ _)

theorem call14 (hb : l.length < 2 ^ 40) (lo : List Nat) (H : Heap) : callA cfg O 14 [Rw enc nl tg l] lo H = some (I (wf l 0 l.length), H) := by
  refine callA_args (H' := []) (rs := [I (wf l 0 l.length)]) rfl rfl ?_ rfl
  rw [f14_eq]
  exact loop14 hb l.length 0 [] (by omega)

/-! ### Two lists alike -/
theorem loop16 {zs : List Int} {n1 n2 : Option Bool} {t1 t2 : Bool} (hb : zs.length < 2 ^ 40) : ∀ (m k : Nat), k + m = zs.length → L16_10 [V n1 t1 zs, V n2 t2 zs, I k] [] [] = some ([B true], []) := by
  intro m
  induction m with
  | zero =>
    intro k hk
    have : k = zs.length := by omega
    subst this
    rw [L16_10_eq]
    simp only [core, Int.lt_irrefl, leave0_B]
  | succ m ih =>
    intro k hk
    have h0 : (k : Int) < (zs.length : Int) := by omega
    have hkl : k < zs.length := by omega
    rw [L16_10_eq]
    simp only [core, h0, idxV hkl, ldV hkl]
    rw [wrap_id (by omega), nxt]
    exact ih (k + 1) (by omega)
theorem call16 {zs : List Int} {n1 n2 : Option Bool} {t1 t2 : Bool} (hb : zs.length < 2 ^ 40) (lo : List Nat) (H : Heap) : callA cfg O 16 [V n1 t1 zs, V n2 t2 zs] lo H = some (B true, H) := by
  refine callA_args (H' := []) (rs := [B true]) rfl rfl ?_ rfl
  rw [f16_eq]
  simp only [core]
  exact loop16 hb zs.length 0 (by omega)
end
end Wa
end Go.Proofs.Ytjncpgcbgdkflaa
