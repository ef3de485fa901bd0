import Derived.Test.YtangmjeafnkfaaaSmaT
set_option linter.unusedVariables false
set_option linter.unusedSimpArgs false
namespace Go.Proofs.Ytangmjeafnkfaaa
open Go Go.AM
namespace Sma

/-! ### SameInts -/
theorem sameLoop {n1 n2 : Option Bool} {t1 t2 : Bool} {zs : List Int} (hz : zs.length < 2 ^ 63) : ∀ (k i : Nat), zs.length - i = k → i ≤ zs.length → ∀ H, L17_10 [V n1 t1 zs, V n2 t2 zs, I i] [] H = some ([B true], H) := by
  intro k
  induction k with
  | zero =>
    intro i hk hi H
    have : i = zs.length := by omega
    subst this
    rw [L17_10_eq]
    simp [-Option.bind_some, obs]
  | succ k ih =>
    intro i hk hi H
    have hi' : i < zs.length := by omega
    have ix : ∀ (n : Option Bool) (t : Bool), idxA 1 (V n t zs) (I i) = some (.fp (zs.map Ia) i) := fun n t => by
      have := idxA_sl (sz := 1) (n := zs.length) (nl := n) (t := t) (xs := zs.map Ia) (j := (i : Int)) (by omega)
      simpa using this
    have hl : ld false 1 (.fp (zs.map Ia) i) H = some (I zs[i]) := by
      rw [ld_fp, List.getElem?_map, List.getElem?_eq_getElem hi']; rfl
    rw [L17_10_eq]
    simp only [lenA_sl, obs, bin_lss, cond_B]
    rw [if_pos (by simp <;> omega)]
    simp only [ix, hl, obs, bin_neq, decide_true, Bool.not_true, Bool.false_eq_true, if_false, cond_B, bin_add]
    rw [wrap_id (by omega), show (i : Int) + 1 = ((i + 1 : Nat) : Int) by omega]
    exact ih (i + 1) (by omega) (by omega) H

theorem ent17 {n1 n2 : Option Bool} {t1 t2 : Bool} {zs : List Int} (hz : zs.length < 2 ^ 63) : O.ent 17 [V n1 t1 zs, V n2 t2 zs] [] [] = some ([B true], []) := by
  rw [f17_eq]
  simp only [lenA_sl, obs, bin_neq, cond_B, decide_true, Bool.not_true, Bool.false_eq_true, if_false]
  exact sameLoop hz _ 0 rfl (by omega) _

theorem call17 {n1 : Option Bool} {t1 : Bool} {zs : List Int} {o : AV} {H : Heap} (hz : zs.length < 2 ^ 63) (h : Lst 1 o H zs.length (zs.map Ia)) (lo : List Nat) : callA cfg O 17 [V n1 t1 zs, o] lo H = some (B true, H) := by
  obtain ⟨hl, ⟨nl, rfl, h1⟩ | ⟨id, g, rfl, ho⟩⟩ := h
  · exact callA_args (H' := []) (rs := [B true]) rfl rfl (ent17 hz) rfl
  · refine callA_rows (H' := []) (rs := [B true]) (ys := [V n1 t1 zs, V none false zs]) (b := true) rfl ?_ (ent17 hz) rfl rfl
    have e : pureArg H (.row id g 0 zs.length) = some (V none false zs, true) := by
      simp only [pureArg, pureLeaf, ho]
      rw [if_pos (by simp), List.drop_zero, List.take_of_length_le (by simp)]
    simp only [pureArgs, e, obs, oms]
    rfl

section
variable {A N : Nat} {nv : Bool} {nl : Option Bool} {tg : Bool} {l : List Int}

/-! ### Min -/
def minE (l : List Int) (none nv : Bool) : Int := if 200 < l.length then 2 else if none = true ∨ nv = true then 8 else 0

theorem min51 (hk : Kn nl l) (none : Bool) {H : Heap} (hA : H[A]? = some (.box [I (0 : Nat)])) (hN : H[N]? = some (.box [B nv])) (hAN : A ≠ N) :
    ∃ x' H', ∃ k' : Nat, callA cfg O 51 [V nl tg l, if none = true then .p (.v .nilFunc) else cl A N] [] H = some (.tup [x', I k', I (minE l none nv)], H') ∧ (minE l none nv ≠ 0 → k' = 0) ∧ (minE l none nv = 0 → H'[A]? = some (.box [I k'])) ∧ lenA .slice x' H' = some (I 0) ∧
      H.length ≤ H'.length ∧ ∀ (j : Nat), j < H.length → j ≠ A → H'[j]? = H[j]? := by
  have lA := getElem?_lt hA
  have lN := getElem?_lt hN
  by_cases h2 : 200 < l.length
  · refine ⟨.p nilS, H, 0, callA_keep (rs := [.p nilS, I (0 : Nat), I (minE l none nv)]) rfl ?_, fun _ => rfl, fun e => ?_, rfl, Nat.le_refl _, fun _ _ _ => rfl⟩
    · rw [f51_eq]
      unfold minE
      simp only [lenA_sl, obs, bin_gtr, cond_B]
      rw [if_pos (by simp <;> omega), if_pos h2]
      rfl
    · unfold minE at e; rw [if_pos h2] at e; omega
  · cases none with
    | true =>
      have e8 : minE l true nv = 8 := by unfold minE; rw [if_neg h2]; simp
      refine ⟨.p nilS, H, 0, callA_keep (rs := [.p nilS, I (0 : Nat), I (minE l true nv)]) rfl ?_, fun _ => rfl, fun e => by omega, rfl, Nat.le_refl _, fun _ _ _ => rfl⟩
      rw [f51_eq, e8]
      simp only [lenA_sl, obs, bin_gtr, cond_B]
      rw [if_neg (by simp <;> omega)]
      rfl
    | false =>
      have hb : buildA [.p (.v .nilFunc), I 0] [(0, 1, cl A N)] = some (.agg [cl A N, I 0]) := rfl
      have hbx : boxO [] (AV.cells (.agg [cl A N, I 0])) H = some (.ptr H.length 0, H ++ [.box [cl A N, I (0 : Nat)]]) := by
        simp [boxO, boxA, AV.cells, AV.leaf]
      have hfn : bin .eql .fn (cl A N) (.p (.v .nilFunc)) = some (B false) := rfl
      have hS : St H.length A N nv 0 (H ++ [.box [cl A N, I (0 : Nat)]]) := ⟨by simp, push_get? hA _, push_get? hN _, by omega, by omega, hAN⟩
      have hx : Arg (V nl tg l) (H ++ [.box [cl A N, I (0 : Nat)]]) l := .inl ⟨nl, tg, hk, rfl⟩
      obtain ⟨H1, e1, S1, f1, len1⟩ := ask hS hx (by omega) (by omega)
      have lenp : (H ++ [AObj.box [cl A N, I (0 : Nat)]]).length = H.length + 1 := by simp
      have pre : O.ent 51 [V nl tg l, cl A N] [] H = AM.cond (B (!!nv)) (leave 1 [] [.p nilS, I 0, I 8] H1) ((callA cfg O 116 [V nl tg l] [] H1).bind fun r8 => (lenA .slice (V nl tg l) r8.2).bind fun x9 => (bin .quo .int x9 (I 2)).bind fun x10 => L51_22 [.ptr H.length 0, r8.1, x10] [] r8.2) := by
        rw [f51_eq]
        simp only [lenA_sl, obs, bin_gtr, cond_B]
        rw [if_neg (by simp <;> omega)]
        simp only [hfn, obs, cond_B, Bool.false_eq_true, if_false, hb, hbx, e1, un_not, lenA_sl]
      rw [if_neg (by simp)]
      cases nv with
      | true =>
        have e8 : minE l false true = 8 := by unfold minE; rw [if_neg h2]; simp
        refine ⟨.p nilS, H1, 0, callA_keep (rs := [.p nilS, I (0 : Nat), I (minE l false true)]) rfl ?_, fun _ => rfl, fun e => by omega, rfl, by omega, fun j hj hjA => ?_⟩
        · rw [pre, e8]
          rfl
        · rw [f1 j (by omega) (by omega) hjA, List.getElem?_append_left hj]
      | false =>
        have e0 : minE l false false = 0 := by unfold minE; rw [if_neg h2]; simp
        obtain ⟨o, H2, e2, ho⟩ := clone (x := V nl tg l) (H := H1) (zs := l) (.inl ⟨nl, tg, hk, rfl⟩) (by omega)
        have hfr : (∀ j, j < H1.length → H2[j]? = H1[j]?) ∧ H1.length ≤ H2.length ∧ ArgE o H2 l ∧ ∀ j, j < H1.length → ∀ g n, o ≠ .row j g 0 n := by
          rcases ho with ⟨rfl, rfl, rfl⟩ | ⟨rfl, rfl⟩
          · exact ⟨fun _ _ => rfl, Nat.le_refl _, .inl (.inl ⟨some true, true, .inr ⟨rfl, rfl⟩, rfl⟩), fun j hj g n e => by cases e⟩
          · refine ⟨fun j hj => by rw [List.getElem?_append_left hj], by simp, ?_, fun j hj g n e => by cases e; omega⟩
            by_cases hl0 : l = []
            · subst hl0
              exact .inr ⟨rfl, _, _, rfl⟩
            · exact .inl (.inr ⟨H1.length, 0, List.length_pos_iff.mpr hl0, rfl, by simp⟩)
        obtain ⟨g1, g2, g3, g4⟩ := hfr
        have S2 : St H.length A N false 1 H2 := by
          obtain ⟨s1, s2, s3, n1, n2, n3⟩ := S1
          exact ⟨(g1 _ (getElem?_lt s1)).trans s1, (g1 _ (getElem?_lt s2)).trans s2, (g1 _ (getElem?_lt s3)).trans s3, n1, n2, n3⟩
        obtain ⟨x', H3, k', e3, S3, A3, F3⟩ := firstLoop (q := H.length) (A := A) (N := N) rfl (l.length / 2) o H2 l 1 (by omega) (by omega) S2 g3 (by omega)
        refine ⟨x', H3, k', callA_keep (rs := [x', I k', I (minE l false false)]) rfl ?_, fun e => (e e0).elim, fun _ => S3.2.1, A3.len _, by have := F3.1; omega, fun j hj hjA => ?_⟩
        · have hq2 : bin .quo .int (I l.length) (I 2) = some (I (l.length / 2 : Nat)) := by
            show some (AV.p (.v (.int .i64 (IntKind.i64.wrap ((l.length : Int).tdiv 2))))) = _
            have : (l.length : Int).tdiv 2 = ((l.length / 2 : Nat) : Int) := by simp [Int.tdiv_eq_ediv_of_nonneg]
            rw [this, wrap_id (by omega)]
          rw [pre, e0]
          simp only [cond_B, Bool.not_false, Bool.not_true, Bool.false_eq_true, if_false, e2, obs, lenA_sl, hq2]
          exact e3
        · rw [F3.2 j (by omega) (by omega) hjA (g4 j (by omega)), g1 j (by omega), f1 j (by omega) (by omega) hjA, List.getElem?_append_left hj]

end
end Sma
end Go.Proofs.Ytangmjeafnkfaaa
