/- Watching a slot: the last write, the value, the writes. -/
import Derived.Test.YtjncpgcbgdkflaaWaS
import Derived.Test.YtjncpgcbgdkflaaAm38
set_option linter.unusedVariables false
set_option linter.unusedSectionVars false
set_option linter.unusedSimpArgs false
namespace Go.Proofs.Ytjncpgcbgdkflaa
open Go Go.AM
namespace Wa

theorem call34 (x : PV) (lo : List Nat) (H : Heap) : callA cfg O 34 [.p x] lo H = some (.fn 56 [] [.ptr H.length 0], H ++ [.box [.p x]]) := by
  have he : O.ent 34 [.p x] lo H = some ([.fn 56 [] [.ptr H.length 0]], H ++ [.box [.p x]]) := by
    rw [f34_eq]
    rfl
  have : callA cfg O 34 [.p x] lo H = (O.ent 34 [.p x] lo H).bind fun r => oneH H (ret r.1) r.2 := rfl
  rw [this, he]
  simp only [obs]
  unfold oneH
  rw [if_pos (.inr ⟨_, rfl⟩)]
  rfl
theorem rng_fn (q : AV) : rngIn (.fn 56 [] [q]) 56 = some q := _root_.id rfl

section
variable {l : List E} {nl : Option Bool} {tg : Bool}

theorem stE12 (e : E) (lo : List Nat) (H : Heap) : (stA 12 (.ptr H.length 0) (avE e) lo (H ++ [.box [(I 0), (I 0), (I 0), (I 0), (I 0), (I 0), (I 0), (I 0), (I 0), (I 0), (I 0), (I 0)]])) = some (H ++ [bxE e]) := stEA (ys := enc e) (n := 12) rfl rfl (by decide)
theorem box12 (H : Heap) : boxO [] [(I 0), (I 0), (I 0), (I 0), (I 0), (I 0), (I 0), (I 0), (I 0), (I 0), (I 0), (I 0)] H = some (.ptr H.length 0, H ++ [.box [(I 0), (I 0), (I 0), (I 0), (I 0), (I 0), (I 0), (I 0), (I 0), (I 0), (I 0), (I 0)]]) := rfl
theorem box2 (H : Heap) : boxO [] [(I 0), (I 0)] H = some (.ptr H.length 0, H ++ [.box [I 0, I 0]]) := rfl
theorem stE2 (a b : Int) (x : AV) (lo : List Nat) (H : Heap) : (stA 2 (.ptr H.length 0) (.agg [I a, I b]) lo (H ++ [.box [I 0, I 0]])) = some (H ++ [.box [I a, I b]]) := stEA (ys := [Ia a, Ia b]) (n := 2) rfl rfl (by decide)
theorem ldE12 (e : E) (H : Heap) : ld true 12 (.ptr H.length 0) (H ++ [bxE e]) = some (avE e) := bA (atE _ _)

def hp8 (c p : Int) (x : PV) (R : Heap) : Heap := [.box [I c], .box [I p], .box [I 0], .box [B false], .box [I 0], .box [.p x]] ++ R
theorem hp8_push (c p : Int) (x : PV) (R : Heap) (o : AObj) : hp8 c p x R ++ [o] = hp8 c p x (R ++ [o]) := rfl
theorem nat_pred (k : Nat) : IntKind.i64.wrap ((k + 1 : Nat) - 1 : Int) = IntKind.i64.wrap (k : Int) := by congr 1; omega

theorem loop8 {n : Nat} (hn : n ≤ l.length) (hb : n < 2 ^ 40) (c p : Int) : ∀ (k : Nat) (R : Heap), k ≤ n →
    L8_200002 [I ((k : Int) - 1), .ptr 5 0, .ptr 0 0, .ptr 1 0, .ptr 2 0, .ptr 3 0, .ptr 4 0] [] (hp8 c p (.sl nl tg (l.take n).length ((l.take n).flatMap enc)) R) = some ([I (max (lw l c p k) 0), B (decide (0 ≤ lw l c p k)), I 0], []) := by
  intro k
  induction k with
  | zero =>
    intro R _
    rw [L8_200002_eq]
    have h0 : ((0 : Nat) : Int) - 1 < 0 := by omega
    simp only [core, h0, lw]
    rfl
  | succ k ih =>
    intro R hk
    have hkl : k < (l.take n).length := by rw [List.length_take]; omega
    rw [L8_200002_eq]
    have h0 : ¬ (((k + 1 : Nat) : Int) - 1 < 0) := by omega
    have h1 : ((k + 1 : Nat) : Int) - 1 = (k : Int) := by omega
    have hq : ld false 1 (.ptr 5 0) (hp8 c p (.sl nl tg (l.take n).length ((l.take n).flatMap enc)) R) = some (Rw enc nl tg (l.take n)) := rfl
    have hg : (l.take n).getD k z0 = l.getD k z0 := by
      rw [List.getD_eq_getElem?_getD, List.getD_eq_getElem?_getD, List.getElem?_take, if_pos (by omega)]
    have hv := ldEv hkl (hp8 c p (.sl nl tg (l.take n).length ((l.take n).flatMap enc)) R)
    rw [hg] at hv
    simp only [core, h0]
    rw [h1, hq]
    simp only [core, idxE hkl, hv, box12, stE12, ldE12]
    rw [hp8_push]
    have l5 : ∀ R, ld false 1 (.ptr 0 0) (hp8 c p (.sl nl tg (l.take n).length ((l.take n).flatMap enc)) R) = some (I c) := fun _ => rfl
    have l6 : ∀ R, ld false 1 (.ptr 1 0) (hp8 c p (.sl nl tg (l.take n).length ((l.take n).flatMap enc)) R) = some (I p) := fun _ => rfl
    simp only [core, l5, l6, build2, call36]
    have hd : lw l c p (k + 1) = if wr (l.getD k z0) c p = true then (k : Int) else lw l c p k := rfl
    cases hw : wr (l.getD k z0) c p with
    | true =>
      rw [hd, hw]
      simp only [core]
      have e1 : max (k : Int) 0 = k := by omega
      have e2 : decide (0 ≤ (k : Int)) = true := by simp
      rw [e1, e2]
      rfl
    | false =>
      rw [hd, hw]
      simp only [core]
      rw [wrap_id (by omega)]
      exact ih _ (by omega)

theorem call8 (c p a : Int) (lo : List Nat) (H : Heap) : callA cfg O 8 [Rw enc nl tg l, I c, I p, I a] lo H =
    some (if chk l.length a = 0 then .tup [I (max (lw l c p a.toNat) 0), B (decide (0 ≤ lw l c p a.toNat)), I 0] else .tup [I 0, B false, I (chk l.length a)], H) := by
  have he : O.ent 8 [Rw enc nl tg l, I c, I p, I a] [] [] = some (if chk l.length a = 0 then [I (max (lw l c p a.toNat) 0), B (decide (0 ≤ lw l c p a.toNat)), I 0] else [I 0, B false, I (chk l.length a)], []) := by
    rw [f8_eq]
    have b1 : boxO [] (AV.cells (I c)) [] = some (.ptr 0 0, [.box [I c]]) := rfl
    have b2 : boxO [] (AV.cells (I p)) [.box [I c]] = some (.ptr 1 0, [.box [I c], .box [I p]]) := rfl
    have b3 : boxO [] [I 0] [.box [I c], .box [I p]] = some (.ptr 2 0, [.box [I c], .box [I p], .box [I 0]]) := rfl
    have b4 : boxO [] [B false] [.box [I c], .box [I p], .box [I 0]] = some (.ptr 3 0, [.box [I c], .box [I p], .box [I 0], .box [B false]]) := rfl
    have b5 : boxO [] [I 0] [.box [I c], .box [I p], .box [I 0], .box [B false]] = some (.ptr 4 0, [.box [I c], .box [I p], .box [I 0], .box [B false], .box [I 0]]) := rfl
    simp only [core, b1, b2, b3, b4, b5, call33]
    by_cases h : chk l.length a = 0
    · have hr := chk_ok h
      rw [if_pos h]
      obtain ⟨n, rfl⟩ : ∃ n : Nat, a = n := ⟨a.toNat, by omega⟩
      have hn : n ≤ l.length := by omega
      simp only [core, h, cutR_hi hE hn, call34, rng_fn]
      have := loop8 (l := l) (nl := nl) (tg := tg && decide ((n : Int) = l.length)) hn (by omega) c p n [] (Nat.le_refl _)
      have hq : ld false 1 (.ptr ([.box [I c], .box [I p], .box [I 0], .box [B false], .box [I 0]] : Heap).length 0) ([.box [I c], .box [I p], .box [I 0], .box [B false], .box [I 0]] ++ [.box [Rw enc nl (tg && decide ((n : Int) = l.length)) (l.take n)]]) = some (Rw enc nl (tg && decide ((n : Int) = l.length)) (l.take n)) := rfl
      rw [hq]
      have hln : ((l.take n).length : Int) = n := by rw [List.length_take]; omega
      simp only [core]
      rw [hln, wrap_id (by omega)]
      exact this
    · rw [if_neg h]
      simp only [core, h]
      rfl
  refine (callA_args (H' := []) rfl rfl he ?_).trans ?_
  · split <;> rfl
  · split <;> rfl

end
end Wa
end Go.Proofs.Ytjncpgcbgdkflaa
