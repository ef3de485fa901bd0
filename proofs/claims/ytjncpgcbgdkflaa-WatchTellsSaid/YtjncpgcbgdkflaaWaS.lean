/- Watching a slot: the walks of what is asked of one event, and of the first half of the calls. -/
import Derived.Test.YtjncpgcbgdkflaaEWatchTells
import Derived.Test.YtjncpgcbgdkflaaTy
import Derived.Test.YtjncpgcbgdkflaaAm30
set_option linter.unusedVariables false
set_option linter.unusedSectionVars false
set_option linter.unusedSimpArgs false
namespace Go.Proofs.Ytjncpgcbgdkflaa
open Go Go.AM
namespace Wa

abbrev E := A_Event
abbrev enc := enc_Event
theorem hE (p : E) : (enc p).length = 12 := rfl
abbrev avE (e : E) : AV := .agg ((enc e).map .p)
abbrev bxE (e : E) : AObj := .box ((enc e).map .p)
abbrev avV (v : A_Val) : AV := .agg [I v.1, I v.2]
def z0 : E := (0, 0, 0, 0, 0, 0, 0, 0, (0, 0), (0, 0))
def kd (e : E) : Int := e.1
def ea (e : E) : Int := e.2.2.2.2.2.2.1
def eb (e : E) : Int := e.2.2.2.2.2.2.2.1
def vl (e : E) : A_Val := e.2.2.2.2.2.2.2.2.1
def od (e : E) : A_Val := e.2.2.2.2.2.2.2.2.2

theorem c0 (e : E) : ((enc e).map AV.p)[0]? = some (I (kd e)) := _root_.id rfl
theorem c6 (e : E) : ((enc e).map AV.p)[6]? = some (I (ea e)) := _root_.id rfl
theorem c7 (e : E) : ((enc e).map AV.p)[7]? = some (I (eb e)) := _root_.id rfl
theorem c8 (e : E) : ((((enc e).map AV.p).drop 8).take 2) = [I (vl e).1, I (vl e).2] := _root_.id rfl
theorem c10 (e : E) : ((((enc e).map AV.p).drop 10).take 2) = [I (od e).1, I (od e).2] := _root_.id rfl

section
variable {l : List E} {nl : Option Bool} {tg : Bool}
theorem getl {i : Nat} (h : i < l.length) : l[i] = l.getD i z0 := by simp [List.getD_eq_getElem?_getD, h]
theorem idxE {i : Nat} (h : i < l.length) : idxA 12 (Rw enc nl tg l) (I i) = some (.fp (l.flatMap enc) (i * 12)) := idxR h
theorem ldEv {i : Nat} (h : i < l.length) (H : Heap) : ld true 12 (.fp (l.flatMap enc) (i * 12)) H = some (avE (l.getD i z0)) := by rw [ldR hE h, getl h]
end

theorem b0 {H : Heap} {id : Nat} {e : E} (h : H[id]? = some (bxE e)) : ld false 1 (.ptr id (0 + 0)) H = some (I (kd e)) := by rw [ld_box h]; rfl
theorem b6 {H : Heap} {id : Nat} {e : E} (h : H[id]? = some (bxE e)) : ld false 1 (.ptr id (0 + 6)) H = some (I (ea e)) := by rw [ld_box h]; rfl
theorem b7 {H : Heap} {id : Nat} {e : E} (h : H[id]? = some (bxE e)) : ld false 1 (.ptr id (0 + 7)) H = some (I (eb e)) := by rw [ld_box h]; rfl
theorem b8 {H : Heap} {id : Nat} {e : E} (h : H[id]? = some (bxE e)) : ld true 2 (.ptr id (0 + 8)) H = some (avV (vl e)) := by rw [ldAgg_box h (by rw [List.length_map, hE]; decide) (by rw [List.length_map, hE]; decide)]; rfl
theorem b10 {H : Heap} {id : Nat} {e : E} (h : H[id]? = some (bxE e)) : ld true 2 (.ptr id (0 + 10)) H = some (avV (od e)) := by rw [ldAgg_box h (by rw [List.length_map, hE]; decide) (by rw [List.length_map, hE]; decide)]; rfl
theorem bA {H : Heap} {id : Nat} {e : E} (h : H[id]? = some (bxE e)) : ld true 12 (.ptr id 0) H = some (avE e) := by rw [ldAgg_box h (by rw [List.length_map, hE]; decide) (by rw [List.length_map, hE]; decide)]; rfl
abbrev bxV (v : A_Val) : AObj := .box [I v.1, I v.2]
theorem bV {H : Heap} {id : Nat} {v : A_Val} (h : H[id]? = some (bxV v)) : ld true 2 (.ptr id 0) H = some (avV v) := by rw [ldAgg_box h (by simp) (by simp)]; rfl

theorem eq2 (a b c d : Int) : bin .eql (.agg 2 [(0, .int), (1, .int)]) (.agg [I a, I b]) (.agg [I c, I d]) = some (B (decide (a = c ∧ b = d))) := by
  have : bin .eql (.agg 2 [(0, .int), (1, .int)]) (.agg [I a, I b]) (.agg [I c, I d]) = some (B ((a == c) && ((b == d) && true))) := rfl
  rw [this]
  by_cases h1 : a = c <;> by_cases h2 : b = d <;> simp [h1, h2]
theorem ne2 (a b c d : Int) : bin .neq (.agg 2 [(0, .int), (1, .int)]) (.agg [I a, I b]) (.agg [I c, I d]) = some (B (!decide (a = c ∧ b = d))) := by
  have : bin .neq (.agg 2 [(0, .int), (1, .int)]) (.agg [I a, I b]) (.agg [I c, I d]) = some (B !((a == c) && ((b == d) && true))) := rfl
  rw [this]
  by_cases h1 : a = c <;> by_cases h2 : b = d <;> simp [h1, h2]
theorem build2 (a b : Int) : buildA [I 0, I 0] [(0, 1, I a), (1, 1, I b)] = some (.agg [I a, I b]) := rfl
theorem build0 : buildA [I 0, I 0] [] = some (.agg [I 0, I 0]) := rfl
theorem boxE0 (e : E) : boxO [] (AV.cells (avE e)) [] = some (.ptr 0 0, [bxE e]) := boxO_p (enc e) []
theorem boxE1 (e : E) (o : AObj) : boxO [] (AV.cells (avE e)) [o] = some (.ptr 1 0, [o, bxE e]) := boxO_p (enc e) [o]
theorem pureE (e : E) (H : Heap) : pureArg H (avE e) = some (avE e, false) := rfl

/-! ### of, writes, IsAt, check -/
def sl (e : E) : Bool := decide (kd e = 3) || decide (kd e = 4)
def wr (e : E) (c p : Int) : Bool := decide (kd e = 4) && (decide (ea e = c) && decide (eb e = p))
def at' (e : E) (k c p : Int) : Bool := decide (kd e = k) && (decide (ea e = c) && decide (eb e = p))

theorem call35 (e : E) (lo : List Nat) (H : Heap) : callA cfg O 35 [avE e] lo H = some (.tup [.agg [I (ea e), I (eb e)], B (sl e)], H) := by
  refine callA_args (H' := []) (rs := [.agg [I (ea e), I (eb e)], B (sl e)]) rfl rfl ?_ rfl
  rw [f35_eq, boxE0]
  have e2 : boxO [] [I 0, I 0] [bxE e] = some (.ptr 1 0, [bxE e, .box [I 0, I 0]]) := rfl
  have l6 : ld false 1 (.ptr 0 (0 + 6)) [bxE e, .box [I 0, I 0]] = some (I (ea e)) := b6 rfl
  have l7 : ld false 1 (.ptr 0 (0 + 7)) [bxE e, .box [I 0, I 0]] = some (I (eb e)) := b7 rfl
  have l0 : ld false 1 (.ptr 0 (0 + 0)) [bxE e, .box [I 0, I 0]] = some (I (kd e)) := b0 rfl
  have l0x : ldX false 1 (.ptr 0 (0 + 0)) [bxE e, .box [I 0, I 0]] = some (I (kd e)) := by
    unfold ldX
    simp only
    rw [if_neg (by simp)]
    exact l0
  have st : stX 2 (.ptr 1 0) (.agg [I (ea e), I (eb e)]) [] [bxE e, .box [I 0, I 0]] = some [bxE e, .box [I (ea e), I (eb e)]] := rfl
  have lr : ld true 2 (.ptr 1 0) [bxE e, .box [I (ea e), I (eb e)]] = some (.agg [I (ea e), I (eb e)]) := rfl
  have lv : ∀ b, leave 0 [] [.agg [I (ea e), I (eb e)], B b] [bxE e, .box [I (ea e), I (eb e)]] = some ([.agg [I (ea e), I (eb e)], B b], []) := fun _ => rfl
  simp only [core, e2, l6, l7, l0, l0x, build2]
  by_cases h3 : kd e = 3
  · simp only [core, h3, st, lr, lv, sl, Bool.true_or]
  · simp only [core, h3, l0x, st, lr, lv, sl, Bool.false_or]

theorem call36 (c p : Int) (e : E) (lo : List Nat) (H : Heap) : callA cfg O 36 [.agg [I c, I p], avE e] lo H = some (B (wr e c p), H) := by
  refine callA_args (H' := []) (rs := [B (wr e c p)]) rfl rfl ?_ rfl
  rw [f36_eq]
  have e1 : boxO [] (AV.cells (.agg [I c, I p])) [] = some (.ptr 0 0, [.box [I c, I p]]) := rfl
  rw [e1]
  simp only [core, boxE1]
  have l1 : ld true 12 (.ptr 1 0) [.box [I c, I p], bxE e] = some (avE e) := bA rfl
  have e2 : boxO [] [I 0, I 0] [.box [I c, I p], bxE e] = some (.ptr 2 0, [.box [I c, I p], bxE e, .box [I 0, I 0]]) := rfl
  have st : stA 2 (.ptr 2 0) (.agg [I (ea e), I (eb e)]) [] [.box [I c, I p], bxE e, .box [I 0, I 0]] = some [.box [I c, I p], bxE e, .box [I (ea e), I (eb e)]] := rfl
  have l2 : ld true 2 (.ptr 2 0) [.box [I c, I p], bxE e, .box [I (ea e), I (eb e)]] = some (.agg [I (ea e), I (eb e)]) := rfl
  have l3 : ld true 2 (.ptr 0 0) [.box [I c, I p], bxE e, .box [I (ea e), I (eb e)]] = some (.agg [I c, I p]) := rfl
  have l4 : ld false 1 (.ptr 1 (0 + 0)) [.box [I c, I p], bxE e, .box [I (ea e), I (eb e)]] = some (I (kd e)) := b0 rfl
  simp only [core, l1, call35, e2, st]
  have hs : sl e = (decide (kd e = 3) || decide (kd e = 4)) := rfl
  have hw : wr e c p = (decide (kd e = 4) && decide (ea e = c ∧ eb e = p)) := by
    unfold wr
    by_cases hc : ea e = c <;> by_cases hp : eb e = p <;> simp [hc, hp]
  rw [hw]
  by_cases h4 : kd e = 4
  · have hs' : sl e = true := by rw [hs]; simp [h4]
    cases hq : decide (ea e = c ∧ eb e = p) <;> simp only [core, hs', l2, l3, eq2, hq, l4, h4, leave0_B, Bool.true_and, Bool.and_false]
  · by_cases h3 : kd e = 3
    · have hs' : sl e = true := by rw [hs]; simp [h3]
      cases hq : decide (ea e = c ∧ eb e = p) <;> simp only [core, hs', l2, l3, eq2, hq, l4, h4, leave0_B, Bool.true_and, Bool.false_and, Bool.and_false]
    · have hs' : sl e = false := by rw [hs]; simp [h3, h4]
      simp only [core, hs', h4, leave0_B, Bool.false_and]

theorem call15 (e : E) (k c p : Int) (lo : List Nat) (H : Heap) : callA cfg O 15 [avE e, I k, I c, I p] lo H = some (B (at' e k c p), H) := by
  refine callA_args (H' := []) (rs := [B (at' e k c p)]) rfl rfl ?_ rfl
  rw [f15_eq, boxE0]
  have l0 : ld false 1 (.ptr 0 (0 + 0)) [bxE e] = some (I (kd e)) := b0 rfl
  have l6 : ld false 1 (.ptr 0 (0 + 6)) [bxE e] = some (I (ea e)) := b6 rfl
  have l7 : ld false 1 (.ptr 0 (0 + 7)) [bxE e] = some (I (eb e)) := b7 rfl
  unfold at'
  by_cases h1 : kd e = k <;> by_cases h2 : ea e = c <;> by_cases h3 : eb e = p <;> simp only [core, h1, h2, h3, l0, l6, l7, leave0_B, Bool.true_and, Bool.false_and, Bool.and_false]

def chk (n : Nat) (at_ : Int) : Int := if 200 < n then 2 else if at_ < 0 ∨ (n : Int) < at_ then 1 else 0
theorem chk_ok {n : Nat} {a : Int} (h : chk n a = 0) : n ≤ 200 ∧ 0 ≤ a ∧ a ≤ n := by
  unfold chk at h
  split at h
  · omega
  · split at h <;> omega
theorem call33 {nl : Option Bool} {tg : Bool} (l : List E) (a : Int) (lo : List Nat) (H : Heap) : callA cfg O 33 [Rw enc nl tg l, I a] lo H = some (I (chk l.length a), H) := by
  refine callA_args (H' := []) (rs := [I (chk l.length a)]) rfl rfl ?_ rfl
  rw [f33_eq]
  unfold chk
  by_cases h1 : (200 : Int) < l.length
  · simp only [core, h1, leave0_I, if_pos (show 200 < l.length by omega)]
  · rw [if_neg (show ¬ 200 < l.length by omega)]
    by_cases h2 : a < 0
    · simp only [core, h1, h2, leave0_I, true_or]
    · by_cases h3 : (l.length : Int) < a <;> simp only [core, h1, h2, h3, leave0_I, or_self, false_or]
theorem call37 (a b c : Int) (lo : List Nat) (H : Heap) : callA cfg O 37 [I a, I b, I c] lo H = some (B (decide (b ≤ a ∧ a ≤ c)), H) := by
  refine callA_args (H' := []) (rs := [B (decide (b ≤ a ∧ a ≤ c))]) rfl rfl ?_ rfl
  rw [f37_eq]
  by_cases h1 : b ≤ a <;> by_cases h2 : a ≤ c <;> simp only [core, h1, h2, leave0_B, and_true, and_false, true_and, false_and]
theorem call11 {nl : Option Bool} {tg : Bool} (l : List E) (a : Int) (lo : List Nat) (H : Heap) : callA cfg O 11 [Rw enc nl tg l, I a] lo H = some (I (chk l.length a), H) := by
  refine callA_args (H' := []) (rs := [I (chk l.length a)]) rfl rfl ?_ rfl
  rw [f11_eq]
  unfold chk
  by_cases h1 : (200 : Int) < l.length
  · simp only [core, h1, leave0_I, if_pos (show 200 < l.length by omega)]
  · rw [if_neg (show ¬ 200 < l.length by omega)]
    by_cases h2 : a < 0 ∨ (l.length : Int) < a
    · have : ¬ (0 ≤ a ∧ a ≤ l.length) := by omega
      simp only [core, h1, call37, this, leave0_I, if_pos h2]
    · have : 0 ≤ a ∧ a ≤ l.length := by omega
      simp only [core, h1, call37, this, leave0_I, if_neg h2, and_self]

/-! ### What is known -/
/-- The last write ahead of place k; -1: none. -/
def lw (l : List E) (c p : Int) : Nat → Int
  | 0 => -1
  | k + 1 => if wr (l.getD k z0) c p = true then k else lw l c p k
/-- What was seen last ahead of place k. -/
def kn (l : List E) (c p : Int) : Nat → Option A_Val
  | 0 => none
  | k + 1 => if (at' (l.getD k z0) 3 c p || at' (l.getD k z0) 4 c p) = true then some (vl (l.getD k z0)) else kn l c p k
/-- What is seen first from place k on, m places. -/
def fw (l : List E) (c p : Int) : Nat → Nat → Option A_Val
  | _, 0 => none
  | k, m + 1 => if at' (l.getD k z0) 4 c p = true then some (od (l.getD k z0)) else if at' (l.getD k z0) 3 c p = true then some (vl (l.getD k z0)) else fw l c p (k + 1) m
def ow (o : Option A_Val) : A_Val := o.getD (0, 0)

theorem wr_at (e : E) (c p : Int) : wr e c p = at' e 4 c p := rfl
theorem sl_at (e : E) (c p : Int) : (sl e && decide (ea e = c ∧ eb e = p)) = (at' e 3 c p || at' e 4 c p) := by
  unfold sl at'
  by_cases h1 : kd e = 3 <;> by_cases h2 : kd e = 4 <;> by_cases h3 : ea e = c <;> by_cases h4 : eb e = p <;> simp [h1, h2, h3, h4]

theorem lw_range (l : List E) (c p : Int) : ∀ k, -1 ≤ lw l c p k ∧ lw l c p k < k := by
  intro k
  induction k with
  | zero => unfold lw; omega
  | succ k ih => unfold lw; split <;> omega

end Wa
end Go.Proofs.Ytjncpgcbgdkflaa
