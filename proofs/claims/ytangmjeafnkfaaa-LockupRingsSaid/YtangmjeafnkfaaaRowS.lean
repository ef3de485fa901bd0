import Derived.Test.YtangmjeafnkfaaaERowsTells
import Derived.Test.YtangmjeafnkfaaaTy
import Derived.Test.YtangmjeafnkfaaaAm24
set_option linter.unusedVariables false
set_option linter.unusedSimpArgs false
namespace Go.Proofs.Ytangmjeafnkfaaa
open Go Go.AM

theorem between_ent (a b c : Int) : O.ent 61 [I a, I b, I c] [] [] = some ([B (decide (b ≤ a) && decide (a ≤ c))], []) := by
  rw [f61_eq]
  by_cases h : b ≤ a <;> simp [h]

theorem between_eq (a b c : Int) (lo : List Nat) (H : Heap) : callA cfg O 61 [I a, I b, I c] lo H = some (B (decide (b ≤ a) && decide (a ≤ c)), H) :=
  callA_pure (xs := [Ia a, Ia b, Ia c]) rfl (between_ent a b c) rfl

/-! ### Two lists held against each other -/
theorem L17_go {n1 n2 : Option Bool} {t1 t2 : Bool} {a b : List Int} (hab : a.length = b.length) (hz : a.length < 2 ^ 63) : ∀ (k i : Nat), a.length - i = k → i ≤ a.length → ∀ H, L17_10 [V n1 t1 a, V n2 t2 b, I i] [] H = some ([B (decide (a.drop i = b.drop i))], []) := by
  intro k
  induction k with
  | zero =>
    intro i hk hi H
    have : i = a.length := by omega
    subst this
    rw [L17_10_eq]
    simp [-Option.bind_some, obs, hab]
  | succ k ih =>
    intro i hk hi H
    have hi' : i < a.length := by omega
    have hb' : i < b.length := by omega
    rw [L17_10_eq]
    simp only [lenA_sl, obs, bin_lss, cond_B]
    rw [if_pos (by simp <;> omega), idxV hi', obs, ldV hi', obs, idxV hb', obs, ldV hb']
    simp only [obs, bin_neq, cond_B, bin_add]
    rw [wrap_id (by omega), nxt, ih (i + 1) (by omega) (by omega) H]
    rw [List.drop_eq_getElem_cons hi', List.drop_eq_getElem_cons hb']
    simp only [List.cons.injEq]
    by_cases h : a[i] = b[i]
    · simp only [h, true_and, decide_true, Bool.not_true, Bool.false_eq_true, if_false]
    · simp only [h, false_and, decide_false, Bool.not_false, if_true]
      rfl

theorem ent17 {n1 n2 : Option Bool} {t1 t2 : Bool} {a b : List Int} (hz : a.length < 2 ^ 63) : O.ent 17 [V n1 t1 a, V n2 t2 b] [] [] = some ([B (decide (a = b))], []) := by
  rw [f17_eq]
  simp only [lenA_sl, obs, bin_neq, cond_B]
  by_cases h : a.length = b.length
  · have := L17_go (n1 := n1) (n2 := n2) (t1 := t1) (t2 := t2) h hz _ 0 rfl (by omega) []
    simp only [h, decide_true, Bool.not_true, Bool.false_eq_true, if_false]
    simpa using this
  · have h' : ¬ (a.length : Int) = b.length := by omega
    have : a ≠ b := fun e => h (by rw [e])
    simp [h', this]

theorem call17 {n1 n2 : Option Bool} {t1 t2 : Bool} {a b : List Int} {lo : List Nat} {H : Heap} (hz : a.length < 2 ^ 63) : callA cfg O 17 [V n1 t1 a, V n2 t2 b] lo H = some (B (decide (a = b)), H) :=
  callA_args (H' := []) (rs := [B (decide (a = b))]) rfl rfl (ent17 hz) rfl

/-- A list against one under way. -/
theorem call17L {n1 : Option Bool} {t1 : Bool} {a b : List Int} {o : AV} {H : Heap} (hz : a.length < 2 ^ 63) (h : Lst 1 o H b.length (b.map Ia)) (lo : List Nat) : callA cfg O 17 [V n1 t1 a, o] lo H = some (B (decide (a = b)), H) := by
  obtain ⟨n2, t2, q, e⟩ := pureLst h
  refine callA_rows (H' := []) (rs := [B (decide (a = b))]) (ys := [V n1 t1 a, V n2 t2 b]) (b := false || (q || false)) rfl ?_ (ent17 hz) rfl rfl
  simp only [pureArgs, e, obs, oms]
  rfl

theorem L25_go {n1 n2 : Option Bool} {t1 t2 : Bool} {a b : List Dd} (hab : a.length = b.length) (hz : a.length < 2 ^ 63) (hs : ∀ p ∈ a, p.2.2.length < 2 ^ 63) (lo : List Nat) : ∀ (k i : Nat), a.length - i = k → i ≤ a.length → ∀ H, L25_10 [W n1 t1 a, W n2 t2 b, I i] lo H = some ([B (decide ((ints a).drop i = (ints b).drop i))], []) := by
  intro k
  induction k with
  | zero =>
    intro i hk hi H
    have : i = a.length := by omega
    subst this
    rw [L25_10_eq, List.drop_eq_nil_of_le (by simp [ints]), List.drop_eq_nil_of_le (by simp [ints, hab])]
    simp [-Option.bind_some, obs]
  | succ k ih =>
    intro i hk hi H
    have hi' : i < a.length := by omega
    have hb' : i < b.length := by omega
    rw [L25_10_eq]
    simp only [lenA_sl, obs, bin_lss, cond_B]
    rw [if_pos (by simp <;> omega), idxW hi', obs, ldW hi', obs, idxW hb', obs, ldW hb']
    simp only [obs, call17 (hs _ (List.getElem_mem hi')), un_not, cond_B, bin_add]
    rw [wrap_id (by omega), nxt, ih (i + 1) (by omega) (by omega) H]
    have e1 : (ints a).drop i = a[i].2.2 :: (ints a).drop (i + 1) := by
      rw [List.drop_eq_getElem_cons (by simpa [ints] using hi')]; simp [ints]
    have e2 : (ints b).drop i = b[i].2.2 :: (ints b).drop (i + 1) := by
      rw [List.drop_eq_getElem_cons (by simpa [ints] using hb')]; simp [ints]
    rw [e1, e2]
    simp only [List.cons.injEq]
    by_cases h : a[i].2.2 = b[i].2.2
    · simp only [h, true_and, decide_true, Bool.not_true, Bool.false_eq_true, if_false]
    · simp only [h, false_and, decide_false, Bool.not_false, if_true]
      rfl

theorem ent25 {n1 n2 : Option Bool} {t1 t2 : Bool} {a b : List Dd} (hz : a.length < 2 ^ 63) (hs : ∀ p ∈ a, p.2.2.length < 2 ^ 63) : O.ent 25 [W n1 t1 a, W n2 t2 b] [] [] = some ([B (decide (ints a = ints b))], []) := by
  rw [f25_eq]
  simp only [lenA_sl, obs, bin_neq, cond_B]
  by_cases h : a.length = b.length
  · have := L25_go (n1 := n1) (n2 := n2) (t1 := t1) (t2 := t2) h hz hs [] _ 0 rfl (by omega) []
    simp only [h, decide_true, Bool.not_true, Bool.false_eq_true, if_false]
    simpa using this
  · have h' : ¬ (a.length : Int) = b.length := by omega
    have : ints a ≠ ints b := fun e => h (by simpa [ints] using congrArg List.length e)
    simp [h', this]

theorem call25L {n1 : Option Bool} {t1 : Bool} {a b : List Dd} {o : AV} {H : Heap} (hz : a.length < 2 ^ 63) (hs : ∀ p ∈ a, p.2.2.length < 2 ^ 63) (h : Lst 1 o H b.length (b.map us)) (lo : List Nat) : callA cfg O 25 [W n1 t1 a, o] lo H = some (B (decide (ints a = ints b)), H) := by
  obtain ⟨n2, t2, q, e⟩ := pureLst h
  refine callA_rows (H' := []) (rs := [B (decide (ints a = ints b))]) (ys := [W n1 t1 a, W n2 t2 b]) (b := false || (q || false)) rfl ?_ (ent25 hz hs) rfl rfl
  simp only [pureArgs, e, obs, oms]
  rfl

/-! ### Events -/
abbrev Ev := A_Event
abbrev L (nl : Option Bool) (tg : Bool) (l : List Ev) : AV := .p (.sl nl tg l.length (l.flatMap enc_Event))
section
variable {nl : Option Bool} {tg : Bool} {l : List Ev}
theorem idxL {k : Nat} (h : k < l.length) : idxA 12 (L nl tg l) (I k) = some (.fp (l.flatMap enc_Event) (k * 12)) := by
  have := idxA_sl (sz := 12) (n := l.length) (nl := nl) (t := tg) (xs := l.flatMap enc_Event) (j := (k : Int)) (by omega)
  simpa using this
theorem fldL {k j : Nat} (h : k < l.length) (hj : j < 12) (H : Heap) : ld false 1 (.fp (l.flatMap enc_Event) (k * 12 + j)) H = ((enc_Event l[k])[j]?).map .p := by
  rw [ld_fp, rows_get (f := enc_Event) (k := 12) len_Event (p := l[k]) (by simp [h]) hj]
theorem fld0 {k : Nat} (h : k < l.length) (H : Heap) : ld false 1 (.fp (l.flatMap enc_Event) (k * 12 + 0)) H = some (I l[k].1) := fldL h (by omega) H
theorem fld1 {k : Nat} (h : k < l.length) (H : Heap) : ld false 1 (.fp (l.flatMap enc_Event) (k * 12 + 1)) H = some (I l[k].2.1) := fldL h (by omega) H
theorem fld2 {k : Nat} (h : k < l.length) (H : Heap) : ld false 1 (.fp (l.flatMap enc_Event) (k * 12 + 2)) H = some (I l[k].2.2.1) := fldL h (by omega) H
def ag (e : Ev) : AV := .agg ((enc_Event e).map .p)
theorem ldE {k : Nat} (h : k < l.length) (H : Heap) : ld true 12 (.fp (l.flatMap enc_Event) (k * 12)) H = some (ag l[k]) := by
  rw [ldAgg_fp (by rw [rows_length len_Event]; omega), rows_part (f := enc_Event) (k := 12) len_Event (p := l[k]) (by simp [h])]
  rfl
end

def bx (e : Ev) : AObj := .box ((enc_Event e).map .p)
theorem boxE (H : Heap) : boxO [] [(I 0), (I 0), (I 0), (I 0), (I 0), (I 0), (I 0), (I 0), (I 0), (I 0), (I 0), (I 0)] H = some (.ptr H.length 0, H ++ [.box ((List.replicate 12 (Ia 0)).map .p)]) := boxO_p (List.replicate 12 (Ia 0)) H
theorem boxAg (e : Ev) (H : Heap) : boxO [] (AV.cells (ag e)) H = some (.ptr H.length 0, H ++ [bx e]) := boxO_p (enc_Event e) H
theorem stE (e : Ev) (lo : List Nat) (H : Heap) : stA 12 (.ptr H.length 0) (ag e) lo (H ++ [.box ((List.replicate 12 (Ia 0)).map .p)]) = some (H ++ [bx e]) :=
  stA_new (n := 12) rfl (len_Event e) (by omega)
theorem ldB {H : Heap} (e : Ev) {j : Nat} : ld false 1 (.ptr H.length j) (H ++ [bx e]) = ((enc_Event e)[j]?).map .p := by
  rw [ld_box (xs := (enc_Event e).map .p) (by simp [bx]), List.getElem?_map]
theorem ldB0 {H : Heap} (e : Ev) : ld false 1 (.ptr H.length (0 + 0)) (H ++ [bx e]) = some (I e.1) := ldB e
theorem ldB1 {H : Heap} (e : Ev) : ld false 1 (.ptr H.length (0 + 1)) (H ++ [bx e]) = some (I e.2.1) := ldB e
theorem ldB2 {H : Heap} (e : Ev) : ld false 1 (.ptr H.length (0 + 2)) (H ++ [bx e]) = some (I e.2.2.1) := ldB e
theorem ldBE {H : Heap} (e : Ev) : ld true 12 (.ptr H.length 0) (H ++ [bx e]) = some (ag e) := by
  rw [ldAgg_box (xs := (enc_Event e).map .p) (by simp [bx]) (by simp [len_Event]) (by simp [len_Event])]
  rw [List.drop_zero, List.take_of_length_le (by simp [len_Event])]
  rfl

end Go.Proofs.Ytangmjeafnkfaaa
