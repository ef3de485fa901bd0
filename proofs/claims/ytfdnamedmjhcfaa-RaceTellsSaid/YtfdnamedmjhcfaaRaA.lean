import Derived.Test.YtfdnamedmjhcfaaCkA
import Derived.Test.YtfdnamedmjhcfaaERaceTells
import Derived.Test.YtfdnamedmjhcfaaAm21
/- Races: two events that meet; whether a list has a number; the search in a rising list. -/
set_option linter.unusedVariables false
set_option linter.unusedSimpArgs false
namespace Go.Proofs.Ytfdnamedmjhcfaa
open Go Go.AM Go.AM.Ck Cl
namespace Ra

def kd (e : E) : Int := e.1
def th (e : E) : Int := e.2.2.1
def ea (e : E) : Int := e.2.2.2.2.2.2.1
def eb (e : E) : Int := e.2.2.2.2.2.2.2.1
def mt (a b : E) : Bool := !decide (th a = th b) && (decide (ea a = ea b) && (decide (eb a = eb b) && (decide (kd a = 4) && (decide (kd b = 3) || decide (kd b = 4)) || decide (kd a = 3) && decide (kd b = 4))))

section
variable {H : Heap} {id : Nat} {e : E}
theorem b0 (h : H[id]? = some (bxE e)) : ld false 1 (.ptr id (0 + 0)) H = some (I (kd e)) := by rw [ld_box h]; rfl
theorem b2 (h : H[id]? = some (bxE e)) : ld false 1 (.ptr id (0 + 2)) H = some (I (th e)) := by rw [ld_box h]; rfl
theorem b6 (h : H[id]? = some (bxE e)) : ld false 1 (.ptr id (0 + 6)) H = some (I (ea e)) := by rw [ld_box h]; rfl
theorem b7 (h : H[id]? = some (bxE e)) : ld false 1 (.ptr id (0 + 7)) H = some (I (eb e)) := by rw [ld_box h]; rfl
theorem bAll (h : H[id]? = some (bxE e)) : ld true 12 (.ptr id 0) H = some (avE e) := by rw [ldAgg_box h (by rw [List.length_map, hE]; decide) (by rw [List.length_map, hE]; decide)]; rfl
end
theorem boxE (e : E) (H : Heap) : boxO [] (AV.cells (avE e)) H = some (.ptr H.length 0, H ++ [bxE e]) := boxO_p (enc e) H

theorem n43 : ¬ (4 : Int) = 3 := by omega
theorem n34 : ¬ (3 : Int) = 4 := by omega
theorem call26 (e : E) (lo : List Nat) (H : Heap) : callA cfg O 26 [avE e] lo H = some (B (decide (kd e = 3) || decide (kd e = 4)), H) := by
  refine callA_args (H' := []) (rs := [B (decide (kd e = 3) || decide (kd e = 4))]) rfl rfl ?_ rfl
  have h0 := b0 (H := [bxE e]) (id := 0) (e := e) rfl
  rw [f26_eq, boxE]
  simp only [core, List.length_nil, List.nil_append, h0]
  by_cases g1 : kd e = 3
  · simp only [core, n43, n34, Bool.and_false, Bool.or_false, Bool.or_true, Bool.true_or, g1, h0, decide_true, Bool.true_or]
    rfl
  · by_cases g2 : kd e = 4
    · simp only [core, n43, n34, Bool.and_false, Bool.or_false, Bool.or_true, Bool.true_or, g1, g2, h0, decide_true, decide_false, Bool.false_or]
      rfl
    · simp only [core, n43, n34, Bool.and_false, Bool.or_false, Bool.or_true, Bool.true_or, g1, g2, h0, decide_true, decide_false, Bool.false_or]
      rfl

theorem call10 (a b : E) (lo : List Nat) (H : Heap) : callA cfg O 10 [avE a, avE b] lo H = some (B (mt a b), H) := by
  refine callA_args (H' := []) (rs := [B (mt a b)]) rfl rfl ?_ rfl
  have x0 := b0 (H := [bxE a, bxE b]) (id := 0) (e := a) rfl
  have x2 := b2 (H := [bxE a, bxE b]) (id := 0) (e := a) rfl
  have x6 := b6 (H := [bxE a, bxE b]) (id := 0) (e := a) rfl
  have x7 := b7 (H := [bxE a, bxE b]) (id := 0) (e := a) rfl
  have y0 := b0 (H := [bxE a, bxE b]) (id := 1) (e := b) rfl
  have y2 := b2 (H := [bxE a, bxE b]) (id := 1) (e := b) rfl
  have y6 := b6 (H := [bxE a, bxE b]) (id := 1) (e := b) rfl
  have y7 := b7 (H := [bxE a, bxE b]) (id := 1) (e := b) rfl
  rw [f10_eq, boxE]
  simp only [core]
  rw [boxE]
  have hl : ∀ G : Heap, leave 0 [] [B true] G = some ([B true], []) := fun _ => rfl
  have hl2 : ∀ G : Heap, leave 0 [] [B false] G = some ([B false], []) := fun _ => rfl
  simp only [core, List.length_nil, List.nil_append, List.length_singleton, List.singleton_append, mt]
  generalize [bxE a, bxE b] = G at *
  generalize kd a = ka at *
  generalize kd b = kb at *
  by_cases g1 : th a = th b
  · simp only [core, n43, n34, Bool.and_false, Bool.or_false, Bool.or_true, Bool.true_or, g1, x0, x2, x6, x7, y0, y2, y6, y7, hl, hl2, decide_true, decide_false, Bool.not_true, Bool.false_and]
  by_cases g2 : ea a = ea b
  rotate_left
  · simp only [core, n43, n34, Bool.and_false, Bool.or_false, Bool.or_true, Bool.true_or, g1, g2, x0, x2, x6, x7, y0, y2, y6, y7, hl, hl2, decide_true, decide_false, Bool.not_true, Bool.not_false, Bool.false_and, Bool.true_and]
  by_cases g3 : eb a = eb b
  rotate_left
  · simp only [core, n43, n34, Bool.and_false, Bool.or_false, Bool.or_true, Bool.true_or, g1, g2, g3, x0, x2, x6, x7, y0, y2, y6, y7, hl, hl2, decide_true, decide_false, Bool.not_true, Bool.not_false, Bool.false_and, Bool.true_and]
  by_cases g4 : ka = 4
  · subst g4
    by_cases g5 : kb = 3
    · subst g5
      simp only [core, n43, n34, Bool.and_false, Bool.or_false, Bool.or_true, Bool.true_or, g1, g2, g3, x0, x2, x6, x7, y0, y2, y6, y7, hl, hl2, decide_true, decide_false, Bool.not_true, Bool.not_false, Bool.false_and, Bool.true_and, Bool.true_or]
    by_cases g6 : kb = 4
    · subst g6
      simp only [core, n43, n34, Bool.and_false, Bool.or_false, Bool.or_true, Bool.true_or, g1, g2, g3, g5, x0, x2, x6, x7, y0, y2, y6, y7, hl, hl2, decide_true, decide_false, Bool.not_true, Bool.not_false, Bool.false_and, Bool.true_and, Bool.true_or, Bool.false_or]
    · simp only [core, n43, n34, Bool.and_false, Bool.or_false, Bool.or_true, Bool.true_or, g1, g2, g3, g5, g6, x0, x2, x6, x7, y0, y2, y6, y7, hl, hl2, decide_true, decide_false, Bool.not_true, Bool.not_false, Bool.false_and, Bool.true_and, Bool.true_or, Bool.false_or]
  · by_cases g5 : ka = 3
    · subst g5
      by_cases g6 : kb = 4
      · subst g6
        simp only [core, n43, n34, Bool.and_false, Bool.or_false, Bool.or_true, Bool.true_or, g1, g2, g3, g4, x0, x2, x6, x7, y0, y2, y6, y7, hl, hl2, decide_true, decide_false, Bool.not_true, Bool.not_false, Bool.false_and, Bool.true_and, Bool.true_or, Bool.false_or]
      · simp only [core, n43, n34, Bool.and_false, Bool.or_false, Bool.or_true, Bool.true_or, g1, g2, g3, g4, g6, x0, x2, x6, x7, y0, y2, y6, y7, hl, hl2, decide_true, decide_false, Bool.not_true, Bool.not_false, Bool.false_and, Bool.true_and, Bool.true_or, Bool.false_or]
    · simp only [core, n43, n34, Bool.and_false, Bool.or_false, Bool.or_true, Bool.true_or, g1, g2, g3, g4, g5, x0, x2, x6, x7, y0, y2, y6, y7, hl, hl2, decide_true, decide_false, Bool.not_true, Bool.not_false, Bool.false_and, Bool.true_and, Bool.true_or, Bool.false_or]

theorem mt_slots (a b : E) : mt a b = ((decide (kd a = 3) || decide (kd a = 4)) && ((decide (kd b = 3) || decide (kd b = 4)) && (decide (ea a = ea b) && (decide (eb a = eb b) && ((decide (kd a = 4) || decide (kd b = 4)) && !decide (th a = th b)))))) := by
  unfold mt
  by_cases g1 : kd a = 3 <;> by_cases g2 : kd a = 4 <;> by_cases g3 : kd b = 3 <;> by_cases g4 : kd b = 4 <;> first | (exfalso; omega) | simp [g1, g2, g3, g4, Bool.and_comm, Bool.and_assoc, Bool.and_left_comm]

theorem call15 (a b : E) (lo : List Nat) (H : Heap) : callA cfg O 15 [avE a, avE b] lo H = some (B (mt a b), H) := by
  refine callA_args (H' := []) (rs := [B (mt a b)]) rfl rfl ?_ rfl
  have x0 := b0 (H := [bxE a, bxE b]) (id := 0) (e := a) rfl
  have x2 := b2 (H := [bxE a, bxE b]) (id := 0) (e := a) rfl
  have x6 := b6 (H := [bxE a, bxE b]) (id := 0) (e := a) rfl
  have x7 := b7 (H := [bxE a, bxE b]) (id := 0) (e := a) rfl
  have y0 := b0 (H := [bxE a, bxE b]) (id := 1) (e := b) rfl
  have y2 := b2 (H := [bxE a, bxE b]) (id := 1) (e := b) rfl
  have y6 := b6 (H := [bxE a, bxE b]) (id := 1) (e := b) rfl
  have y7 := b7 (H := [bxE a, bxE b]) (id := 1) (e := b) rfl
  have xa := bAll (H := [bxE a, bxE b]) (id := 0) (e := a) rfl
  have ya := bAll (H := [bxE a, bxE b]) (id := 1) (e := b) rfl
  rw [f15_eq, boxE]
  simp only [core]
  rw [boxE]
  have hl : ∀ G : Heap, leave 0 [] [B true] G = some ([B true], []) := fun _ => rfl
  have hl2 : ∀ G : Heap, leave 0 [] [B false] G = some ([B false], []) := fun _ => rfl
  simp only [core, List.length_nil, List.nil_append, List.length_singleton, List.singleton_append, mt_slots]
  generalize [bxE a, bxE b] = G at *
  simp only [core, xa, call26]
  cases g1 : (decide (kd a = 3) || decide (kd a = 4))
  · simp only [core, hl2, Bool.false_and]
  cases g2 : (decide (kd b = 3) || decide (kd b = 4))
  · simp only [core, n43, n34, Bool.and_false, Bool.or_false, Bool.or_true, xa, ya, call26, g2, hl2, Bool.false_and, Bool.true_and]
  by_cases g3 : ea a = ea b
  rotate_left
  · simp only [core, n43, n34, Bool.and_false, Bool.or_false, Bool.or_true, xa, ya, call26, g2, g3, x6, y6, hl2, decide_false, Bool.false_and, Bool.true_and]
  by_cases g4 : eb a = eb b
  rotate_left
  · simp only [core, n43, n34, Bool.and_false, Bool.or_false, Bool.or_true, xa, ya, call26, g2, g3, g4, x6, y6, x7, y7, hl2, decide_false, decide_true, Bool.false_and, Bool.true_and]
  by_cases g5 : kd a = 4
  · by_cases g7 : th a = th b
    · simp only [core, n43, n34, Bool.and_false, Bool.or_false, Bool.or_true, xa, ya, call26, g2, g3, g4, g5, g7, x0, y0, x2, y2, x6, y6, x7, y7, hl, hl2, decide_false, decide_true, Bool.false_and, Bool.true_and, Bool.true_or, Bool.not_true]
    · simp only [core, n43, n34, Bool.and_false, Bool.or_false, Bool.or_true, xa, ya, call26, g2, g3, g4, g5, g7, x0, y0, x2, y2, x6, y6, x7, y7, hl, hl2, decide_false, decide_true, Bool.false_and, Bool.true_and, Bool.true_or, Bool.not_false]
  by_cases g6 : kd b = 4
  · by_cases g7 : th a = th b
    · simp only [core, n43, n34, Bool.and_false, Bool.or_false, Bool.or_true, xa, ya, call26, g2, g3, g4, g5, g6, g7, x0, y0, x2, y2, x6, y6, x7, y7, hl, hl2, decide_false, decide_true, Bool.false_and, Bool.true_and, Bool.true_or, Bool.false_or, Bool.not_true, Bool.or_true]
    · simp only [core, n43, n34, Bool.and_false, Bool.or_false, Bool.or_true, xa, ya, call26, g2, g3, g4, g5, g6, g7, x0, y0, x2, y2, x6, y6, x7, y7, hl, hl2, decide_false, decide_true, Bool.false_and, Bool.true_and, Bool.true_or, Bool.false_or, Bool.not_false, Bool.or_true]
  · have g2' : kd b = 3 := by simpa [g6] using g2
    simp only [core, n43, n34, Bool.and_false, Bool.or_false, Bool.or_true, xa, ya, call26, g2', g3, g4, g5, g6, x0, y0, x2, y2, x6, y6, x7, y7, hl, hl2, decide_false, decide_true, Bool.false_and, Bool.true_and, Bool.true_or, Bool.false_or, Bool.not_false]
end Ra
end Go.Proofs.Ytfdnamedmjhcfaa

/- Races: whether a rising list has a number. -/
set_option linter.unusedVariables false
set_option linter.unusedSimpArgs false
namespace Go.Proofs.Ytfdnamedmjhcfaa
open Go Go.AM Go.AM.Ck Cl
namespace Ra

/-- A list of places that rises. -/
def Rs (L : Int) (zs : List Int) : Prop := zs.Pairwise (· < ·) ∧ ∀ z ∈ zs, 0 ≤ z ∧ z < L

theorem rs_nil (L : Int) : Rs L [] := ⟨.nil, fun z h => by cases h⟩
theorem rs_snoc {L : Int} {zs : List Int} {z : Int} : Rs L (zs ++ [z]) ↔ Rs L zs ∧ (0 ≤ z ∧ z < L) ∧ ∀ y ∈ zs, y < z := by
  unfold Rs
  rw [List.pairwise_append]
  constructor
  · rintro ⟨⟨h1, _, h3⟩, h4⟩
    exact ⟨⟨h1, fun y hy => h4 y (by simp [hy])⟩, h4 z (by simp), fun y hy => h3 y hy z (by simp)⟩
  · rintro ⟨⟨h1, h2⟩, h3, h4⟩
    refine ⟨⟨h1, List.pairwise_singleton _ _, fun y hy w hw => ?_⟩, fun w hw => ?_⟩
    · simp at hw; subst hw; exact h4 y hy
    · rcases List.mem_append.1 hw with hw | hw
      · exact h2 w hw
      · simp at hw; subst hw; exact h3
theorem snoc_ind {α : Type} {P : List α → Prop} (h0 : P []) (h1 : ∀ l x, P l → P (l ++ [x])) (l : List α) : P l := by
  have : ∀ l : List α, P l.reverse := by
    intro l
    induction l with
    | nil => exact h0
    | cons x l ih => rw [List.reverse_cons]; exact h1 _ _ ih
  rw [← List.reverse_reverse l]
  exact this _
theorem rs_last {L : Int} {zs : List Int} (h : Rs L zs) : (zs.length : Int) ≤ L ∨ zs = [] := by
  have : ∀ zs : List Int, Rs L zs → zs = [] ∨ ∃ y ∈ zs, (zs.length : Int) ≤ y + 1 := by
    refine snoc_ind (fun _ => .inl rfl) fun l x ih hr => .inr ?_
    obtain ⟨h1, h2, h3⟩ := rs_snoc.mp hr
    refine ⟨x, by simp, ?_⟩
    rcases ih h1 with rfl | ⟨y, hy, hl⟩
    · simp; omega
    · have := h3 y hy
      simp only [List.length_append, List.length_singleton]
      omega
  rcases this zs h with rfl | ⟨y, hy, hl⟩
  · exact .inr rfl
  · have := (h.2 y hy).2
    exact .inl (by omega)
theorem rs_len {L : Int} {zs : List Int} (h : Rs L zs) (h0 : 0 ≤ L) : (zs.length : Int) ≤ L := by
  rcases rs_last h with h | rfl
  · exact h
  · simpa using h0
theorem rs_take {L : Int} {zs : List Int} (h : Rs L zs) (i : Nat) : Rs L (zs.take i) := ⟨h.1.sublist (List.take_sublist _ _), fun z hz => h.2 z (List.mem_of_mem_take hz)⟩
theorem take_s {zs : List Int} {i : Nat} (h : i < zs.length) : zs.take (i + 1) = zs.take i ++ [zs[i]] := by
  rw [List.take_add_one, List.getElem?_eq_getElem h]; rfl
/-- One place more. -/
theorem gD {zs : List Int} {i : Nat} (h : i < zs.length) : zs.getD i 0 = zs[i] := by simp [List.getD_eq_getElem?_getD, h]
theorem rs_step {L : Int} {zs : List Int} {i : Nat} (hi : i < zs.length) (h : Rs L (zs.take i)) : Rs L (zs.take (i + 1)) ↔ (0 ≤ zs[i] ∧ zs[i] < L) ∧ (0 < i → zs.getD (i - 1) 0 < zs[i]) := by
  rw [take_s hi, rs_snoc]
  constructor
  · rintro ⟨_, h2, h3⟩
    refine ⟨h2, fun h0 => h3 _ ?_⟩
    have hi1 : i - 1 < zs.length := by omega
    rw [gD hi1]
    have : (zs.take i)[i - 1]? = some zs[i - 1] := by rw [List.getElem?_take, if_pos (by omega), List.getElem?_eq_getElem hi1]
    exact List.mem_of_getElem? this
  · rintro ⟨h2, h3⟩
    refine ⟨h, h2, fun y hy => ?_⟩
    obtain ⟨j, hj, rfl⟩ := List.mem_iff_getElem.mp hy
    have hj' : j < i := by rw [List.length_take] at hj; omega
    have hi1 : i - 1 < zs.length := by omega
    have h4 := h3 (by omega)
    rw [gD hi1] at h4
    by_cases e : j = i - 1
    · subst e
      rw [List.getElem_take]
      exact h4
    · have hp := List.pairwise_iff_getElem.mp h.1 j (i - 1) hj (by rw [List.length_take]; omega) (by omega)
      rw [List.getElem_take, List.getElem_take] at hp
      rw [List.getElem_take]
      exact Int.lt_trans hp h4

section
variable {nl : Option Bool} {tg : Bool} {zs : List Int}

/-! ### HasInt, Contains -/
theorem loop23 (hn : zs.length < 2 ^ 40) (x : Int) (H : Heap) : ∀ (c i : Nat), zs.length - i = c → i ≤ zs.length → L23_6 [V nl tg zs, I x, I i] [] H = some ([B (decide (x ∈ zs.drop i))], []) := by
  intro c
  induction c with
  | zero =>
    intro i hc hi
    have : i = zs.length := by omega
    subst this
    rw [L23_6_eq]
    simp only [core, Int.lt_irrefl, List.drop_length, List.not_mem_nil]
    rfl
  | succ c ih =>
    intro i hc hi
    have hi' : i < zs.length := by omega
    have g : (i : Int) < zs.length := by omega
    rw [L23_6_eq]
    simp only [core, g, idxV hi', ldV hi']
    rw [List.drop_eq_getElem_cons hi']
    by_cases e : zs[i] = x
    · simp only [core, e, List.mem_cons, true_or]
      rfl
    · have e' : ¬ x = zs[i] := fun h => e h.symm
      simp only [core, e, e', List.mem_cons, false_or]
      rw [wrap_id (by omega), nxt]
      exact ih (i + 1) (by omega) (by omega)
theorem call23 (hn : zs.length < 2 ^ 40) (x : Int) (lo : List Nat) (H : Heap) : callA cfg O 23 [V nl tg zs, I x] lo H = some (B (decide (x ∈ zs)), H) := by
  refine callA_args (H' := []) (rs := [B (decide (x ∈ zs))]) rfl rfl ?_ rfl
  rw [f23_eq]
  exact loop23 hn x [] _ 0 rfl (by omega)

theorem loop46 (hn : zs.length < 2 ^ 40) (x : Int) (H : Heap) : ∀ (c i : Nat), zs.length - i = c → i ≤ zs.length → ∃ k : Int, L46_6 [V nl tg zs, I x, I zs.length, I i] [] H = some ([I k], []) ∧ (0 ≤ k ↔ x ∈ zs.drop i) := by
  intro c
  induction c with
  | zero =>
    intro i hc hi
    have : i = zs.length := by omega
    subst this
    refine ⟨-1, ?_, by simp⟩
    rw [L46_6_eq]
    simp only [core, Int.lt_irrefl]
    rfl
  | succ c ih =>
    intro i hc hi
    have hi' : i < zs.length := by omega
    have g : (i : Int) < zs.length := by omega
    rw [L46_6_eq]
    simp only [core, g, idxV hi', ldV hi']
    rw [List.drop_eq_getElem_cons hi']
    by_cases e : x = zs[i]
    · refine ⟨i, ?_, fun _ => List.mem_cons.mpr (.inl e), fun _ => by omega⟩
      simp only [core, e]
      rfl
    · obtain ⟨k, k1, k2⟩ := ih (i + 1) (by omega) (by omega)
      refine ⟨k, ?_, by rw [k2, List.mem_cons]; exact ⟨.inr, fun h => h.resolve_left e⟩⟩
      simp only [core, e]
      rw [wrap_id (by omega), nxt]
      exact k1
theorem ent31 (hn : zs.length < 2 ^ 40) (x : Int) : O.ent 31 [V nl tg zs, I x] [] [] = some ([B (decide (x ∈ zs))], []) := by
  obtain ⟨k, k1, k2⟩ := loop46 (nl := nl) (tg := tg) hn x [] _ 0 rfl (by omega)
  have c46 : callA cfg O 46 [V nl tg zs, I x] [] [] = some (I k, []) := by
    refine callA_args (H' := []) (rs := [I k]) rfl rfl ?_ rfl
    rw [f46_eq]
    simp only [core]
    exact k1
  rw [f31_eq]
  simp only [core, c46]
  have : decide (0 ≤ k) = decide (x ∈ zs) := by simpa using k2
  show some ([B (decide (0 ≤ k))], []) = _
  rw [this]

/-! ### BinarySearch -/
theorem call50 (x : Int) (lo : List Nat) (H : Heap) : callA cfg O 50 [I x] lo H = some (B false, H) := by
  refine callA_args (H' := []) (rs := [B false]) rfl rfl ?_ rfl
  rw [f50_eq]
  simp only [core]
  rfl
theorem call56 (x : Int) (lo : List Nat) (H : Heap) : callA cfg O 56 [I x] lo H = some (B false, H) := by
  refine callA_args (H' := []) (rs := [B false]) rfl rfl ?_ rfl
  rw [f56_eq]
  simp only [core]
  rfl
theorem call49 (x y : Int) (lo : List Nat) (H : Heap) : callA cfg O 49 [I x, I y] lo H = some (B (decide (x < y)), H) := by
  refine callA_args (H' := []) (rs := [B (decide (x < y))]) rfl rfl ?_ rfl
  rw [f49_eq]
  simp only [core, call56]
  rfl

theorem convU (a : Nat) (h : a < 2 ^ 62) : conv (.int .u64) (I a) = some (U64 a) := by
  have : conv (.int .u64) (I a) = some (.p (.v (.int .u64 (IntKind.u64.wrap (a : Int))))) := rfl
  rw [this, wrap_u64 (by omega)]
theorem convS (a : Nat) (h : a < 2 ^ 62) : conv (.int .i64) (U64 a) = some (I a) := by
  have : conv (.int .i64) (U64 a) = some (.p (.v (.int .i64 (IntKind.i64.wrap (a : Int))))) := rfl
  rw [this, wrap_id (by omega)]
theorem shr1 (a : Nat) : bin .shr .int (U64 a) (.p (.v (.int .u64 1))) = some (U64 (a / 2)) := by
  have : bin .shr .int (U64 a) (.p (.v (.int .u64 1))) = some (.p (.v (.int .u64 ((a : Int).fdiv (2 ^ (min (1 : Int).toNat IntKind.u64.bits)))))) := rfl
  rw [this]
  have e : (min (1 : Int).toNat IntKind.u64.bits) = 1 := rfl
  rw [e]
  have e2 : (a : Int).fdiv (2 ^ 1) = ((a / 2 : Nat) : Int) := by
    rw [show (2 : Int) ^ 1 = 2 by decide, Int.fdiv_eq_ediv_of_nonneg _ (by omega)]
    omega
  rw [e2]

theorem loop34 (hn : zs.length < 2 ^ 40) (hs : zs.Pairwise (· < ·)) (x : Int) (H : Heap) : ∀ (c i j : Nat), j - i = c → i ≤ j → j ≤ zs.length → (∀ k (h : k < zs.length), k < i → zs[k] < x) → (∀ k (h : k < zs.length), j ≤ k → x ≤ zs[k]) →
    ∃ p : Nat, L34_8 [V nl tg zs, I x, I zs.length, I i, I j] [] H = some ([I p, B (decide (x ∈ zs))], []) := by
  intro c
  induction c using Nat.strongRecOn with
  | _ c ih =>
    intro i j hc hij hj h1 h2
    rw [L34_8_eq]
    by_cases hlt : i < j
    · have g : (i : Int) < j := by omega
      have hm : (i + j) / 2 < zs.length := by omega
      have e1 : (i : Int) + j = ((i + j : Nat) : Int) := by omega
      simp only [core, g]
      rw [wrap_id (by omega), e1, convU _ (by omega)]
      simp only [core, shr1]
      rw [convS _ (by omega)]
      simp only [core, idxV hm, ldV hm, call49]
      by_cases hx : zs[(i + j) / 2] < x
      · simp only [core, hx]
        rw [wrap_id (by omega), nxt]
        refine ih (j - ((i + j) / 2 + 1)) (by omega) _ _ rfl (by omega) hj (fun k hk hki => ?_) h2
        by_cases e : k = (i + j) / 2
        · subst e; exact hx
        · have := List.pairwise_iff_getElem.mp hs k ((i + j) / 2) hk hm (by omega)
          omega
      · simp only [core, hx]
        refine ih ((i + j) / 2 - i) (by omega) _ _ rfl (by omega) (by omega) h1 (fun k hk hki => ?_)
        by_cases e : k = (i + j) / 2
        · subst e; omega
        · have := List.pairwise_iff_getElem.mp hs ((i + j) / 2) k hm hk (by omega)
          omega
    · have e : i = j := by omega
      subst e
      have g : ¬ (i : Int) < i := by omega
      refine ⟨i, ?_⟩
      have hl : ∀ (b : Bool) (G : Heap), leave 0 [] [I i, B b] G = some ([I i, B b], []) := fun _ _ => rfl
      by_cases hn' : i < zs.length
      · have g2 : (i : Int) < zs.length := by omega
        by_cases hx : zs[i] = x
        · have hmem : x ∈ zs := hx ▸ List.getElem_mem hn'
          simp only [core, g, g2, idxV hn', ldV hn', hx, hmem, hl, decide_true]
        · have hmem : ¬ x ∈ zs := by
            intro hm
            obtain ⟨k, hk, rfl⟩ := List.mem_iff_getElem.mp hm
            by_cases hki : k < i
            · have := h1 k hk hki; omega
            · by_cases hke : k = i
              · subst hke; exact hx rfl
              · have := List.pairwise_iff_getElem.mp hs i k hn' hk (by omega)
                have := h2 i hn' (Nat.le_refl _)
                omega
          simp only [core, g, g2, idxV hn', ldV hn', hx, hmem, hl, decide_false, call50]
      · have g2 : ¬ (i : Int) < zs.length := by omega
        have hmem : ¬ x ∈ zs := by
          intro hm
          obtain ⟨k, hk, rfl⟩ := List.mem_iff_getElem.mp hm
          have := h1 k hk (by omega)
          omega
        simp only [core, g, g2, hmem, hl, decide_false]

theorem call34 (hn : zs.length < 2 ^ 40) (hs : zs.Pairwise (· < ·)) (x : Int) (lo : List Nat) (H : Heap) : ∃ p : Nat, callA cfg O 34 [V nl tg zs, I x] lo H = some (.tup [I p, B (decide (x ∈ zs))], H) := by
  obtain ⟨p, e⟩ := loop34 (nl := nl) (tg := tg) hn hs x [] zs.length 0 zs.length rfl (by omega) (by omega) (fun k h h' => by omega) (fun k h h' => by omega)
  refine ⟨p, callA_args (H' := []) (rs := [I p, B (decide (x ∈ zs))]) rfl rfl ?_ rfl⟩
  rw [f34_eq]
  simp only [core]
  exact e
end
end Ra
end Go.Proofs.Ytfdnamedmjhcfaa

/- Races: whether a list is closed: the program's and the document's answer. -/
set_option linter.unusedVariables false
set_option linter.unusedSimpArgs false
namespace Go.Proofs.Ytfdnamedmjhcfaa
open Go Go.AM Go.AM.Ck Cl
namespace Ra

theorem l3 (n : Nat) (lo : List Nat) (G : Heap) (b : Bool) : leave 3 (n :: lo) [B b] G = some ([B b], G.take n) := rfl
theorem l3I (n : Nat) (lo : List Nat) (G : Heap) (b : Int) : leave 3 (n :: lo) [I b] G = some ([I b], G.take n) := rfl

section
variable {nl : Option Bool} {tg : Bool} {zs : List Int} {H : Heap} {b0 b1 : Nat}

theorem callV33 (hn : zs.length < 2 ^ 40) (hs : zs.Pairwise (· < ·)) (h0 : H[b0]? = some (.box [V nl tg zs])) (x : Int) (lo : List Nat) : callV cfg O (.fn 33 [] [.ptr b0 0]) [I x] lo H = some (B (decide (x ∈ zs)), H) := by
  show callA cfg O 33 [I x, .ptr b0 0] lo H = _
  refine callA_same (rs := [B (decide (x ∈ zs))]) rfl ?_
  obtain ⟨p, e⟩ := call34 (nl := nl) (tg := tg) hn hs x (H.length :: lo) H
  have hl : ld false 1 (.ptr b0 0) H = some (V nl tg zs) := by rw [ld_box h0]; rfl
  rw [f33_eq]
  simp only [core, hl, e]
  exact leave3_B lo H _

def bad (zs : List Int) (p : P2) : Bool := decide (p.2 ∈ zs) && !decide (p.1 ∈ zs)

theorem callV36 (hn : zs.length < 2 ^ 40) (hs : zs.Pairwise (· < ·)) (h0 : H[b0]? = some (.box [V nl tg zs])) (h1 : H[b1]? = some (.box [.fn 33 [] [.ptr b0 0]])) (p : P2) (lo : List Nat) :
    callV cfg O (.fn 36 [] [.ptr b1 0]) [.agg ((encP p).map .p)] lo H = some (B (bad zs p), H) := by
  show callA cfg O 36 [.agg ((encP p).map .p), .ptr b1 0] lo H = _
  refine callA_same (rs := [B (bad zs p)]) rfl ?_
  have hb : boxO [] (AV.cells (.agg ((encP p).map .p))) H = some (.ptr H.length 0, H ++ [.box ((encP p).map .p)]) := boxO_p (encP p) H
  have g0 : (H ++ [.box ((encP p).map .p)])[b0]? = some (.box [V nl tg zs]) := push_get? h0 _
  have g1 : (H ++ [.box ((encP p).map .p)])[b1]? = some (.box [.fn 33 [] [.ptr b0 0]]) := push_get? h1 _
  have g2 : (H ++ [AObj.box ((encP p).map .p)])[H.length]? = some (.box ((encP p).map .p)) := by simp
  have q1 : ld false 1 (.ptr b1 0) (H ++ [.box ((encP p).map .p)]) = some (.fn 33 [] [.ptr b0 0]) := by rw [ld_box g1]; rfl
  have q2 : ld false 1 (.ptr H.length (0 + 1)) (H ++ [.box ((encP p).map .p)]) = some (I p.2) := by rw [ld_box g2]; rfl
  have q3 : ld false 1 (.ptr H.length (0 + 0)) (H ++ [.box ((encP p).map .p)]) = some (I p.1) := by rw [ld_box g2]; rfl
  have c1 := callV33 (nl := nl) (tg := tg) hn hs g0 p.2 (H.length :: lo)
  have c2 := callV33 (nl := nl) (tg := tg) hn hs g0 p.1 (H.length :: lo)
  rw [f36_eq, hb]
  simp only [core]
  simp only [core, q1, q2, q3, c1]
  unfold bad
  by_cases e : p.2 ∈ zs
  · simp only [core, e, q1, q2, q3, c2, l3, List.take_left, Bool.true_and]
  · simp only [core, e, l3, List.take_left, Bool.false_and]

theorem call35 {n2 : Option Bool} {t2 : Bool} {S : List P2} (hS : S.length < 2 ^ 40) (hn : zs.length < 2 ^ 40) (hs : zs.Pairwise (· < ·)) (h0 : H[b0]? = some (.box [V nl tg zs])) (h1 : H[b1]? = some (.box [.fn 33 [] [.ptr b0 0]])) (lo : List Nat) :
    callA cfg O 35 [Rw encP n2 t2 S, .fn 36 [] [.ptr b1 0]] lo H = some (B (S.any (bad zs)), H) := by
  have loop : ∀ (lo : List Nat) (c i : Nat), S.length - i = c → i ≤ S.length → ∃ k : Int, L51_6 [Rw encP n2 t2 S, .fn 36 [] [.ptr b1 0], I S.length, I i] (H.length :: lo) H = some ([I k], H) ∧ (decide (0 ≤ k)) = (S.drop i).any (bad zs) := by
    intro lo c
    induction c with
    | zero =>
      intro i hc hi
      have : i = S.length := by omega
      subst this
      refine ⟨-1, ?_, by rw [List.drop_length]; rfl⟩
      rw [L51_6_eq]
      simp only [core, Int.lt_irrefl, l3I, List.take_length]
    | succ c ih =>
      intro i hc hi
      have hi' : i < S.length := by omega
      have g : (i : Int) < S.length := by omega
      have e1 : idxA 2 (Rw encP n2 t2 S) (I i) = some (.fp (S.flatMap encP) (i * 2)) := idxR hi'
      have e2 : ld true 2 (.fp (S.flatMap encP) (i * 2)) H = some (.agg ((encP S[i]).map .p)) := ldR len2 hi' H
      have e3 := callV36 (nl := nl) (tg := tg) hn hs h0 h1 S[i] (H.length :: lo)
      rw [L51_6_eq, List.drop_eq_getElem_cons hi', List.any_cons]
      simp only [core, g, e1, e2, e3]
      cases hb : bad zs S[i] with
      | true =>
        refine ⟨i, ?_, by simp⟩
        simp only [core, l3I, List.take_length]
      | false =>
        obtain ⟨k, k1, k2⟩ := ih (i + 1) (by omega) (by omega)
        refine ⟨k, ?_, by rw [k2]; rfl⟩
        simp only [core]
        rw [wrap_id (by omega), nxt]
        exact k1
  refine callA_same (rs := [B (S.any (bad zs))]) rfl ?_
  obtain ⟨k, k1, k2⟩ := loop (H.length :: lo) S.length 0 rfl (by omega)
  have c51 : callA cfg O 51 [Rw encP n2 t2 S, .fn 36 [] [.ptr b1 0]] (H.length :: lo) H = some (I k, H) := by
    refine callA_same (rs := [I k]) rfl ?_
    rw [f51_eq]
    simp only [core]
    exact k1
  rw [f35_eq]
  simp only [core, c51]
  rw [List.drop_zero] at k2
  rw [← k2]
  exact leave3_B lo H _

/-- A closed list, as the program sees it. -/
noncomputable def cl (L : Int) (S : List P2) (has no : Int) (zs : List Int) : Bool := dec (Rs L zs) && (decide (has ∈ zs) && (!decide (no ∈ zs) && !S.any (bad zs)))

theorem loop20 {L : Int} (hL : 0 ≤ L ∧ L < 2 ^ 40) (v1 v2 v3 : AV) (h0 : H[b0]? = some (.box [V nl tg zs])) : ∀ (c i : Nat), zs.length - i = c → i ≤ zs.length → Rs L (zs.take i) →
    L20_6 [v1, v2, v3, I L, .ptr b0 0, V nl tg zs, I zs.length, I i] [] H = if dec (Rs L zs) = true then L20_6 [v1, v2, v3, I L, .ptr b0 0, V nl tg zs, I zs.length, I zs.length] [] H else some ([B false], []) := by
  intro c
  induction c with
  | zero =>
    intro i hc hi hr
    have : i = zs.length := by omega
    subst this
    rw [List.take_length] at hr
    rw [if_pos (dec_iff.mpr hr)]
  | succ c ih =>
    intro i hc hi hr
    have hi' : i < zs.length := by omega
    have g : (i : Int) < zs.length := by omega
    have hil := rs_len hr hL.1
    rw [List.length_take, Nat.min_eq_left hi] at hil
    have hl : ld false 1 (.ptr b0 0) H = some (V nl tg zs) := by rw [ld_box h0]; rfl
    have lf : ∀ G : Heap, leave 0 [] [B false] G = some ([B false], []) := fun _ => rfl
    have stop : ¬ Rs L (zs.take (i + 1)) → dec (Rs L zs) = false := fun h => dec_f fun h2 => h (rs_take h2 _)
    rw [L20_6_eq]
    simp only [core, g, idxV hi', ldV hi']
    have step := rs_step hi' hr
    by_cases g1 : zs[i] < 0
    · rw [stop (fun h => by have := (step.mp h).1; omega)]
      simp only [core, g1, lf]
    by_cases g2 : L ≤ zs[i]
    · rw [stop (fun h => by have := (step.mp h).1; omega)]
      simp only [core, g1, g2, lf]
    by_cases g3 : 0 < i
    · have g3' : (0 : Int) < i := by omega
      have w : IntKind.i64.wrap ((i : Int) - 1) = ((i - 1 : Nat) : Int) := by rw [wrap_id (by omega)]; omega
      have hi1 : i - 1 < zs.length := by omega
      have hD := gD hi1
      by_cases g4 : zs[i] ≤ zs[i - 1]
      · rw [stop (fun h => by have := (step.mp h).2 g3; omega)]
        simp only [core, g1, g2, g3', hl, w, idxV hi1, ldV hi1, g4, lf]
      · have hr' : Rs L (zs.take (i + 1)) := step.mpr ⟨⟨by omega, by omega⟩, fun _ => by omega⟩
        simp only [core, g1, g2, g3', hl, w, idxV hi1, ldV hi1, g4]
        rw [wrap_id (by omega), nxt]
        exact ih (i + 1) (by omega) (by omega) hr'
    · have g3' : ¬ (0 : Int) < i := by omega
      have hr' : Rs L (zs.take (i + 1)) := step.mpr ⟨⟨by omega, by omega⟩, fun h => absurd h g3⟩
      simp only [core, g1, g2, g3']
      rw [wrap_id (by omega), nxt]
      exact ih (i + 1) (by omega) (by omega) hr'

theorem call20 {n2 : Option Bool} {t2 : Bool} {S : List P2} (hS : S.length < 2 ^ 40) {L : Int} (hL : 0 ≤ L ∧ L < 2 ^ 40) (has no : Int) (lo : List Nat) (H : Heap) :
    callA cfg O 20 [V nl tg zs, Rw encP n2 t2 S, I has, I no, I L] lo H = some (B (cl L S has no zs), H) := by
  refine callA_args (H' := []) (rs := [B (cl L S has no zs)]) rfl rfl ?_ rfl
  have hb : boxO [] (AV.cells (V nl tg zs)) [] = some (.ptr 0 0, [.box [V nl tg zs]]) := rfl
  have hl : ∀ G, ld false 1 (.ptr 0 0) (.box [V nl tg zs] :: G) = some (V nl tg zs) := fun _ => rfl
  rw [f20_eq, hb]
  simp only [core, hl]
  have := loop20 (b0 := 0) (H := [.box [V nl tg zs]]) (nl := nl) (tg := tg) (zs := zs) hL (Rw encP n2 t2 S) (I has) (I no) rfl zs.length 0 rfl (by omega) (rs_nil _)
  refine Eq.trans this ?_
  unfold cl
  by_cases hr : Rs L zs
  · rw [dec_iff.mpr hr, if_pos rfl, L20_6_eq]
    have hzl : zs.length < 2 ^ 40 := by have := rs_len hr hL.1; omega
    have e1 : boxO [] [(.p (.v .nilFunc))] [.box [V nl tg zs]] = some (.ptr 1 0, [.box [V nl tg zs], .box [.p (.v .nilFunc)]]) := rfl
    have e2 : stA 1 (.ptr 1 0) (.fn 33 [] [.ptr 0 0]) [] [.box [V nl tg zs], .box [.p (.v .nilFunc)]] = some [.box [V nl tg zs], .box [.fn 33 [] [.ptr 0 0]]] := rfl
    have e3 : ld false 1 (.ptr 1 0) [.box [V nl tg zs], .box [.fn 33 [] [.ptr 0 0]]] = some (.fn 33 [] [.ptr 0 0]) := rfl
    have c1 := callV33 (b0 := 0) (H := [.box [V nl tg zs], .box [.fn 33 [] [.ptr 0 0]]]) (nl := nl) (tg := tg) hzl hr.1 rfl has []
    have c2 := callV33 (b0 := 0) (H := [.box [V nl tg zs], .box [.fn 33 [] [.ptr 0 0]]]) (nl := nl) (tg := tg) hzl hr.1 rfl no []
    have c3 := call35 (b0 := 0) (b1 := 1) (H := [.box [V nl tg zs], .box [.fn 33 [] [.ptr 0 0]]]) (nl := nl) (tg := tg) (n2 := n2) (t2 := t2) hS hzl hr.1 rfl rfl []
    have lf : ∀ (b : Bool) (G : Heap), leave 0 [] [B b] G = some ([B b], []) := fun _ _ => rfl
    simp only [core, Int.lt_irrefl, e1, e2, e3, c1]
    by_cases g1 : has ∈ zs
    · simp only [core, g1, e3, c2]
      by_cases g2 : no ∈ zs
      · simp only [core, g2, lf, Bool.true_and, Bool.false_and]
      · simp only [core, g2, c3, lf, Bool.true_and]
    · simp only [core, g1, lf, Bool.true_and, Bool.false_and]
  · have : dec (Rs L zs) = false := dec_f hr
    rw [this, if_neg (by simp)]
    rfl
end
end Ra
end Go.Proofs.Ytfdnamedmjhcfaa

/- Races: the document's answer to whether a list is closed. -/
set_option linter.unusedVariables false
set_option linter.unusedSimpArgs false
namespace Go.Proofs.Ytfdnamedmjhcfaa
open Go Go.AM Go.AM.Ck Cl
namespace Ra

section
variable {l : List E} {n1 n2 : Option Bool} {t1 t2 : Bool} {zs : List Int}

theorem loop11a (hL : l.length < 2 ^ 39) (v2 v3 : AV) : ∀ (c i : Nat), zs.length - i = c → i ≤ zs.length → Rs l.length (zs.take i) →
    L11_6 [Rw enc n1 t1 l, V n2 t2 zs, v2, v3, I i] [] [] = if dec (Rs l.length zs) = true then L11_16 [Rw enc n1 t1 l, V n2 t2 zs, v2, v3, I 0] [] [] else some ([B false], []) := by
  intro c
  induction c with
  | zero =>
    intro i hc hi hr
    have : i = zs.length := by omega
    subst this
    rw [List.take_length] at hr
    rw [if_pos (dec_iff.mpr hr), L11_6_eq]
    simp only [core, Int.lt_irrefl]
  | succ c ih =>
    intro i hc hi hr
    have hi' : i < zs.length := by omega
    have g : (i : Int) < zs.length := by omega
    have hil := rs_len hr (by omega)
    rw [List.length_take, Nat.min_eq_left hi] at hil
    have lf : ∀ G : Heap, leave 0 [] [B false] G = some ([B false], []) := fun _ => rfl
    have stop : ¬ Rs l.length (zs.take (i + 1)) → dec (Rs l.length zs) = false := fun h => dec_f fun h2 => h (rs_take h2 _)
    have step := rs_step hi' hr
    have w0 : IntKind.i64.wrap ((l.length : Int) - 1) = (l.length : Int) - 1 := wrap_id (by omega)
    rw [L11_6_eq]
    simp only [core, g, idxV hi', ldV hi', w0, call83]
    by_cases g1 : 0 ≤ zs[i] ∧ zs[i] ≤ (l.length : Int) - 1
    · have b1 : (decide (0 ≤ zs[i]) && decide (zs[i] ≤ (l.length : Int) - 1)) = true := by simp [g1.1, g1.2]
      by_cases g3 : 0 < i
      · have g3' : (0 : Int) < i := by omega
        have w : IntKind.i64.wrap ((i : Int) - 1) = ((i - 1 : Nat) : Int) := by rw [wrap_id (by omega)]; omega
        have hi1 : i - 1 < zs.length := by omega
        have hD := gD hi1
        by_cases g4 : zs[i] ≤ zs[i - 1]
        · rw [stop (fun h => by have := (step.mp h).2 g3; omega)]
          simp only [core, b1, g3', w, idxV hi', ldV hi', idxV hi1, ldV hi1, g4, lf]
        · have hr' : Rs l.length (zs.take (i + 1)) := step.mpr ⟨⟨by omega, by omega⟩, fun _ => by omega⟩
          simp only [core, b1, g3', w, idxV hi', ldV hi', idxV hi1, ldV hi1, g4]
          rw [wrap_id (by omega), nxt]
          exact ih (i + 1) (by omega) (by omega) hr'
      · have g3' : ¬ (0 : Int) < i := by omega
        have hr' : Rs l.length (zs.take (i + 1)) := step.mpr ⟨⟨by omega, by omega⟩, fun h => absurd h g3⟩
        simp only [core, b1, g3']
        rw [wrap_id (by omega), nxt]
        exact ih (i + 1) (by omega) (by omega) hr'
    · have b1 : (decide (0 ≤ zs[i]) && decide (zs[i] ≤ (l.length : Int) - 1)) = false := by
        rw [Bool.eq_false_iff]
        intro h
        simp at h
        exact g1 h
      rw [stop (fun h => by have := (step.mp h).1; omega)]
      simp only [core, b1, lf]

/-- A place that leads to a place of the list and is none. -/
def Miss (l : List E) (zs : List Int) (k m : Nat) : Prop := ∃ q, k ≤ q ∧ q < m ∧ ED l q m ∧ ¬ (q : Int) ∈ zs
def Miss2 (l : List E) (zs : List Int) (i : Nat) : Prop := ∃ j m : Nat, i ≤ j ∧ zs[j]? = some (m : Int) ∧ Miss l zs 0 m

theorem loop11b (hL : l.length < 2 ^ 39) (hz : zs.length < 2 ^ 39) (v2 v3 : AV) {i m : Nat} (hi : zs[i]? = some (m : Int)) (hm : m < l.length) : ∀ (c k : Nat), m - k = c → k ≤ m →
    L11_22 [Rw enc n1 t1 l, V n2 t2 zs, v2, v3, I i, I k] [] [] = if dec (Miss l zs k m) = true then some ([B false], []) else L11_16 [Rw enc n1 t1 l, V n2 t2 zs, v2, v3, I ((i + 1 : Nat) : Int)] [] [] := by
  have hi' : i < zs.length := getElem?_lt hi
  have hv : zs[i] = (m : Int) := by rw [List.getElem?_eq_getElem hi'] at hi; simpa using hi
  have lf : ∀ G : Heap, leave 0 [] [B false] G = some ([B false], []) := fun _ => rfl
  intro c
  induction c with
  | zero =>
    intro k hc hk
    have : k = m := by omega
    subst this
    have hno : dec (Miss l zs k k) = false := dec_f fun ⟨q, h1, h2, _⟩ => by omega
    rw [hno, L11_22_eq]
    simp only [core, idxV hi', ldV hi', hv, Int.lt_irrefl]
    rw [wrap_id (by omega)]
    rfl
  | succ c ih =>
    intro k hc hk
    have g : (k : Int) < m := by omega
    have hkm : k < l.length := by omega
    rw [L11_22_eq]
    simp only [core, idxV hi', ldV hi', hv, g, call74 hkm hm (show l.length < 2 ^ 40 by omega)]
    have cont : ¬ (ED l k m ∧ ¬ (k : Int) ∈ zs) → dec (Miss l zs k m) = dec (Miss l zs (k + 1) m) := fun hno => dec_congr ⟨fun ⟨q, h1, h2, h3, h4⟩ => by
        by_cases e : q = k
        · subst e; exact absurd ⟨h3, h4⟩ hno
        · exact ⟨q, by omega, h2, h3, h4⟩, fun ⟨q, h1, h2, h3, h4⟩ => ⟨q, by omega, h2, h3, h4⟩⟩
    by_cases e : ED l k m
    · have e1 : dec (ED l k m) = true := dec_iff.mpr e
      by_cases e2 : (k : Int) ∈ zs
      · rw [cont fun h => h.2 e2]
        simp only [core, e1, call23 (nl := n2) (tg := t2) (show zs.length < 2 ^ 40 by omega), e2]
        rw [wrap_id (by omega), nxt]
        exact ih (k + 1) (by omega) (by omega)
      · have : dec (Miss l zs k m) = true := dec_iff.mpr ⟨k, Nat.le_refl _, by omega, e, e2⟩
        rw [this]
        simp only [core, e1, call23 (nl := n2) (tg := t2) (show zs.length < 2 ^ 40 by omega), e2, lf]
    · have e1 : dec (ED l k m) = false := dec_f e
      rw [cont fun h => e h.1]
      simp only [core, e1]
      rw [wrap_id (by omega), nxt]
      exact ih (k + 1) (by omega) (by omega)

theorem loop11c (hL : l.length < 2 ^ 39) (hr : Rs l.length zs) (has no : Int) : ∀ (c i : Nat), zs.length - i = c → i ≤ zs.length →
    L11_16 [Rw enc n1 t1 l, V n2 t2 zs, I has, I no, I i] [] [] = some ([B (!dec (Miss2 l zs i) && (decide (has ∈ zs) && !decide (no ∈ zs)))], []) := by
  have hz := rs_len hr (by omega)
  have lf : ∀ (b : Bool) (G : Heap), leave 0 [] [B b] G = some ([B b], []) := fun _ _ => rfl
  intro c
  induction c with
  | zero =>
    intro i hc hi
    have : i = zs.length := by omega
    subst this
    have hno : dec (Miss2 l zs zs.length) = false := dec_f fun ⟨j, m, h1, h2, _⟩ => by have := getElem?_lt h2; omega
    rw [hno, L11_16_eq]
    simp only [core, Int.lt_irrefl, call23 (nl := n2) (tg := t2) (show zs.length < 2 ^ 40 by omega)]
    by_cases g1 : has ∈ zs
    · simp only [core, g1, call23 (nl := n2) (tg := t2) (show zs.length < 2 ^ 40 by omega), lf, Bool.true_and]
    · simp only [core, g1, lf, Bool.true_and, Bool.false_and]
  | succ c ih =>
    intro i hc hi
    have hi' : i < zs.length := by omega
    have g : (i : Int) < zs.length := by omega
    have hb := hr.2 _ (List.getElem_mem hi')
    obtain ⟨m, hm⟩ : ∃ m : Nat, zs[i] = (m : Int) := ⟨zs[i].toNat, by omega⟩
    have hi2 : zs[i]? = some (m : Int) := by rw [List.getElem?_eq_getElem hi', hm]
    have hml : m < l.length := by omega
    rw [L11_16_eq]
    simp only [core, g]
    have := loop11b (n1 := n1) (t1 := t1) (n2 := n2) (t2 := t2) hL (by omega) (I has) (I no) hi2 hml m 0 rfl (by omega)
    refine Eq.trans this ?_
    by_cases e : Miss l zs 0 m
    · have h2 : dec (Miss2 l zs i) = true := dec_iff.mpr ⟨i, m, Nat.le_refl _, hi2, e⟩
      rw [dec_iff.mpr e, if_pos rfl, h2]
      rfl
    · have h2 : dec (Miss2 l zs i) = dec (Miss2 l zs (i + 1)) := dec_congr ⟨fun ⟨j, m', h1, h2, h3⟩ => by
          by_cases e2 : j = i
          · subst e2
            rw [hi2] at h2
            have h2' : (m : Int) = m' := by simpa using h2
            have : m = m' := by omega
            subst this
            exact absurd h3 e
          · exact ⟨j, m', by omega, h2, h3⟩, fun ⟨j, m', h1, h2, h3⟩ => ⟨j, m', by omega, h2, h3⟩⟩
      rw [dec_f e, if_neg (by simp), h2]
      exact ih (i + 1) (by omega) (by omega)

theorem call11 (hL : l.length < 2 ^ 39) {S : List P2} (hS : MemE l S) (has no : Int) (lo : List Nat) (H : Heap) :
    callA cfg O 11 [Rw enc n1 t1 l, V n2 t2 zs, I has, I no] lo H = some (B (cl l.length S has no zs), H) := by
  refine callA_args (H' := []) (rs := [B (cl l.length S has no zs)]) rfl rfl ?_ rfl
  rw [f11_eq]
  refine Eq.trans (loop11a (n1 := n1) (t1 := t1) (n2 := n2) (t2 := t2) (zs := zs) hL (I has) (I no) zs.length 0 rfl (by omega) (rs_nil _)) ?_
  unfold cl
  by_cases hr : Rs l.length zs
  · rw [dec_iff.mpr hr, if_pos rfl]
    refine Eq.trans (loop11c (n1 := n1) (t1 := t1) (n2 := n2) (t2 := t2) hL hr has no zs.length 0 rfl (by omega)) ?_
    have key : dec (Miss2 l zs 0) = S.any (bad zs) := by
      rw [Bool.eq_iff_iff, dec_iff, List.any_eq_true]
      constructor
      · rintro ⟨j, m, _, h2, q, _, h4, h5, h6⟩
        have hm := hr.2 _ (List.mem_of_getElem? h2)
        refine ⟨((q : Int), (m : Int)), (hS _).mpr ⟨q, m, rfl, by omega, h5⟩, ?_⟩
        unfold bad
        simp [List.mem_of_getElem? h2, h6]
      · rintro ⟨p, hp, hb⟩
        obtain ⟨q, m, rfl, hm, he⟩ := (hS p).mp hp
        unfold bad at hb
        simp at hb
        obtain ⟨j, hj, h2⟩ := List.mem_iff_getElem.mp hb.1
        exact ⟨j, m, by omega, by rw [List.getElem?_eq_getElem hj, h2], q, by omega, he.1, he, hb.2⟩
    rw [key]
    cases S.any (bad zs) <;> cases decide (has ∈ zs) <;> cases decide (no ∈ zs) <;> rfl
  · rw [dec_f hr, if_neg (by simp)]
    rfl
end
end Ra
end Go.Proofs.Ytfdnamedmjhcfaa

/- Races: all that lead to a place, gathered by the edges from the last one down (plain law). -/
set_option linter.unusedVariables false
set_option linter.unusedSimpArgs false
namespace Go.Proofs.Ytfdnamedmjhcfaa
open Go Go.AM Go.AM.Ck Cl
namespace Ra

def step (p : P2) (zs : List Int) : List Int := if p.2 ∈ zs ∧ ¬ p.1 ∈ zs then zs ++ [p.1] else zs
def gat (S : List P2) (zs : List Int) : List Int := S.foldr step zs

theorem step_mono {p : P2} {zs : List Int} {x : Int} (h : x ∈ zs) : x ∈ step p zs := by
  unfold step
  split
  · exact List.mem_append_left _ h
  · exact h
theorem step_mem {p : P2} {zs : List Int} {x : Int} (h : x ∈ step p zs) : x ∈ zs ∨ (x = p.1 ∧ p.2 ∈ zs) := by
  unfold step at h
  split at h
  · rename_i h1
    rcases List.mem_append.1 h with h | h
    · exact .inl h
    · simp at h; exact .inr ⟨h, h1.1⟩
  · exact .inl h
theorem gat_mono {S : List P2} {zs : List Int} {x : Int} (h : x ∈ zs) : x ∈ gat S zs := by
  induction S with
  | nil => exact h
  | cons p S ih => exact step_mono ih
theorem gat_mem {S : List P2} {zs : List Int} {x : Int} (h : x ∈ gat S zs) : x ∈ zs ∨ ∃ p ∈ S, x = p.1 := by
  induction S with
  | nil => exact .inl h
  | cons p S ih =>
    rcases step_mem (show x ∈ step p (gat S zs) from h) with h | ⟨h, _⟩
    · rcases ih h with h | ⟨q, hq, e⟩
      · exact .inl h
      · exact .inr ⟨q, by simp [hq], e⟩
    · exact .inr ⟨p, by simp, h⟩
theorem gat_append (S T : List P2) (zs : List Int) : gat (S ++ T) zs = gat S (gat T zs) := by
  unfold gat
  rw [List.foldr_append]
theorem gat_nodup {S : List P2} {zs : List Int} (h : zs.Nodup) : (gat S zs).Nodup := by
  induction S with
  | nil => exact h
  | cons p S ih =>
    show (step p (gat S zs)).Nodup
    unfold step
    split
    · rename_i h1
      rw [List.nodup_append]
      refine ⟨ih, by simp, fun a ha b hb e => ?_⟩
      simp at hb
      subst hb
      subst e
      exact h1.2 ha
    · exact ih
theorem gat_len (S : List P2) (zs : List Int) : (gat S zs).length ≤ zs.length + S.length := by
  induction S with
  | nil => simp [gat]
  | cons p S ih =>
    have e : (step p (gat S zs)).length ≤ (gat S zs).length + 1 := by
      unfold step
      split
      · simp
      · omega
    show (step p (gat S zs)).length ≤ _
    simp only [List.length_cons]
    omega

section
variable {l : List E} {S : List P2}
theorem gat_sound (hS : MemE l S) {n : Nat} {x : Int} : ∀ T : List P2, (∀ p ∈ T, p ∈ S) → x ∈ gat T [(n : Int)] → ∃ i : Nat, x = i ∧ (i = n ∨ Bf (ED l) i n) := by
  intro T
  induction T generalizing x with
  | nil => intro _ h; simp [gat] at h; exact ⟨n, h, .inl rfl⟩
  | cons p T ih =>
    intro hT h
    rcases step_mem (show x ∈ step p (gat T [(n : Int)]) from h) with h2 | ⟨e2, h2⟩
    · exact ih (fun q hq => hT q (by simp [hq])) h2
    · subst e2
      obtain ⟨i, hi, hb⟩ := ih (fun q hq => hT q (by simp [hq])) h2
      obtain ⟨a, y, rfl, hy, he⟩ := (hS p).mp (hT p (by simp))
      have : i = y := by simp at hi; omega
      subst this
      refine ⟨a, rfl, .inr ?_⟩
      exact bf_head.mpr ⟨i, he, hb⟩

theorem gat_closed (hS : MemE l S) (hp : S.Pairwise plt) {n : Nat} {i j : Nat} (he : ED l i j) (hj : j < l.length) (h : (j : Int) ∈ gat S [(n : Int)]) : (i : Int) ∈ gat S [(n : Int)] := by
  have hm : ((i : Int), (j : Int)) ∈ S := (hS _).mpr ⟨i, j, rfl, hj, he⟩
  obtain ⟨A, T, rfl⟩ := List.append_of_mem hm
  have hp' := List.pairwise_append.mp hp
  rw [gat_append] at h ⊢
  have h1 : (j : Int) ∈ gat (((i : Int), (j : Int)) :: T) [(n : Int)] := by
    rcases gat_mem h with h | ⟨p, hpA, e⟩
    · exact h
    · have h2 := hp'.2.2 p hpA ((i : Int), (j : Int)) (by simp)
      obtain ⟨a, y, rfl, hy, he'⟩ := (hS p).mp (by simp [hpA])
      have := he'.1
      unfold plt at h2
      simp at h2 e
      omega
  have h2 : (j : Int) ∈ gat T [(n : Int)] := by
    rcases step_mem (show (j : Int) ∈ step _ (gat T [(n : Int)]) from h1) with h | ⟨e, _⟩
    · exact h
    · have := he.1
      simp at e
      omega
  refine gat_mono ?_
  show (i : Int) ∈ step ((i : Int), (j : Int)) (gat T [(n : Int)])
  by_cases h3 : (i : Int) ∈ gat T [(n : Int)]
  · exact step_mono h3
  · unfold step
    rw [if_pos ⟨h2, h3⟩]
    simp

theorem ed_lt {i j : Nat} (h : ED l i j) : i < j := h.1
theorem bf_ltE {i j : Nat} (h : Bf (ED l) i j) : i < j := by
  induction h with
  | single h => exact h.1
  | tail _ h ih => exact Nat.lt_trans ih h.1

theorem gat_iff (hS : MemE l S) (hp : S.Pairwise plt) {n : Nat} (hn : n < l.length) (x : Int) : x ∈ gat S [(n : Int)] ↔ ∃ i : Nat, x = i ∧ (i = n ∨ Bf (ED l) i n) := by
  constructor
  · exact gat_sound hS S fun _ h => h
  · rintro ⟨i, rfl, rfl | hb⟩
    · exact gat_mono (by simp)
    · have : ∀ i j, Bf (ED l) i j → j < l.length → (j : Int) ∈ gat S [(n : Int)] → (i : Int) ∈ gat S [(n : Int)] := by
        intro i j h
        induction h with
        | single h => exact fun hj hm => gat_closed hS hp h hj hm
        | tail h1 h2 ih => exact fun hj hm => ih (Nat.lt_trans h2.1 hj) (gat_closed hS hp h2 hj hm)
      exact this i n hb hn (gat_mono (by simp))

/-- The places that lead to one, and it: rising. -/
noncomputable def way (l : List E) (n : Nat) : List Int := flt (fun k => dec (Bf (ED l) k n) || decide (k = n)) (n + 1)

theorem flt_pair (p : Nat → Bool) (m : Nat) : (flt p m).Pairwise (· < ·) := by
  unfold flt
  rw [List.pairwise_map]
  exact (List.Pairwise.filter _ List.pairwise_lt_range).imp fun h => by omega
theorem flt_memI (p : Nat → Bool) (m : Nat) (x : Int) : x ∈ flt p m ↔ ∃ i : Nat, x = i ∧ i < m ∧ p i = true := by
  unfold flt
  simp only [List.mem_map, List.mem_filter, List.mem_range]
  constructor
  · rintro ⟨i, ⟨h1, h2⟩, rfl⟩; exact ⟨i, rfl, h1, h2⟩
  · rintro ⟨i, rfl, h1, h2⟩; exact ⟨i, ⟨h1, h2⟩, rfl⟩

theorem rise_eq : ∀ (a b : List Int), a.Pairwise (· < ·) → b.Pairwise (· < ·) → (∀ x, x ∈ a ↔ x ∈ b) → a = b
  | [], [], _, _, _ => rfl
  | [], y :: b, _, _, h => by have := (h y).mpr (by simp); cases this
  | x :: a, [], _, _, h => by have := (h x).mp (by simp); cases this
  | x :: a, y :: b, ha, hb, h => by
    have ha' := List.pairwise_cons.mp ha
    have hb' := List.pairwise_cons.mp hb
    have e : x = y := by
      rcases List.mem_cons.mp ((h x).mp (by simp)) with e | e
      · exact e
      · rcases List.mem_cons.mp ((h y).mpr (by simp)) with e2 | e2
        · exact e2.symm
        · have := ha'.1 y e2; have := hb'.1 x e; omega
    subst e
    rw [rise_eq a b ha'.2 hb'.2 fun z => ?_]
    constructor
    · intro hz
      rcases List.mem_cons.mp ((h z).mp (by simp [hz])) with e | e
      · have := ha'.1 z hz; omega
      · exact e
    · intro hz
      rcases List.mem_cons.mp ((h z).mpr (by simp [hz])) with e | e
      · have := hb'.1 z hz; omega
      · exact e

theorem gat_way (hS : MemE l S) (hp : S.Pairwise plt) {n : Nat} (hn : n < l.length) : (gat S [(n : Int)]).mergeSort (fun x y => decide (x ≤ y)) = way l n := by
  have hperm := List.mergeSort_perm (gat S [(n : Int)]) (fun x y => decide (x ≤ y))
  have hs : ((gat S [(n : Int)]).mergeSort fun x y => decide (x ≤ y)).Pairwise fun x y => decide (x ≤ y) = true := List.pairwise_mergeSort (fun a b c h1 h2 => by simp at *; omega) (fun a b => by simp; omega) _
  have hnd : ((gat S [(n : Int)]).mergeSort fun x y => decide (x ≤ y)).Nodup := hperm.nodup_iff.mpr (gat_nodup (by simp))
  refine rise_eq _ _ (List.Pairwise.imp₂ (fun {a b} h1 h2 => ?_) hs hnd) (flt_pair _ _) fun x => ?_
  · simp at h1
    omega
  · rw [hperm.mem_iff, gat_iff hS hp hn]
    unfold way
    rw [flt_memI]
    constructor
    · rintro ⟨i, rfl, h⟩
      refine ⟨i, rfl, ?_, ?_⟩
      · rcases h with rfl | h
        · omega
        · have := bf_ltE h; omega
      · rcases h with rfl | h
        · simp
        · rw [dec_iff.mpr h]; rfl
    · rintro ⟨i, rfl, _, h⟩
      refine ⟨i, rfl, ?_⟩
      rcases Bool.or_eq_true_iff.mp h with h | h
      · exact .inr (dec_iff.mp h)
      · exact .inl (by simpa using h)
end
end Ra
end Go.Proofs.Ytfdnamedmjhcfaa
