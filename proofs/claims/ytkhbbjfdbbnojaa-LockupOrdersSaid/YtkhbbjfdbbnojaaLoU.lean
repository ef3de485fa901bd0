import Derived.Test.YtkhbbjfdbbnojaaLoT
import Derived.Test.YtkhbbjfdbbnojaaAm35
set_option linter.unusedVariables false
set_option linter.unusedSimpArgs false
namespace Go.Proofs.Ytkhbbjfdbbnojaa
open Go Go.AM
namespace Lo

abbrev E := A_Event
abbrev enc := enc_Event
theorem hE (p : E) : (enc p).length = 12 := rfl
def avE (e : E) : AV := .agg ((enc e).map .p)
abbrev bxE (e : E) : AObj := .box ((enc e).map .p)
def z0 : E := (0, 0, 0, 0, 0, 0, 0, 0, (0, 0), (0, 0))
def Kn (l : List E) (i : Nat) : Int := (l.getD i z0).1
def Th (l : List E) (i : Nat) : Int := (l.getD i z0).2.2.1
def Ea (l : List E) (i : Nat) : Int := (l.getD i z0).2.2.2.2.2.2.1

section
variable {l : List E} {nl : Option Bool} {tg : Bool}
theorem getl {i : Nat} (h : i < l.length) : l[i] = l.getD i z0 := by simp [List.getD_eq_getElem?_getD, h]
theorem idxE {i : Nat} (h : i < l.length) : idxA 12 (Rw enc nl tg l) (I i) = some (.fp (l.flatMap enc) (i * 12)) := idxR h
theorem fK {i : Nat} (h : i < l.length) (H : Heap) : ld false 1 (.fp (l.flatMap enc) (i * 12 + 0)) H = some (I (Kn l i)) := by rw [fldR hE h (by omega)]; unfold Kn; rw [← getl h]; rfl
theorem fT {i : Nat} (h : i < l.length) (H : Heap) : ld false 1 (.fp (l.flatMap enc) (i * 12 + 2)) H = some (I (Th l i)) := by rw [fldR hE h (by omega)]; unfold Th; rw [← getl h]; rfl
theorem fA {i : Nat} (h : i < l.length) (H : Heap) : ld false 1 (.fp (l.flatMap enc) (i * 12 + 6)) H = some (I (Ea l i)) := by rw [fldR hE h (by omega)]; unfold Ea; rw [← getl h]; rfl
theorem ldEv {i : Nat} (h : i < l.length) (H : Heap) : ld true 12 (.fp (l.flatMap enc) (i * 12)) H = some (avE (l.getD i z0)) := by rw [ldR hE h, getl h]; rfl
theorem ldFv {i : Nat} (h : i < l.length) : ldF true 12 (.fp (l.flatMap enc) (i * 12)) = some (avE (l.getD i z0)) := ldEv h []
theorem bK {H : Heap} {id i : Nat} (h : H[id]? = some (bxE (l.getD i z0))) : ld false 1 (.ptr id (0 + 0)) H = some (I (Kn l i)) := by rw [ld_box h]; rfl
theorem bT {H : Heap} {id i : Nat} (h : H[id]? = some (bxE (l.getD i z0))) : ld false 1 (.ptr id (0 + 2)) H = some (I (Th l i)) := by rw [ld_box h]; rfl
theorem bA {H : Heap} {id i : Nat} (h : H[id]? = some (bxE (l.getD i z0))) : ld false 1 (.ptr id (0 + 6)) H = some (I (Ea l i)) := by rw [ld_box h]; rfl

open Classical in
noncomputable def dec (p : Prop) : Bool := decide p
theorem dec_iff {p : Prop} : dec p = true ↔ p := by unfold dec; simp
theorem dec_congr {p q : Prop} (h : p ↔ q) : dec p = dec q := by
  rw [Bool.eq_iff_iff, dec_iff, dec_iff]; exact h

theorem dec_f {p : Prop} (h : ¬ p) : dec p = false := by
  cases h2 : dec p with
  | false => rfl
  | true => exact (h (dec_iff.mp h2)).elim
end

/-! ### What a thread has -/
section
variable (l : List E)
def hasL : Nat → Int → List Int
  | 0, _ => []
  | j + 1, t => if Th l j = t then (if Kn l j = 13 then (if Ea l j ∈ hasL j t then hasL j t else hasL j t ++ [Ea l j]) else if Kn l j = 14 then (hasL j t).filter (fun n => decide (n ≠ Ea l j)) else hasL j t) else hasL j t
def outL : Nat → List P2
  | 0 => []
  | j + 1 => outL j ++ if Kn l j = 13 then ((hasL l j (Th l j)).filter fun n => decide (n ≠ Ea l j)).map (fun n => (n, Ea l j)) else []
def lh (t a : Int) : Nat → Bool
  | 0 => false
  | j + 1 => if Th l j = t ∧ Ea l j = a ∧ Kn l j = 14 then false else if Th l j = t ∧ Ea l j = a ∧ Kn l j = 13 then true else lh t a j
def LO (a b : Int) : Prop := ∃ i, i < l.length ∧ Kn l i = 13 ∧ Ea l i = b ∧ a ≠ b ∧ lh l (Th l i) a i = true
end

section
variable {l : List E}
theorem has_nodup : ∀ j t, (hasL l j t).Nodup := by
  intro j
  induction j with
  | zero => intro t; exact .nil
  | succ j ih =>
    intro t
    unfold hasL
    by_cases h1 : Th l j = t
    · rw [if_pos h1]
      by_cases h2 : Kn l j = 13
      · rw [if_pos h2]
        by_cases h3 : Ea l j ∈ hasL l j t
        · rw [if_pos h3]; exact ih t
        · rw [if_neg h3, List.nodup_append]
          refine ⟨ih t, by simp, fun a ha b hb e => ?_⟩
          simp only [List.mem_singleton] at hb
          subst hb; subst e
          exact h3 ha
      · rw [if_neg h2]
        by_cases h3 : Kn l j = 14
        · rw [if_pos h3]; exact (ih t).filter _
        · rw [if_neg h3]; exact ih t
    · rw [if_neg h1]; exact ih t
theorem has_len : ∀ j t, (hasL l j t).length ≤ j := by
  intro j
  induction j with
  | zero => intro t; exact Nat.le_refl _
  | succ j ih =>
    intro t
    have := ih t
    have h4 : ((hasL l j t).filter fun n => decide (n ≠ Ea l j)).length ≤ (hasL l j t).length := List.length_filter_le _ _
    unfold hasL
    split
    · split
      · split
        · omega
        · simp; omega
      · split
        · omega
        · omega
    · omega
theorem out_len : ∀ j, j ≤ 200 → (outL l j).length ≤ j * 200 := by
  intro j
  induction j with
  | zero => intro _; exact Nat.le_refl _
  | succ j ih =>
    intro hj
    have h1 := ih (by omega)
    have h2 := has_len (l := l) j (Th l j)
    have h4 : ((hasL l j (Th l j)).filter fun n => decide (n ≠ Ea l j)).length ≤ (hasL l j (Th l j)).length := List.length_filter_le _ _
    unfold outL
    rw [List.length_append]
    split
    · rw [List.length_map]; omega
    · simp; omega
theorem mem_has : ∀ j t a, a ∈ hasL l j t ↔ lh l t a j = true := by
  intro j
  induction j with
  | zero => intro t a; simp [hasL, lh]
  | succ j ih =>
    intro t a
    unfold hasL lh
    by_cases h1 : Th l j = t
    · by_cases h2 : Kn l j = 13
      · have h14 : ¬ (Th l j = t ∧ Ea l j = a ∧ Kn l j = 14) := fun h => by omega
        rw [if_pos h1, if_pos h2, if_neg h14]
        by_cases h3 : Ea l j = a
        · rw [if_pos (c := Th l j = t ∧ Ea l j = a ∧ Kn l j = 13) ⟨h1, h3, h2⟩, h3]
          by_cases h4 : a ∈ hasL l j t
          · rw [if_pos h4]; simp [h4]
          · rw [if_neg h4]; simp
        · rw [if_neg (c := Th l j = t ∧ Ea l j = a ∧ Kn l j = 13) (fun h => h3 h.2.1), ← ih]
          by_cases h4 : Ea l j ∈ hasL l j t
          · rw [if_pos h4]
          · rw [if_neg h4]
            simp only [List.mem_append, List.mem_singleton]
            exact ⟨fun h => h.elim id fun e => (h3 e.symm).elim, .inl⟩
      · rw [if_pos h1, if_neg h2]
        by_cases h4 : Kn l j = 14
        · rw [if_pos h4]
          by_cases h3 : Ea l j = a
          · rw [if_pos ⟨h1, h3, h4⟩]
            simp [List.mem_filter, h3]
          · rw [if_neg (fun h => h3 h.2.1), if_neg (fun h => h3 h.2.1), ← ih]
            simp only [List.mem_filter, decide_eq_true_eq]
            exact ⟨fun h => h.1, fun h => ⟨h, fun e => h3 e.symm⟩⟩
        · rw [if_neg h4, if_neg (fun h => h4 h.2.2), if_neg (fun h => h2 h.2.2), ← ih]
    · rw [if_neg h1, if_neg (fun h => h1 h.1), if_neg (fun h => h1 h.1), ← ih]
theorem mem_out : ∀ j (p : P2), p ∈ outL l j ↔ ∃ i, i < j ∧ Kn l i = 13 ∧ Ea l i = p.2 ∧ p.1 ≠ p.2 ∧ lh l (Th l i) p.1 i = true := by
  intro j
  induction j with
  | zero => intro p; simp [outL]
  | succ j ih =>
    intro p
    unfold outL
    rw [List.mem_append, ih]
    have e : p ∈ (if Kn l j = 13 then ((hasL l j (Th l j)).filter fun n => decide (n ≠ Ea l j)).map (fun n => (n, Ea l j)) else []) ↔ Kn l j = 13 ∧ Ea l j = p.2 ∧ p.1 ≠ p.2 ∧ lh l (Th l j) p.1 j = true := by
      by_cases h : Kn l j = 13
      · rw [if_pos h]
        simp only [List.mem_map, List.mem_filter, decide_eq_true_eq, mem_has]
        constructor
        · rintro ⟨n, ⟨h1, h2⟩, rfl⟩
          exact ⟨h, rfl, h2, h1⟩
        · rintro ⟨_, h1, h2, h3⟩
          exact ⟨p.1, ⟨h3, fun e => h2 (e.trans h1)⟩, by rw [h1]⟩
      · rw [if_neg h]
        simp [h]
    rw [e]
    constructor
    · rintro (⟨i, h1, h2⟩ | h)
      · exact ⟨i, by omega, h2⟩
      · exact ⟨j, by omega, h⟩
    · rintro ⟨i, h1, h2⟩
      by_cases hi : i = j
      · subst hi; exact .inr h2
      · exact .inl ⟨i, by omega, h2⟩
theorem out_LO (p : P2) : p ∈ outL l l.length ↔ LO l p.1 p.2 := by
  rw [mem_out]
  exact ⟨fun ⟨i, h1, h2, h3, h4, h5⟩ => ⟨i, h1, h2, h3, h4, h5⟩, fun ⟨i, h1, h2, h3, h4, h5⟩ => ⟨i, h1, h2, h3, h4, h5⟩⟩

theorem cut_filter {zs : List Int} (h : zs.Nodup) {i : Nat} (hi : i < zs.length) {a : Int} (ha : zs[i] = a) : zs.take i ++ zs.drop (i + 1) = zs.filter fun n => decide (n ≠ a) := by
  have e : zs = zs.take i ++ zs[i] :: zs.drop (i + 1) := by rw [← List.drop_eq_getElem_cons hi, List.take_append_drop]
  have h2 := h
  rw [e, ha, List.nodup_append, List.nodup_cons] at h2
  conv => rhs; rw [e, ha, List.filter_append, List.filter_cons]
  have h3 : (zs.take i).filter (fun n => decide (n ≠ a)) = zs.take i := List.filter_eq_self.mpr fun x hx => by
    have := h2.2.2 x hx a (by simp)
    simpa using this
  have h4 : (zs.drop (i + 1)).filter (fun n => decide (n ≠ a)) = zs.drop (i + 1) := List.filter_eq_self.mpr fun x hx => by
    have : x ≠ a := fun e => h2.2.1.1 (e ▸ hx)
    simpa using this
  rw [h3, h4]
  simp
end
end Lo
end Go.Proofs.Ytkhbbjfdbbnojaa
