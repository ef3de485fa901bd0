/-
Arguments of their types, taken apart, with their bulk.
-/
import Derived.Test.YtfdnamedmjhcfaaDoorAm18
set_option linter.unusedVariables false
set_option linter.unusedSectionVars false
set_option linter.unusedSimpArgs false
namespace Go.AM

def sumF : (Nat → Nat) → Nat → Nat
  | _, 0 => 0
  | g, n + 1 => g 0 + sumF (fun i => g (i + 1)) n

theorem sumF_le : ∀ (n : Nat) (ms : List Nat), sumF (fun i => ms.getD i 0) n ≤ ms.sum := by
  intro n
  induction n with
  | zero => intro ms; simp [sumF]
  | succ n ih =>
    intro ms
    cases ms with
    | nil =>
      have h : ∀ n, sumF (fun i => ([] : List Nat).getD i 0) n = 0 := by
        intro n
        induction n with
        | zero => rfl
        | succ n ih => simpa [sumF] using ih
      rw [h]; simp
    | cons a l =>
      have := ih l
      simp only [sumF, List.sum_cons]
      simp at this ⊢
      omega

section
variable {P : Program}

theorem rows_splitM {α : Type} {k : Nat} {enc : α → List PV} {Q : α → Prop} {sz : α → Nat} : ∀ (n : Nat) (g : Nat → Nat) (xs : List PV), xs.length = n * k → (∀ i, i < n → ∃ p, (xs.drop (i * k)).take k = enc p ∧ Q p ∧ sz p ≤ g i) →
    ∃ ps : List α, ps.length = n ∧ xs = ps.flatMap enc ∧ (∀ p ∈ ps, Q p) ∧ (ps.map sz).sum ≤ sumF g n := by
  intro n
  induction n with
  | zero => intro g xs hl _; exact ⟨[], rfl, by simpa using hl, fun p hp => (by cases hp), by simp [sumF]⟩
  | succ n ih =>
    intro g xs hl h
    obtain ⟨p, hp, hq, hs⟩ := h 0 (by omega)
    rw [Nat.add_mul] at hl
    obtain ⟨ps, h1, h2, h3, h4⟩ := ih (fun i => g (i + 1)) (xs.drop k) (by simp; omega) fun i hi => by
      obtain ⟨p', hp', hq'⟩ := h (i + 1) (by omega)
      refine ⟨p', ?_, hq'⟩
      rw [List.drop_drop, show k + i * k = (i + 1) * k by rw [Nat.add_mul]; omega]
      exact hp'
    refine ⟨p :: ps, by simp [h1], ?_, fun q hq' => ?_, ?_⟩
    · rw [List.flatMap_cons, ← h2]
      simp at hp
      rw [← hp, List.take_append_drop]
    · rcases List.mem_cons.mp hq' with e | e
      · rw [e]; exact hq
      · exact h3 q e
    · simp only [List.map_cons, List.sum_cons, sumF]
      omega

/-- A slice's argument, by its elements, with its bulk. -/
theorem ty_sliceM {t e : TypeId} {xs : List PV} {m : Nat} (h : TyC P t xs m) (hu : P.underlying t = some (.slice e)) {α : Type} (enc : α → List PV) (Q : α → Prop) (sz : α → Nat) (hrow : ∀ r m', TyC P e r m' → ∃ p, r = enc p ∧ Q p ∧ sz p ≤ m') :
    ∃ nl, ∃ ps : List α, xs = [.sl nl false ps.length (ps.flatMap enc)] ∧ ps.length ≤ maxLen ∧ (∀ p ∈ ps, Q p) ∧ (ps.map sz).sum + 1 ≤ m := by
  cases h with
  | nil h hm => exact ⟨some true, [], rfl, Nat.zero_le _, fun p hp => (by cases hp), by simpa using hm⟩
  | @sl _ e' _ n ys ms h hmax hn hl hx hm =>
    rw [hu] at h
    cases h
    obtain ⟨ps, h1, h2, h3, h4⟩ := rows_splitM (k := P.cellsOf e) (enc := enc) (Q := Q) (sz := sz) n (fun i => ms.getD i 0) ys hl fun i hi => hrow _ _ (hx i hi)
    refine ⟨some false, ps, by rw [h1, ← h2], by omega, h3, ?_⟩
    have := sumF_le n ms
    omega
  | int _ h => rw [hu] at h; cases h
  | str _ h => rw [hu] at h; cases h
  | bool _ h => rw [hu] at h; cases h
  | struct _ h => rw [hu] at h; cases h
  | arr _ h => rw [hu] at h; cases h

theorem ty_intM {t : TypeId} {k : IntKind} {xs : List PV} {m : Nat} (h : TyC P t xs m) (hu : P.underlying t = some (.int k)) : ∃ z, xs = [.v (.int k z)] ∧ (Lit.int k z).wf = true ∧ 1 ≤ m :=
  let ⟨z, h1, h2⟩ := ty_int h hu
  ⟨z, h1, h2, h.pos⟩

theorem ty_boolM {t : TypeId} {xs : List PV} {m : Nat} (h : TyC P t xs m) (hu : P.underlying t = some .bool) : ∃ b, xs = [.v (.bool b)] ∧ True ∧ 1 ≤ m :=
  let ⟨b, h1⟩ := ty_bool h hu
  ⟨b, h1, trivial, h.pos⟩

theorem ty_strM {t : TypeId} {xs : List PV} {m : Nat} (h : TyC P t xs m) (hu : P.underlying t = some .string) : ∃ s : ByteArray, xs = [.v (.string s)] ∧ s.size ≤ maxLen ∧ s.size + 1 ≤ m := by
  cases h with
  | str s h hs hm => exact ⟨s, rfl, hs, hm⟩
  | int _ h => rw [hu] at h; cases h
  | bool _ h => rw [hu] at h; cases h
  | nil h => rw [hu] at h; cases h
  | sl _ h => rw [hu] at h; cases h
  | struct _ h => rw [hu] at h; cases h
  | arr _ h => rw [hu] at h; cases h

theorem ty_fieldsM {t : TypeId} {l : List (TypeId × Nat)} {xs : List PV} {m : Nat} (hs : structIs P t l = true) (h : TyC P t xs m) : xs.length = P.cellsOf t ∧
    ∃ g : Nat → Nat, (∀ (i u o : Nat), l[i]? = some (u, o) → TyC P u ((xs.drop o).take (P.cellsOf u)) (g i)) ∧ sumF g l.length + 1 ≤ m := by
  unfold structIs at hs
  split at hs
  · rename_i fs hu
    have e := of_decide_eq_true hs
    cases h with
    | @struct _ fs' _ _ ms h hl hx hm =>
      rw [hu] at h
      cases h
      refine ⟨hl, fun i => ms.getD i 0, fun i u o hi => ?_, ?_⟩
      · rw [← e, List.getElem?_map, Option.map_eq_some_iff] at hi
        obtain ⟨fd, e1, e2⟩ := hi
        cases e2
        exact hx i fd e1
      · have := sumF_le l.length ms
        omega
    | int _ h => rw [hu] at h; cases h
    | str _ h => rw [hu] at h; cases h
    | nil h => rw [hu] at h; cases h
    | sl _ h => rw [hu] at h; cases h
    | bool _ h => rw [hu] at h; cases h
    | arr _ h => rw [hu] at h; cases h
  · cases hs

theorem argAV_agg {t : TypeId} {xs : List PV} (h : isAggT P t = true) : argAV P t xs = .agg (xs.map .p) := by
  unfold isAggT at h
  unfold argAV
  split
  · rfl
  · rfl
  · rename_i h1 h2
    split at h
    · rename_i hu; exact (h1 _ hu).elim
    · rename_i hu; exact (h2 _ _ hu).elim
    · cases h

theorem flat_one {α : Type} (f : α → PV) (zs : List α) : (zs.flatMap fun z => [f z]) = zs.map f := by
  induction zs with
  | nil => rfl
  | cons z zs ih => simp [ih]

end
end Go.AM
