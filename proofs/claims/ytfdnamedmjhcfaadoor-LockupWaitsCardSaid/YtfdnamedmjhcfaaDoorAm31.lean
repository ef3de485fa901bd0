/-
Arguments that are arrays, taken apart.
-/
import Derived.Test.YtfdnamedmjhcfaaDoorAm19
set_option linter.unusedVariables false
set_option linter.unusedSectionVars false
set_option linter.unusedSimpArgs false
namespace Go.AM
section
variable {P : Program}

/-- An array's elements: types and places. -/
def arrIs (P : Program) (t : TypeId) (l : List (TypeId × Nat)) : Bool :=
  match P.underlying t with
  | some (.array n e) => decide (l = (List.range n).map fun i => (e, i * P.cellsOf e)) && Nat.beq (P.cellsOf t) (n * P.cellsOf e)
  | _ => false

theorem ty_arrM {t : TypeId} {l : List (TypeId × Nat)} {xs : List PV} {m : Nat} (hs : arrIs P t l = true) (h : TyC P t xs m) : xs.length = P.cellsOf t ∧
    ∃ g : Nat → Nat, (∀ (i u o : Nat), l[i]? = some (u, o) → TyC P u ((xs.drop o).take (P.cellsOf u)) (g i)) ∧ sumF g l.length + 1 ≤ m := by
  unfold arrIs at hs
  split at hs
  · rename_i n e hu
    rw [Bool.and_eq_true] at hs
    have e1 := of_decide_eq_true hs.1
    have e2 := Nat.eq_of_beq_eq_true hs.2
    cases h with
    | @arr _ e' n' _ _ ms h hl hx hm =>
      rw [hu] at h
      cases h
      refine ⟨by rw [hl, e2], fun i => ms.getD i 0, fun i u o hi => ?_, ?_⟩
      · rw [e1, List.getElem?_map, Option.map_eq_some_iff] at hi
        obtain ⟨j, k1, k2⟩ := hi
        cases k2
        have hj : i < n ∧ i = j := by
          have := List.getElem?_eq_some_iff.mp k1
          obtain ⟨q, hq⟩ := this
          simp at q hq
          exact ⟨q, hq⟩
        obtain ⟨hj, rfl⟩ := hj
        exact hx i hj
      · have := sumF_le l.length ms
        omega
    | int _ h => rw [hu] at h; cases h
    | str _ h => rw [hu] at h; cases h
    | nil h => rw [hu] at h; cases h
    | sl _ h => rw [hu] at h; cases h
    | bool _ h => rw [hu] at h; cases h
    | struct _ h => rw [hu] at h; cases h
  · cases hs
end

/-! ### Is a list nil? -/
theorem nl_known {P : Program} {t e : TypeId} (hu : P.underlying t = some (.slice e)) {nl : Option Bool} {tg : Bool} {n m : Nat} {ys : List PV} (h : TyC P t [.sl nl tg n ys] m) : nl = some false ∨ (nl = some true ∧ n = 0) := by
  generalize hx : [PV.sl nl tg n ys] = xs at h
  cases h with
  | nil h hm => cases hx; exact .inr ⟨rfl, rfl⟩
  | @sl _ e' _ n ys ms h hmax hn hl hx' hm => cases hx; exact .inl rfl
  | int _ h => rw [hu] at h; cases h
  | str _ h => rw [hu] at h; cases h
  | bool _ h => rw [hu] at h; cases h
  | struct _ h => rw [hu] at h; cases h
  | arr _ h => rw [hu] at h; cases h
def Kn {α : Type} (p : Option Bool × List α) : Prop := p.1 = some false ∨ (p.1 = some true ∧ p.2 = [])
theorem ty_sliceK {P : Program} {t e : TypeId} {xs : List PV} {m : Nat} (h : TyC P t xs m) (hu : P.underlying t = some (.slice e)) {α : Type} (enc : α → List PV) (Q : α → Prop) (sz : α → Nat) (hrow : ∀ r m', TyC P e r m' → ∃ p, r = enc p ∧ Q p ∧ sz p ≤ m') :
    ∃ nl, ∃ ps : List α, xs = [.sl nl false ps.length (ps.flatMap enc)] ∧ ps.length ≤ maxLen ∧ (∀ p ∈ ps, Q p) ∧ Kn (nl, ps) ∧ (ps.map sz).sum + 1 ≤ m := by
  obtain ⟨nl, ps, rfl, h2, h3, h4⟩ := ty_sliceM h hu enc Q sz hrow
  exact ⟨nl, ps, rfl, h2, h3, (nl_known hu h).imp (fun h => h) (fun h => ⟨h.1, List.length_eq_zero_iff.mp h.2⟩), h4⟩
end Go.AM
