/-
Arguments of their types, taken apart.
-/
import Derived.Test.YtfdnamedmjhcfaaDoorAm17
set_option linter.unusedVariables false
set_option linter.unusedSectionVars false
set_option linter.unusedSimpArgs false
namespace Go.AM
section
variable {P : Program}

theorem TyC.pos {t : TypeId} {xs : List PV} {m : Nat} (h : TyC P t xs m) : 1 ≤ m := by
  cases h <;> omega

theorem ty_int {t : TypeId} {k : IntKind} {xs : List PV} {m : Nat} (h : TyC P t xs m) (hu : P.underlying t = some (.int k)) : ∃ z, xs = [.v (.int k z)] ∧ (Lit.int k z).wf = true := by
  cases h with
  | int n h hw => rw [hu] at h; cases h; exact ⟨n, rfl, hw⟩
  | bool _ h => rw [hu] at h; cases h
  | str _ h => rw [hu] at h; cases h
  | nil h => rw [hu] at h; cases h
  | sl _ h => rw [hu] at h; cases h
  | struct _ h => rw [hu] at h; cases h
  | arr _ h => rw [hu] at h; cases h

theorem ty_bool {t : TypeId} {xs : List PV} {m : Nat} (h : TyC P t xs m) (hu : P.underlying t = some .bool) : ∃ b, xs = [.v (.bool b)] := by
  cases h with
  | bool b h => exact ⟨b, rfl⟩
  | int _ h => rw [hu] at h; cases h
  | str _ h => rw [hu] at h; cases h
  | nil h => rw [hu] at h; cases h
  | sl _ h => rw [hu] at h; cases h
  | struct _ h => rw [hu] at h; cases h
  | arr _ h => rw [hu] at h; cases h

theorem ty_str {t : TypeId} {xs : List PV} {m : Nat} (h : TyC P t xs m) (hu : P.underlying t = some .string) : ∃ s : ByteArray, xs = [.v (.string s)] ∧ s.size < m := by
  cases h with
  | str s h hs hm => exact ⟨s, rfl, hm⟩
  | int _ h => rw [hu] at h; cases h
  | bool _ h => rw [hu] at h; cases h
  | nil h => rw [hu] at h; cases h
  | sl _ h => rw [hu] at h; cases h
  | struct _ h => rw [hu] at h; cases h
  | arr _ h => rw [hu] at h; cases h

theorem ty_struct {t : TypeId} {fs : Array Field} {xs : List PV} {m : Nat} (h : TyC P t xs m) (hu : P.underlying t = some (.struct fs)) : xs.length = P.cellsOf t ∧
    ∀ (i : Nat) fd, fs.toList[i]? = some fd → ∃ m', m' ≤ m ∧ TyC P fd.type ((xs.drop fd.offset).take (P.cellsOf fd.type)) m' := by
  cases h with
  | struct ms h hl hx hm =>
    rw [hu] at h
    cases h
    refine ⟨hl, fun i fd hi => ⟨_, ?_, hx i fd hi⟩⟩
    have : ms.getD i 0 ≤ ms.sum := by
      clear hm hx
      induction ms generalizing i with
      | nil => simp
      | cons a l ih =>
        cases i with
        | zero => simp
        | succ i =>
          have : l.getD i 0 ≤ l.sum := by
            clear ih hi
            induction l generalizing i with
            | nil => simp
            | cons b l ih2 =>
              cases i with
              | zero => simp
              | succ i => have := ih2 i; simp at this ⊢; omega
          simp at this ⊢
          omega
    omega
  | int _ h => rw [hu] at h; cases h
  | str _ h => rw [hu] at h; cases h
  | nil h => rw [hu] at h; cases h
  | sl _ h => rw [hu] at h; cases h
  | bool _ h => rw [hu] at h; cases h
  | arr _ h => rw [hu] at h; cases h

theorem getD_le_sum : ∀ (ms : List Nat) (i : Nat), ms.getD i 0 ≤ ms.sum := by
  intro ms
  induction ms with
  | nil => intro i; simp
  | cons a l ih =>
    intro i
    cases i with
    | zero => simp
    | succ i => have := ih i; simp at this ⊢; omega

theorem len_le_sum : ∀ (ms : List Nat), (∀ i, i < ms.length → 1 ≤ ms.getD i 0) → ms.length ≤ ms.sum := by
  intro ms
  induction ms with
  | nil => intro _; simp
  | cons a l ih =>
    intro h
    have h0 := h 0 (by simp)
    have := ih fun i hi => by simpa using h (i + 1) (by simpa using hi)
    simp at h0 ⊢
    omega

theorem rows_split {α : Type} {k : Nat} {enc : α → List PV} {Q : α → Prop} : ∀ (n : Nat) (xs : List PV), xs.length = n * k → (∀ i, i < n → ∃ p, (xs.drop (i * k)).take k = enc p ∧ Q p) → ∃ ps : List α, ps.length = n ∧ xs = ps.flatMap enc ∧ ∀ p ∈ ps, Q p := by
  intro n
  induction n with
  | zero => intro xs hl _; exact ⟨[], rfl, by simpa using hl, fun p hp => by cases hp⟩
  | succ n ih =>
    intro xs hl h
    obtain ⟨p, hp, hq⟩ := h 0 (by omega)
    rw [Nat.add_mul] at hl
    obtain ⟨ps, h1, h2, h3⟩ := ih (xs.drop k) (by simp; omega) fun i hi => by
      obtain ⟨p', hp', hq'⟩ := h (i + 1) (by omega)
      refine ⟨p', ?_, hq'⟩
      rw [List.drop_drop, show k + i * k = (i + 1) * k by rw [Nat.add_mul]; omega]
      exact hp'
    refine ⟨p :: ps, by simp [h1], ?_, fun q hq' => ?_⟩
    · rw [List.flatMap_cons, ← h2]
      simp at hp
      rw [← hp, List.take_append_drop]
    · rcases List.mem_cons.mp hq' with e | e
      · rw [e]; exact hq
      · exact h3 q e

/-- A slice's argument, by its elements. -/
theorem ty_slice {t e : TypeId} {xs : List PV} {m : Nat} (h : TyC P t xs m) (hu : P.underlying t = some (.slice e)) {α : Type} (enc : α → List PV) (Q : α → Prop) (hrow : ∀ r m', m' < m → TyC P e r m' → ∃ p, r = enc p ∧ Q p) :
    ∃ nl, ∃ ps : List α, xs = [.sl nl false ps.length (ps.flatMap enc)] ∧ ps.length < m ∧ ps.length ≤ maxLen ∧ ∀ p ∈ ps, Q p := by
  cases h with
  | nil h hm => exact ⟨some true, [], rfl, by simp; omega, Nat.zero_le _, fun p hp => by cases hp⟩
  | @sl _ e' _ n ys ms h hmax hn hl hx hm =>
    rw [hu] at h
    cases h
    obtain ⟨ps, h1, h2, h3⟩ := rows_split (k := P.cellsOf e) (enc := enc) (Q := Q) n ys hl fun i hi => hrow _ _ (by have := getD_le_sum ms i; omega) (hx i hi)
    refine ⟨some false, ps, by rw [h1, ← h2], ?_, by omega, h3⟩
    have := len_le_sum ms fun i hi => (hx i (by omega)).pos
    omega
  | int _ h => rw [hu] at h; cases h
  | str _ h => rw [hu] at h; cases h
  | bool _ h => rw [hu] at h; cases h
  | struct _ h => rw [hu] at h; cases h
  | arr _ h => rw [hu] at h; cases h

theorem flat_ints (zs : List Int) : (zs.flatMap fun z => [Ia z]) = zs.map Ia := by
  induction zs with
  | nil => rfl
  | cons z zs ih => simp [ih]

/-- A list of whole numbers. -/
theorem ty_ints {t e : TypeId} {xs : List PV} {m : Nat} (h : TyC P t xs m) (hu : P.underlying t = some (.slice e)) (he : P.underlying e = some (.int .i64)) : ∃ nl, ∃ zs : List Int, xs = [.sl nl false zs.length (zs.map Ia)] ∧ zs.length < m ∧ zs.length ≤ maxLen := by
  obtain ⟨nl, zs, h1, h2, h3, _⟩ := ty_slice h hu (fun z : Int => [Ia z]) (fun _ => True) fun r m' _ hr => by
    obtain ⟨z, hz, _⟩ := ty_int hr he
    exact ⟨z, hz, trivial⟩
  exact ⟨nl, zs, by rw [h1, flat_ints], h2, h3⟩

theorem tyArgs_cons {t : TypeId} {ts : List TypeId} {avs : List AV} {m : Nat} (h : TyArgs P (t :: ts) avs m) : ∃ xs avs' m', avs = argAV P t xs :: avs' ∧ TyC P t xs m ∧ TyArgs P ts avs' m' ∧ m' ≤ m := by
  cases h with
  | cons h h' hm => exact ⟨_, _, _, rfl, h.mono (by omega), h', by omega⟩

theorem TyArgs.mono {ts : List TypeId} {avs : List AV} {m m' : Nat} (h : TyArgs P ts avs m) (hm : m ≤ m') : TyArgs P ts avs m' := by
  cases h with
  | nil => exact .nil _
  | cons h h' h1 => exact .cons h h' (by omega)

theorem tyArgs_nil {avs : List AV} {m : Nat} (h : TyArgs P [] avs m) : avs = [] := by
  cases h; rfl

theorem argAV_one {t : TypeId} {x : PV} (h : isAggT P t = false) : argAV P t [x] = .p x := by
  unfold isAggT at h
  unfold argAV
  split
  · rename_i e; rw [e] at h; cases h
  · rename_i e; rw [e] at h; cases h
  · rfl

/-- A struct's fields: types and places. -/
def structIs (P : Program) (t : TypeId) (l : List (TypeId × Nat)) : Bool :=
  match P.underlying t with
  | some (.struct fs) => decide (fs.toList.map (fun f => (f.type, f.offset)) = l)
  | _ => false

theorem ty_fields {t : TypeId} {l : List (TypeId × Nat)} {xs : List PV} {m : Nat} (hs : structIs P t l = true) (h : TyC P t xs m) : xs.length = P.cellsOf t ∧
    ∀ (i u o : Nat), l[i]? = some (u, o) → ∃ m', m' ≤ m ∧ TyC P u ((xs.drop o).take (P.cellsOf u)) m' := by
  unfold structIs at hs
  split at hs
  · rename_i fs hu
    have e := of_decide_eq_true hs
    obtain ⟨h1, h2⟩ := ty_struct h hu
    refine ⟨h1, fun i u o hi => ?_⟩
    rw [← e, List.getElem?_map, Option.map_eq_some_iff] at hi
    obtain ⟨fd, e1, e2⟩ := hi
    cases e2
    exact h2 i fd e1
  · cases hs

theorem len1 {α : Type} {l : List α} (h : l.length = 1) : ∃ x, l = [x] := by
  match l, h with
  | [x], _ => exact ⟨x, rfl⟩
theorem len2 {α : Type} {l : List α} (h : l.length = 2) : ∃ x y, l = [x, y] := by
  match l, h with
  | [x, y], _ => exact ⟨x, y, rfl⟩
theorem len3 {α : Type} {l : List α} (h : l.length = 3) : ∃ x y z, l = [x, y, z] := by
  match l, h with
  | [x, y, z], _ => exact ⟨x, y, z, rfl⟩
theorem len4 {α : Type} {l : List α} (h : l.length = 4) : ∃ x y z u, l = [x, y, z, u] := by
  match l, h with
  | [x, y, z, u], _ => exact ⟨x, y, z, u, rfl⟩

end
end Go.AM
