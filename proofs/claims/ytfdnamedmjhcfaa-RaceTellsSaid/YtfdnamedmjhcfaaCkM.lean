import Derived.Test.YtfdnamedmjhcfaaAm24
set_option linter.unusedVariables false
set_option linter.unusedSimpArgs false
namespace Go.AM
namespace Ck
open Classical

/-! ### How many there are -/
noncomputable def cn (p : Nat → Prop) : Nat → Nat
  | 0 => 0
  | n + 1 => cn p n + if p n then 1 else 0

theorem cn_mono {p q : Nat → Prop} : ∀ {n : Nat}, (∀ i, i < n → p i → q i) → cn p n ≤ cn q n := by
  intro n
  induction n with
  | zero => intro _; exact Nat.le_refl _
  | succ n ih =>
    intro h
    have h1 := ih fun i hi => h i (by omega)
    have h2 := h n (by omega)
    unfold cn
    by_cases a : p n
    · rw [if_pos a, if_pos (h2 a)]; omega
    · rw [if_neg a]; omega
theorem cn_congr {p q : Nat → Prop} {n : Nat} (h : ∀ i, i < n → (p i ↔ q i)) : cn p n = cn q n :=
  Nat.le_antisymm (cn_mono fun i hi => (h i hi).mp) (cn_mono fun i hi => (h i hi).mpr)
theorem cn_sub {p q : Nat → Prop} : ∀ {n : Nat}, (∀ i, i < n → p i → q i) → cn q n ≤ cn p n → ∀ i, i < n → q i → p i := by
  intro n
  induction n with
  | zero => intro _ _ i hi; omega
  | succ n ih =>
    intro h hle i hi hq
    have h1 : cn p n ≤ cn q n := cn_mono fun i hi => h i (by omega)
    unfold cn at hle
    by_cases a : p n
    · have a2 := h n (by omega) a
      rw [if_pos a, if_pos a2] at hle
      by_cases e : i = n
      · rw [e]; exact a
      · exact ih (fun i hi => h i (by omega)) (by omega) i (by omega) hq
    · rw [if_neg a] at hle
      by_cases b : q n
      · rw [if_pos b] at hle; omega
      · rw [if_neg b] at hle
        by_cases e : i = n
        · rw [e] at hq; exact (b hq).elim
        · exact ih (fun i hi => h i (by omega)) (by omega) i (by omega) hq
theorem cn_zero {p : Nat → Prop} : ∀ {n : Nat}, (∀ i, i < n → ¬ p i) → cn p n = 0 := by
  intro n
  induction n with
  | zero => intro _; rfl
  | succ n ih => intro h; unfold cn; rw [ih fun i hi => h i (by omega), if_neg (h n (by omega))]
theorem cn_le (p : Nat → Prop) : ∀ n, cn p n ≤ n := by
  intro n
  induction n with
  | zero => exact Nat.le_refl _
  | succ n ih => unfold cn; split <;> omega
theorem cn_one {p q : Nat → Prop} {j : Nat} : ∀ {n : Nat}, j < n → (∀ i, i < n → (q i ↔ p i ∨ i = j)) → ¬ p j → cn q n = cn p n + 1 := by
  intro n
  induction n with
  | zero => intro h; omega
  | succ n ih =>
    intro hj h hp
    unfold cn
    by_cases e : j = n
    · subst e
      rw [if_neg hp, if_pos ((h j hj).mpr (.inr rfl)), cn_congr (p := q) (q := p) fun i hi => (h i (by omega)).trans ⟨fun h2 => h2.elim id fun e => by omega, .inl⟩]
    · rw [ih (by omega) (fun i hi => h i (by omega)) hp]
      by_cases a : p n
      · rw [if_pos a, if_pos ((h n (by omega)).mpr (.inl a))]
      · rw [if_neg a, if_neg fun b => ((h n (by omega)).mp b).elim a fun e2 => e e2.symm]

theorem has_max {p : Nat → Prop} : ∀ {n : Nat}, (∃ i, i < n ∧ p i) → ∃ i, i < n ∧ p i ∧ ∀ m, m < n → p m → m ≤ i := by
  intro n
  induction n with
  | zero => rintro ⟨i, h, _⟩; omega
  | succ n ih =>
    rintro ⟨i, h1, h2⟩
    by_cases a : p n
    · exact ⟨n, by omega, a, fun m hm _ => by omega⟩
    · have hne : i ≠ n := fun e => a (e ▸ h2)
      obtain ⟨k, k1, k2, k3⟩ := ih ⟨i, by omega, h2⟩
      refine ⟨k, by omega, k2, fun m hm hp => ?_⟩
      have : m ≠ n := fun e => a (e ▸ hp)
      exact k3 m (by omega) hp

section
variable (R : Nat → Nat → Prop) (T : Nat → Int) (L : Nat)

def Bf (i j : Nat) : Prop := Relation.TransGen R i j
/-- Events lead forward, and each to its thread's next one. -/
structure Ok : Prop where
  lt : ∀ i j, R i j → i < j
  nx : ∀ i j, i < j → T i = T j → (∀ k, i < k → k < j → T k ≠ T j) → R i j

/-- A clock's place. -/
noncomputable def vc (j : Nat) (t : Int) : Nat := cn (fun n => T n = t ∧ (n = j ∨ Bf R n j)) L

variable {R T L}
theorem Bf.tr {i j k : Nat} (h1 : Bf R i j) (h2 : Bf R j k) : Bf R i k := Relation.TransGen.trans h1 h2
theorem bf_lt (h : Ok R T) {i j : Nat} (hb : Bf R i j) : i < j := by
  induction hb with
  | single h1 => exact h.lt _ _ h1
  | tail _ h1 ih => have := h.lt _ _ h1; omega
theorem bf_last {i j : Nat} : Bf R i j ↔ ∃ k, R k j ∧ (i = k ∨ Bf R i k) := by
  constructor
  · intro h
    cases h with
    | single h => exact ⟨i, h, .inl rfl⟩
    | tail h1 h2 => exact ⟨_, h2, .inr h1⟩
  · rintro ⟨k, h1, rfl | h2⟩
    · exact .single h1
    · exact .tail h2 h1
theorem bf_head {i j : Nat} : Bf R i j ↔ ∃ k, R i k ∧ (k = j ∨ Bf R k j) := by
  constructor
  · intro h
    induction h with
    | single h1 => exact ⟨_, h1, .inl rfl⟩
    | tail _ h1 ih =>
      obtain ⟨k, h2, rfl | h3⟩ := ih
      · exact ⟨_, h2, .inr (.single h1)⟩
      · exact ⟨k, h2, .inr (.tail h3 h1)⟩
  · rintro ⟨k, h1, rfl | h2⟩
    · exact .single h1
    · exact Relation.TransGen.trans (.single h1) h2
theorem chain (h : Ok R T) : ∀ (c i j : Nat), j - i = c → i < j → T i = T j → Bf R i j := by
  intro c
  induction c using Nat.strongRecOn with
  | ind c ih =>
    intro i j hc hij ht
    by_cases hk : ∃ k, i < k ∧ k < j ∧ T k = T j
    · obtain ⟨k, h1, h2, h3⟩ := hk
      exact (ih (k - i) (by omega) i k rfl h1 (ht.trans h3.symm)).tr (ih (j - k) (by omega) k j rfl h2 h3)
    · exact .single (h.nx i j hij ht fun k h1 h2 h3 => hk ⟨k, h1, h2, h3⟩)

theorem vc_le (h : Ok R T) {i j : Nat} {t : Int} (hr : R i j) : vc R T L i t ≤ cn (fun n => T n = t ∧ Bf R n j) L := by
  refine cn_mono fun n hn ⟨h1, h2⟩ => ⟨h1, ?_⟩
  exact bf_last.mpr ⟨i, hr, h2⟩
theorem vc_max (h : Ok R T) {j : Nat} (hj : j < L) (t : Int) : cn (fun n => T n = t ∧ Bf R n j) L = 0 ∨ ∃ i, R i j ∧ vc R T L i t = cn (fun n => T n = t ∧ Bf R n j) L := by
  by_cases he : ∃ n, n < L ∧ (T n = t ∧ Bf R n j)
  · right
    obtain ⟨n, h1, ⟨h2, h3⟩, h4⟩ := has_max he
    obtain ⟨i, hr, hi⟩ := bf_last.mp h3
    refine ⟨i, hr, Nat.le_antisymm (vc_le h hr) (cn_mono fun m hm ⟨h5, h6⟩ => ⟨h5, ?_⟩)⟩
    have hmn := h4 m hm ⟨h5, h6⟩
    by_cases e : m = n
    · rw [e]; exact hi
    · right
      have hb : Bf R m n := chain h _ m n rfl (by omega) (h5.trans h2.symm)
      rcases hi with rfl | hi
      · exact hb
      · exact hb.tr hi
  · left
    exact cn_zero fun n hn h1 => he ⟨n, hn, h1⟩
theorem vc_own (h : Ok R T) {j : Nat} (hj : j < L) : vc R T L j (T j) = cn (fun n => T n = T j ∧ Bf R n j) L + 1 := by
  refine cn_one hj (fun i hi => ⟨fun ⟨h1, h2⟩ => ?_, fun h1 => ?_⟩) fun h1 => ?_
  · rcases h2 with h2 | h2
    · exact .inr h2
    · exact .inl ⟨h1, h2⟩
  · rcases h1 with h1 | h1
    · exact ⟨h1.1, .inr h1.2⟩
    · exact ⟨by rw [h1], .inl h1⟩
  · have := bf_lt h h1.2; omega
theorem vc_other {j : Nat} {t : Int} (ht : T j ≠ t) : vc R T L j t = cn (fun n => T n = t ∧ Bf R n j) L := by
  refine cn_congr fun i hi => ⟨fun ⟨h1, h2⟩ => ⟨h1, h2.resolve_left fun e => ht (e ▸ h1)⟩, fun ⟨h1, h2⟩ => ⟨h1, .inr h2⟩⟩

/-- By clocks: who was ahead. -/
theorem vc_bf (h : Ok R T) {i j : Nat} (hi : i < L) (hj : j < L) (hne : i ≠ j) : vc R T L i (T i) ≤ vc R T L j (T i) ↔ Bf R i j := by
  constructor
  · intro hle
    refine Classical.byContradiction fun hn => ?_
    have key := cn_sub (p := fun n => T n = T i ∧ (n = j ∨ Bf R n j)) (q := fun n => T n = T i ∧ (n = i ∨ Bf R n i)) (n := L) (fun n _ ⟨h1, h2⟩ => ⟨h1, ?_⟩) hle i hi ⟨rfl, .inl rfl⟩
    · rcases key.2 with e | e
      · exact hne e
      · exact hn e
    · by_cases e : n = i
      · exact .inl e
      · right
        by_cases hlt : n < i
        · exact chain h _ n i rfl hlt h1
        · have hb : Bf R i n := chain h _ i n rfl (by omega) h1.symm
          rcases h2 with h2 | h2
          · rw [h2] at hb; exact (hn hb).elim
          · exact (hn (hb.tr h2)).elim
  · intro hb
    refine cn_mono fun n hn ⟨h1, h2⟩ => ⟨h1, .inr ?_⟩
    rcases h2 with rfl | h2
    · exact hb
    · exact h2.tr hb
end

/-! ### The greatest of a list -/
theorem maxl {l : List Nat} {c : Nat} (h : ∀ x ∈ l, x ≤ c) (h2 : c = 0 ∨ c ∈ l) : l.foldl max 0 = c := by
  have key : ∀ (l : List Nat) (a : Nat), (∀ x ∈ l, x ≤ c) → a ≤ c → (a = c ∨ c ∈ l) → l.foldl max a = c := by
    intro l
    induction l with
    | nil => intro a _ _ h; rcases h with h | h
             · exact h
             · cases h
    | cons x l ih =>
      intro a h1 h2 h3
      have hx := h1 x (by simp)
      refine ih (max a x) (fun y hy => h1 y (List.mem_cons_of_mem _ hy)) (by omega) ?_
      rcases h3 with h3 | h3
      · left; omega
      · rcases List.mem_cons.mp h3 with e | e
        · left; omega
        · exact .inr e
  exact key l 0 h (Nat.zero_le _) (h2.imp (fun e => e.symm) id)
end Ck
end Go.AM
