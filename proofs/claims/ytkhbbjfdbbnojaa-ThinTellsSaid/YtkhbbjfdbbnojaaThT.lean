import Derived.Test.YtkhbbjfdbbnojaaThS
set_option linter.unusedVariables false
set_option linter.unusedSimpArgs false
namespace Go.Proofs.Ytkhbbjfdbbnojaa
open Go Go.AM
namespace Th

open Classical in
noncomputable def dec (p : Prop) : Bool := decide p
theorem dec_iff {p : Prop} : dec p = true ↔ p := by unfold dec; simp
theorem dec_congr {p q : Prop} (h : p ↔ q) : dec p = dec q := by
  rw [Bool.eq_iff_iff, dec_iff, dec_iff]; exact h
theorem dec_f {p : Prop} (h : ¬ p) : dec p = false := by
  cases h2 : dec p with
  | false => rfl
  | true => exact (h (dec_iff.mp h2)).elim
theorem mem_flt {p : Nat → Bool} {n : Nat} {x : Int} : x ∈ flt p n ↔ ∃ i : Nat, x = i ∧ i < n ∧ p i = true := by
  unfold flt
  simp only [List.mem_map, List.mem_filter, List.mem_range]
  constructor
  · rintro ⟨i, ⟨h1, h2⟩, h3⟩; exact ⟨i, h3.symm, h1, h2⟩
  · rintro ⟨i, h3, h1, h2⟩; exact ⟨i, ⟨h1, h2⟩, h3.symm⟩
theorem flt_sorted (p : Nat → Bool) : ∀ n, (flt p n).Pairwise plt := by
  intro n
  induction n with
  | zero => exact .nil
  | succ n ih =>
    rw [flt_succ]
    refine List.pairwise_append.mpr ⟨ih, ?_, fun x hx y hy => ?_⟩
    · split
      · exact List.pairwise_singleton ..
      · exact .nil
    · obtain ⟨i, rfl, h1, _⟩ := mem_flt.mp hx
      split at hy
      · simp only [List.mem_singleton] at hy; subst hy; show (i : Int) < n; omega
      · cases hy

/-! ### Which places are kept -/
def PK (k n i : Nat) : Prop := 2 ^ i ≤ n ∧ k % 2 ^ i = 0 ∧ n < k + 2 ^ i + 2 ^ i
def isK (k n : Nat) : Prop := k = 0 ∨ k = n ∨ ∃ i, PK k n i

def kl (n : Nat) : Nat → List Nat
  | 0 => [0, n]
  | e + 1 => kl n e ++ [n - n % 2 ^ e, n - n % 2 ^ e - 2 ^ e]
theorem kl_len (n : Nat) : ∀ e, (kl n e).length = 2 * e + 2 := by
  intro e
  induction e with
  | zero => rfl
  | succ e ih => simp [kl, ih]; omega
theorem mem_kl (n x : Nat) : ∀ e, x ∈ kl n e ↔ x = 0 ∨ x = n ∨ ∃ i, i < e ∧ (x = n - n % 2 ^ i ∨ x = n - n % 2 ^ i - 2 ^ i) := by
  intro e
  induction e with
  | zero =>
    simp only [kl, List.mem_cons, List.not_mem_nil, or_false]
    constructor
    · rintro (h | h)
      · exact .inl h
      · exact .inr (.inl h)
    · rintro (h | h | ⟨i, h, _⟩)
      · exact .inl h
      · exact .inr h
      · omega
  | succ e ih =>
    simp only [kl, List.mem_append, List.mem_cons, List.not_mem_nil, or_false, ih]
    constructor
    · rintro ((h | h | ⟨i, h1, h2⟩) | h)
      · exact .inl h
      · exact .inr (.inl h)
      · exact .inr (.inr ⟨i, by omega, h2⟩)
      · exact .inr (.inr ⟨e, by omega, h⟩)
    · rintro (h | h | ⟨i, h1, h2⟩)
      · exact .inl (.inl h)
      · exact .inl (.inr (.inl h))
      · by_cases hi : i = e
        · subst hi; exact .inr h2
        · exact .inl (.inr (.inr ⟨i, by omega, h2⟩))
theorem one_pk {k n p : Nat} (hp : 0 < p) (hpn : p ≤ n) (hk : k ≤ n) : (k = n - n % p ∨ k = n - n % p - p) ↔ k % p = 0 ∧ n < k + p + p := by
  have hn := Nat.div_add_mod n p
  have hr := Nat.mod_lt n hp
  have hq : 1 ≤ n / p := (Nat.le_div_iff_mul_le hp).mpr (by omega)
  have e1 : n - n % p = p * (n / p) := by omega
  have e2 : n - n % p - p = p * (n / p - 1) := by rw [e1, Nat.mul_sub, Nat.mul_one]
  rw [e2, e1]
  constructor
  · rintro (rfl | rfl)
    · exact ⟨Nat.mul_mod_right _ _, by omega⟩
    · refine ⟨Nat.mul_mod_right _ _, ?_⟩
      rw [Nat.mul_sub, Nat.mul_one]
      have : p ≤ p * (n / p) := Nat.le_mul_of_pos_right p hq
      omega
  · rintro ⟨h1, h2⟩
    have hkd := Nat.div_add_mod k p
    rw [h1, Nat.add_zero] at hkd
    have h3 : k / p ≤ n / p := Nat.div_le_div_right hk
    have h4 : n / p < k / p + 2 := by
      rw [Nat.div_lt_iff_lt_mul hp, Nat.add_mul, Nat.mul_comm]
      omega
    rw [← hkd]
    by_cases h5 : k / p = n / p
    · left; rw [h5]
    · right; rw [show n / p - 1 = k / p by omega]
theorem isK_kl {k n e : Nat} (hk : k ≤ n) (he : ∀ i, i < e → 2 ^ i ≤ n) (he2 : n < 2 ^ e) : k ∈ kl n e ↔ isK k n := by
  rw [mem_kl]
  unfold isK
  refine or_congr Iff.rfl (or_congr Iff.rfl ⟨?_, ?_⟩)
  · rintro ⟨i, h1, h2⟩
    have := (one_pk (Nat.two_pow_pos i) (he i h1) hk).mp h2
    exact ⟨i, he i h1, this⟩
  · rintro ⟨i, h1, h2⟩
    have hi : i < e := by
      refine Nat.not_le.mp fun h => ?_
      have := Nat.pow_le_pow_right (n := 2) (by omega) h
      omega
    exact ⟨i, hi, (one_pk (Nat.two_pow_pos i) h1 hk).mpr h2⟩
theorem kl_le {k n e : Nat} (h : k ∈ kl n e) : k ≤ n := by
  rw [mem_kl] at h
  rcases h with h | h | ⟨i, _, h | h⟩ <;> omega

/-- The places that are kept. -/
noncomputable def kp (n : Nat) : List Int := flt (fun k => dec (isK k n)) (n + 1)
theorem mem_kp {n : Nat} {x : Int} : x ∈ kp n ↔ ∃ k : Nat, x = k ∧ k ≤ n ∧ isK k n := by
  unfold kp
  rw [mem_flt]
  simp only [dec_iff]
  exact ⟨fun ⟨i, h1, h2, h3⟩ => ⟨i, h1, by omega, h3⟩, fun ⟨i, h1, h2, h3⟩ => ⟨i, h1, by omega, h3⟩⟩
theorem kp_sorted (n : Nat) : (kp n).Pairwise plt := flt_sorted _ _
theorem kp_len (n : Nat) : (kp n).length ≤ n + 1 := flt_len _ _

theorem srt_kl {n e : Nat} (he : ∀ i, i < e → 2 ^ i ≤ n) (he2 : n < 2 ^ e) : dd (((kl n e).map fun k : Nat => (k : Int)).mergeSort fun x y => decide (x ≤ y)) = kp n := by
  have hp := List.mergeSort_perm ((kl n e).map fun k : Nat => (k : Int)) (fun x y => decide (x ≤ y))
  have hs : (((kl n e).map fun k : Nat => (k : Int)).mergeSort fun x y => decide (x ≤ y)).Pairwise fun x y => decide (x ≤ y) = true := List.pairwise_mergeSort (fun a b c h1 h2 => by simp at *; omega) (fun a b => by simp; omega) _
  have hs2 : (((kl n e).map fun k : Nat => (k : Int)).mergeSort fun x y => decide (x ≤ y)).Pairwise fun x y => ¬ plt y x := hs.imp fun {x y} h => by
    simp only [decide_eq_true_eq] at h
    unfold plt; omega
  refine plt_uniq (dd_sorted hs2) (kp_sorted n) fun x => ?_
  rw [mem_dd, hp.mem_iff, mem_kp]
  simp only [List.mem_map]
  constructor
  · rintro ⟨k, h1, rfl⟩
    have := kl_le h1
    exact ⟨k, rfl, this, (isK_kl this he he2).mp h1⟩
  · rintro ⟨k, rfl, h1, h2⟩
    exact ⟨k, (isK_kl h1 he he2).mpr h2, rfl⟩
end Th
end Go.Proofs.Ytkhbbjfdbbnojaa
