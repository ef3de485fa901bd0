/-
Bytes: numbers of them, big end first; exclusive or.
-/
import Derived.Test.YtfdnamedmjhcfaaDoorAm20
set_option linter.unusedVariables false
set_option linter.unusedSimpArgs false
namespace Go.AM

abbrev U8 (n : Nat) : PV := .v (.int .u8 n)
abbrev U64 (n : Nat) : AV := .p (.v (.int .u64 n))
abbrev U32 (n : Nat) : AV := .p (.v (.int .u32 n))

def num (bs : List Nat) : Nat := bs.foldl (fun a b => a * 256 + b) 0

def be : Nat → Nat → List Nat
  | 0, _ => []
  | k + 1, n => be k (n / 256) ++ [n % 256]

theorem be_len : ∀ (k n : Nat), (be k n).length = k := by
  intro k
  induction k with
  | zero => intro n; rfl
  | succ k ih => intro n; simp [be, ih]

theorem be_lt : ∀ (k n : Nat), ∀ b ∈ be k n, b < 256 := by
  intro k
  induction k with
  | zero => intro n b h; cases h
  | succ k ih =>
    intro n b h
    simp only [be, List.mem_append, List.mem_singleton] at h
    rcases h with h | h
    · exact ih _ b h
    · omega

theorem snoc_ind {α : Type} {Q : List α → Prop} (h0 : Q []) (h1 : ∀ l a, Q l → Q (l ++ [a])) : ∀ l, Q l := by
  have : ∀ l : List α, Q l.reverse := by
    intro l
    induction l with
    | nil => exact h0
    | cons a l ih => rw [List.reverse_cons]; exact h1 _ _ ih
  intro l
  have := this l.reverse
  rwa [List.reverse_reverse] at this

theorem num_snoc (bs : List Nat) (b : Nat) : num (bs ++ [b]) = num bs * 256 + b := by simp [num]

theorem num_be : ∀ (k n : Nat), n < 256 ^ k → num (be k n) = n := by
  intro k
  induction k with
  | zero => intro n h; simp at h; subst h; rfl
  | succ k ih =>
    intro n h
    rw [be, num_snoc, ih (n / 256) (by rw [Nat.pow_succ] at h; omega)]
    omega

theorem num_lt : ∀ (bs : List Nat), (∀ b ∈ bs, b < 256) → num bs < 256 ^ bs.length := by
  refine snoc_ind (by intro _; simp [num]) fun bs b ih => ?_
  · intro h
    have h1 := ih fun x hx => h x (by simp [hx])
    have h2 := h b (by simp)
    rw [num_snoc, List.length_append, List.length_singleton, Nat.pow_succ]
    omega

theorem be_num : ∀ (bs : List Nat), (∀ b ∈ bs, b < 256) → be bs.length (num bs) = bs := by
  refine snoc_ind (by intro _; rfl) fun bs b ih => ?_
  · intro h
    have h1 := ih fun x hx => h x (by simp [hx])
    have h2 := h b (by simp)
    rw [List.length_append, List.length_singleton, be, num_snoc, show (num bs * 256 + b) / 256 = num bs by omega, show (num bs * 256 + b) % 256 = b by omega, h1]

theorem xor_low (n b : Nat) (hb : b < 256) : n ^^^ b = n - n % 256 + (n % 256 ^^^ b) := by
  have h1 : (n ^^^ b) / 256 = n / 256 := by
    have := Nat.xor_div_two_pow (a := n) (b := b) (n := 8)
    simp only [Nat.reducePow] at this
    rw [this, Nat.div_eq_of_lt hb, Nat.xor_zero]
  have h2 : (n ^^^ b) % 256 = n % 256 ^^^ b := by
    have := Nat.xor_mod_two_pow (a := n) (b := b) (n := 8)
    simp only [Nat.reducePow] at this
    rw [this, Nat.mod_eq_of_lt hb]
  have := Nat.div_add_mod (n ^^^ b) 256
  have := Nat.div_add_mod n 256
  omega

theorem xor_lt256 {a b : Nat} (ha : a < 256) (hb : b < 256) : a ^^^ b < 256 := by
  have := Nat.xor_lt_two_pow (x := a) (y := b) (n := 8) (by simpa using ha) (by simpa using hb)
  simpa using this

theorem u8_wf {z : Int} (h : (Lit.int .u8 z).wf = true) : 0 ≤ z ∧ z < 256 := by
  simp only [Lit.wf, Bool.and_eq_true, decide_eq_true_eq] at h
  have e1 : IntKind.u8.min = 0 := rfl
  have e2 : IntKind.u8.max = 255 := rfl
  omega

theorem i64_wf {z : Int} (h : (Lit.int .i64 z).wf = true) : -9223372036854775808 ≤ z ∧ z < 9223372036854775808 := by
  simp only [Lit.wf, Bool.and_eq_true, decide_eq_true_eq] at h
  have e1 : IntKind.i64.min = -9223372036854775808 := rfl
  have e2 : IntKind.i64.max = 9223372036854775807 := rfl
  omega

theorem ofInt_nat {w n : Nat} (h : n < 2 ^ w) : (BitVec.ofInt w (n : Int)).toNat = n := by
  rw [BitVec.ofInt_natCast, BitVec.toNat_ofNat, Nat.mod_eq_of_lt h]

theorem wrap_u64 {n : Int} (h : 0 ≤ n ∧ n < 18446744073709551616) : IntKind.u64.wrap n = n := by
  simp only [IntKind.wrap, IntKind.bits, IntKind.signed]; simp; omega
theorem wrap_u32 {n : Int} (h : 0 ≤ n ∧ n < 4294967296) : IntKind.u32.wrap n = n := by
  simp only [IntKind.wrap, IntKind.bits, IntKind.signed]; simp; omega
theorem wrap_u8 {n : Int} (h : 0 ≤ n ∧ n < 256) : IntKind.u8.wrap n = n := by
  simp only [IntKind.wrap, IntKind.bits, IntKind.signed]; simp; omega
theorem wrap_u32_mod (n : Int) : IntKind.u32.wrap n = n % 4294967296 := by
  simp only [IntKind.wrap, IntKind.bits, IntKind.signed]; simp
theorem wrap_u64_mod (n : Int) : IntKind.u64.wrap n = n % 18446744073709551616 := by
  simp only [IntKind.wrap, IntKind.bits, IntKind.signed]; simp
theorem wrap_u8_mod (n : Int) : IntKind.u8.wrap n = n % 256 := by
  simp only [IntKind.wrap, IntKind.bits, IntKind.signed]; simp

theorem and64 (a b : Nat) (ha : a < 18446744073709551616) (hb : b < 18446744073709551616) : bin .and .int (U64 a) (U64 b) = some (U64 (a &&& b)) := by
  have : bin .and .int (U64 a) (U64 b) = some (.p (.v (.int .u64 (IntKind.u64.wrap ((BitVec.ofInt 64 (a : Int) &&& BitVec.ofInt 64 (b : Int)).toNat : Nat))))) := rfl
  rw [this, BitVec.toNat_and, ofInt_nat (by omega), ofInt_nat (by omega)]
  have := Nat.and_le_left (n := a) (m := b)
  rw [wrap_u64 (by omega)]
theorem shr64 (a : Nat) (ha : a < 18446744073709551616) : bin .shr .int (U64 a) (.p (.v (.int .u64 32))) = some (U64 (a / 4294967296)) := by
  have : bin .shr .int (U64 a) (.p (.v (.int .u64 32))) = some (.p (.v (.int .u64 ((a : Int).fdiv (2 ^ (min (32 : Int).toNat IntKind.u64.bits)))))) := rfl
  rw [this]
  have e : (min (32 : Int).toNat IntKind.u64.bits) = 32 := rfl
  rw [e]
  have e2 : (a : Int).fdiv (2 ^ 32) = ((a / 4294967296 : Nat) : Int) := by
    rw [show (2 : Int) ^ 32 = 4294967296 by decide, Int.fdiv_eq_ediv_of_nonneg _ (by omega)]
    omega
  rw [e2]
theorem add64 {a b : Nat} (h : a + b < 18446744073709551616) : bin .add .int (U64 a) (U64 b) = some (U64 (a + b)) := by
  have : bin .add .int (U64 a) (U64 b) = some (.p (.v (.int .u64 (IntKind.u64.wrap ((a : Int) + b))))) := rfl
  rw [this, wrap_u64 (by omega)]
  simp
theorem mul64 {a b : Nat} (h : a * b < 18446744073709551616) : bin .mul .int (U64 a) (U64 b) = some (U64 (a * b)) := by
  have : bin .mul .int (U64 a) (U64 b) = some (.p (.v (.int .u64 (IntKind.u64.wrap ((a : Int) * b))))) := rfl
  have e : (a : Int) * b = ((a * b : Nat) : Int) := by simp
  rw [this, e, wrap_u64 (by omega)]
theorem gtr64 (a b : Nat) : bin .gtr .int (U64 a) (U64 b) = some (B (decide (b < a))) := by
  have : bin .gtr .int (U64 a) (U64 b) = some (B (decide ((a : Int) > b))) := rfl
  have e : decide ((a : Int) > (b : Int)) = decide (b < a) := decide_eq_decide.mpr (by omega)
  rw [this, e]

end Go.AM
