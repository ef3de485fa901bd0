import Derived.Test.YtjncpgcbgdkflaaEWatchTells
import Derived.Test.YtjncpgcbgdkflaaESpoolPuts
import Derived.Test.YtjncpgcbgdkflaaAm21
import Derived.Test.YtjncpgcbgdkflaaAm23
set_option linter.unusedVariables false
set_option linter.unusedSimpArgs false
namespace Go.Proofs.Ytjncpgcbgdkflaa
open Go Go.AM
namespace Spool

theorem between_ent (a b c : Int) : O.ent 37 [I a, I b, I c] [] [] = some ([B (decide (b ≤ a) && decide (a ≤ c))], []) := by
  rw [f37_eq]
  by_cases h : b ≤ a <;> simp [h]
theorem between_eq (a b c : Int) (lo : List Nat) (H : Heap) : callA cfg O 37 [I a, I b, I c] lo H = some (B (decide (b ≤ a) && decide (a ≤ c)), H) :=
  callA_pure (xs := [Ia a, Ia b, Ia c]) rfl (between_ent a b c) rfl

def stp (n b : Nat) : Nat := ((n ^^^ b) * 16777619) % 4294967296
def sm (bs : List Nat) : Nat := bs.foldl stp 2166136261

theorem sm_snoc' (bs : List Nat) (b : Nat) : sm (bs ++ [b]) = stp (sm bs) b := by
  unfold sm
  rw [List.foldl_append, List.foldl_cons, List.foldl_nil]

theorem sm_snoc (bs : List Nat) (b : Nat) : sm (bs ++ [b]) = ((sm bs ^^^ b) * 16777619) % 4294967296 := by
  rw [sm_snoc']
  unfold stp
  exact Eq.refl _

theorem sm_lt : ∀ (bs : List Nat), sm bs < 4294967296 := by
  refine snoc_ind ?_ fun bs b _ => ?_
  · unfold sm
    rw [List.foldl_nil]
    omega
  · rw [sm_snoc]
    exact Nat.mod_lt _ (by omega)

theorem take_snoc {bs : List Nat} {i : Nat} (h : i < bs.length) : bs.take (i + 1) = bs.take i ++ [bs[i]] := by
  rw [List.take_add_one, List.getElem?_eq_getElem h]; rfl

theorem shl8 (a : Nat) (h : a * 256 < 18446744073709551616) : bin .shl .int (U64 a) (.p (.v (.int .u64 8))) = some (U64 (a * 256)) := by
  have : bin .shl .int (U64 a) (.p (.v (.int .u64 8))) = some (.p (.v (.int .u64 (IntKind.u64.wrap ((a : Int) * 2 ^ (min (8 : Int).toNat IntKind.u64.bits)))))) := rfl
  rw [this]
  have e : (min (8 : Int).toNat IntKind.u64.bits) = 8 := rfl
  rw [e, wrap_u64 (by simp; omega)]
  simp

theorem or64 {a b : Nat} (hb : b < 256) (h : a * 256 < 18446744073709551616) : bin .or .int (U64 (a * 256)) (U64 b) = some (U64 (a * 256 + b)) := by
  have : bin .or .int (U64 (a * 256)) (U64 b) = some (.p (.v (.int .u64 (IntKind.u64.wrap ((BitVec.ofInt 64 ((a * 256 : Nat) : Int) ||| BitVec.ofInt 64 (b : Int)).toNat : Nat))))) := rfl
  rw [this, BitVec.toNat_or, ofInt_nat (by omega), ofInt_nat (by omega)]
  have e := Nat.shiftLeft_add_eq_or_of_lt (i := 8) (b := b) (by simpa using hb) a
  rw [Nat.shiftLeft_eq] at e
  simp only [Nat.reducePow] at e
  rw [← e, wrap_u64 (by omega)]

theorem xor32 {a b : Nat} (ha : a < 4294967296) (hb : b < 256) : bin .xor .int (U32 a) (U32 b) = some (U32 (a ^^^ b)) := by
  have : bin .xor .int (U32 a) (U32 b) = some (.p (.v (.int .u32 (IntKind.u32.wrap ((BitVec.ofInt 32 (a : Int) ^^^ BitVec.ofInt 32 (b : Int)).toNat : Nat))))) := rfl
  rw [this, BitVec.toNat_xor, ofInt_nat (by omega), ofInt_nat (by omega)]
  have := Nat.xor_lt_two_pow (x := a) (y := b) (n := 32) (by omega) (by omega)
  rw [wrap_u32 (by omega)]

theorem xorI {a b : Nat} (ha : a < 256) (hb : b < 256) : bin .xor .int (I a) (I b) = some (I (a ^^^ b : Nat)) := by
  have : bin .xor .int (I a) (I b) = some (.p (.v (.int .i64 (IntKind.i64.wrap ((BitVec.ofInt 64 (a : Int) ^^^ BitVec.ofInt 64 (b : Int)).toNat : Nat))))) := rfl
  rw [this, BitVec.toNat_xor, ofInt_nat (by omega), ofInt_nat (by omega)]
  have := xor_lt256 ha hb
  rw [wrap_id (by omega)]

theorem mul32 (a b : Nat) : bin .mul .int (U32 a) (.p (.v (.int .u32 (b : Nat)))) = some (U32 (a * b % 4294967296)) := by
  have : bin .mul .int (U32 a) (.p (.v (.int .u32 (b : Nat)))) = some (.p (.v (.int .u32 (IntKind.u32.wrap ((a : Int) * (b : Int)))))) := rfl
  rw [this, wrap_u32_mod]
  congr 4

theorem conv8_64 {b : Nat} (h : b < 256) : conv (.int .u64) (.p (U8 b)) = some (U64 b) := by
  have : conv (.int .u64) (.p (U8 b)) = some (.p (.v (.int .u64 (IntKind.u64.wrap b)))) := rfl
  rw [this, wrap_u64 (by omega)]
theorem conv8_32 {b : Nat} (h : b < 256) : conv (.int .u32) (.p (U8 b)) = some (U32 b) := by
  have : conv (.int .u32) (.p (U8 b)) = some (.p (.v (.int .u32 (IntKind.u32.wrap b)))) := rfl
  rw [this, wrap_u32 (by omega)]
theorem conv8_i {b : Nat} (h : b < 256) : conv (.int .i64) (.p (U8 b)) = some (I b) := by
  have : conv (.int .i64) (.p (U8 b)) = some (.p (.v (.int .i64 (IntKind.i64.wrap b)))) := rfl
  rw [this, wrap_id (by omega)]
theorem conv32_64 {b : Nat} (h : b < 4294967296) : conv (.int .u64) (U32 b) = some (U64 b) := by
  have : conv (.int .u64) (U32 b) = some (.p (.v (.int .u64 (IntKind.u64.wrap b)))) := rfl
  rw [this, wrap_u64 (by omega)]
theorem conv64_i (b : Nat) : conv (.int .i64) (U64 b) = some (I (IntKind.i64.wrap b)) := rfl
theorem conv_i64 (z : Int) : conv (.int .u64) (I z) = some (U64 (z % 18446744073709551616).toNat) := by
  have : conv (.int .u64) (I z) = some (.p (.v (.int .u64 (IntKind.u64.wrap z)))) := rfl
  rw [this, wrap_u64_mod]
  have : ((z % 18446744073709551616).toNat : Int) = z % 18446744073709551616 := by omega
  unfold U64
  rw [this]
theorem conv64_8 (b : Nat) : conv (.int .u8) (U64 b) = some (.p (U8 (b % 256))) := by
  have : conv (.int .u8) (U64 b) = some (.p (.v (.int .u8 (IntKind.u8.wrap b)))) := rfl
  rw [this, wrap_u8_mod]
  congr 4
theorem convi_8 (b : Nat) : conv (.int .u8) (I b) = some (.p (U8 (b % 256))) := by
  have : conv (.int .u8) (I b) = some (.p (.v (.int .u8 (IntKind.u8.wrap b)))) := rfl
  rw [this, wrap_u8_mod]
  congr 4

section
variable {nl : Option Bool} {tg : Bool} {bs : List Nat}
abbrev V (nl : Option Bool) (tg : Bool) (bs : List Nat) : AV := .p (.sl nl tg bs.length (bs.map U8))

theorem idx {k : Nat} (h : k < bs.length) : idxA 1 (V nl tg bs) (I k) = some (.fp (bs.map U8) k) := by
  have := idxA_sl (sz := 1) (n := bs.length) (nl := nl) (t := tg) (xs := bs.map U8) (j := (k : Int)) (by omega)
  simpa using this

theorem ldb {k : Nat} (h : k < bs.length) (H : Heap) : ld false 1 (.fp (bs.map U8) k) H = some (.p (U8 bs[k])) := by
  rw [ld_fp, List.getElem?_map, List.getElem?_eq_getElem h]; rfl

/-! ### sum -/
theorem smLoop (hb : ∀ b ∈ bs, b < 256) (h8 : bs.length < 2 ^ 62) (lo : List Nat) (H : Heap) : ∀ (c i : Nat), bs.length - i = c → i ≤ bs.length → L42_8 [U32 (sm (bs.take i)), V nl tg bs, I bs.length, I i] lo H = some ([U32 (sm bs)], []) := by
  intro c
  induction c with
  | zero =>
    intro i hc hi
    have : i = bs.length := by omega
    subst this
    rw [L42_8_eq]
    simp only [bin_lss, obs, cond_B]
    rw [if_neg (by simp), List.take_length]
    rfl
  | succ c ih =>
    intro i hc hi
    have hi' : i < bs.length := by omega
    have hx := hb _ (List.getElem_mem hi')
    have h1 := sm_lt (bs.take i)
    rw [L42_8_eq]
    simp only [bin_lss, obs, cond_B]
    rw [if_pos (by simp; omega), idx hi']
    have hm := mul32 (sm (bs.take i) ^^^ bs[i]) 16777619
    simp only [Int.cast_ofNat_Int] at hm
    simp only [obs, ldb hi', conv8_32 hx, xor32 h1 hx, bin_add]
    rw [hm]
    simp only [obs]
    rw [wrap_id (by omega), show (i : Int) + 1 = ((i + 1 : Nat) : Int) by omega, ← sm_snoc, ← take_snoc hi']
    exact ih (i + 1) (by omega) (by omega)

theorem call42 (hb : ∀ b ∈ bs, b < 256) (h8 : bs.length < 2 ^ 62) {n : Nat} {xs : List PV} (hn : n = bs.length) (hx : xs = bs.map U8) (lo : List Nat) (H : Heap) : callA cfg O 42 [.p (.sl nl tg n xs)] lo H = some (U32 (sm bs), H) := by
  subst hn hx
  refine callA_args (H' := []) (rs := [U32 (sm bs)]) rfl rfl ?_ rfl
  rw [f42_eq]
  simp only [lenA_sl, obs]
  exact smLoop hb h8 _ _ _ 0 rfl (by omega)

theorem rem_nat (k : IntKind) (a b : Nat) (hb : b ≠ 0) : bin .rem .int (.p (.v (.int k a))) (.p (.v (.int k b))) = some (.p (.v (.int k ((a % b : Nat) : Int)))) := by
  have : bin .rem .int (.p (.v (.int k a))) (.p (.v (.int k b))) = (if (isShift .rem || decide (k = k)) = true then (if (b : Int) = 0 then none else some (Value.int k ((a : Int).tmod b))).map fun v => AV.p (.v v) else none) := rfl
  rw [this, if_pos (by simp), if_neg (by omega)]
  simp [Int.tmod_eq_emod_of_nonneg]

theorem quo_nat (k : IntKind) (a b : Nat) (hb : b ≠ 0) : bin .quo .int (.p (.v (.int k a))) (.p (.v (.int k b))) = some (.p (.v (.int k (k.wrap ((a / b : Nat) : Int))))) := by
  have : bin .quo .int (.p (.v (.int k a))) (.p (.v (.int k b))) = (if (isShift .quo || decide (k = k)) = true then (if (b : Int) = 0 then none else some (Value.int k (k.wrap ((a : Int).tdiv b)))).map fun v => AV.p (.v v) else none) := rfl
  rw [this, if_pos (by simp), if_neg (by omega)]
  simp [Int.ofNat_tdiv]

theorem sumLoop (hb : ∀ b ∈ bs, b < 256) (h8 : bs.length < 2 ^ 62) (lo : List Nat) (H : Heap) : ∀ (c i : Nat), bs.length - i = c → i ≤ bs.length → L59_8 [V nl tg bs, I (sm (bs.take i)), I i] lo H = some ([I (sm bs)], []) := by
  intro c
  induction c with
  | zero =>
    intro i hc hi
    have : i = bs.length := by omega
    subst this
    rw [L59_8_eq]
    simp only [lenA_sl, bin_lss, obs, cond_B]
    rw [if_neg (by simp), List.take_length]
    rfl
  | succ c ih =>
    intro i hc hi
    have hi' : i < bs.length := by omega
    have hx := hb _ (List.getElem_mem hi')
    have h1 := sm_lt (bs.take i)
    have r1 := rem_nat .i64 (sm (bs.take i)) 256 (by omega)
    have hxl := xor_low (sm (bs.take i)) _ hx
    have hxx := xor_lt256 (Nat.mod_lt (sm (bs.take i)) (show 0 < 256 by omega)) hx
    rw [L59_8_eq]
    simp only [lenA_sl, bin_lss, obs, cond_B]
    rw [if_pos (by simp; omega), idx hi']
    rw [show (I 256) = (.p (.v (.int .i64 (256 : Nat)))) from rfl, r1]
    simp only [obs, ldb hi', conv8_i hx, xorI (Nat.mod_lt _ (show 0 < 256 by omega)) hx, bin_add, bin_sub, bin_mul]
    have e1 : (sm (bs.take i) : Int) - ((sm (bs.take i) % 256 : Nat) : Int) = ((sm (bs.take i) - sm (bs.take i) % 256 : Nat) : Int) := by
      have := Nat.mod_le (sm (bs.take i)) 256
      omega
    rw [e1, wrap_id (n := ((sm (bs.take i) - sm (bs.take i) % 256 : Nat) : Int)) (by omega)]
    have e2 : ((sm (bs.take i) - sm (bs.take i) % 256 : Nat) : Int) + ((sm (bs.take i) % 256 ^^^ bs[i] : Nat) : Int) = ((sm (bs.take i) ^^^ bs[i] : Nat) : Int) := by omega
    rw [e2, wrap_id (n := ((sm (bs.take i) ^^^ bs[i] : Nat) : Int)) (by omega), wrap_id (n := ((sm (bs.take i) ^^^ bs[i] : Nat) : Int) * 16777619) (by omega)]
    have r2 := rem_nat .i64 ((sm (bs.take i) ^^^ bs[i]) * 16777619) 4294967296 (by omega)
    rw [show ((sm (bs.take i) ^^^ bs[i] : Nat) : Int) * 16777619 = (((sm (bs.take i) ^^^ bs[i]) * 16777619 : Nat) : Int) by omega, show (I 4294967296) = (.p (.v (.int .i64 (4294967296 : Nat)))) from rfl, r2]
    simp only [obs]
    rw [wrap_id (by omega), show (i : Int) + 1 = ((i + 1 : Nat) : Int) by omega, ← sm_snoc, ← take_snoc hi']
    exact ih (i + 1) (by omega) (by omega)

theorem ent59 (hb : ∀ b ∈ bs, b < 256) (h8 : bs.length < 2 ^ 62) : O.ent 59 [V nl tg bs] [] [] = some ([I (sm bs)], []) := by
  rw [f59_eq]
  exact sumLoop hb h8 _ _ _ 0 rfl (by omega)

end

/-! ### right, SpoolErr -/
def right (k n : Int) : Int :=
  if k = 0 then (if n < 0 ∨ 0 < n then 1 else 0) else if k = 1 then (if n < 0 ∨ 1 < n then 1 else 0)
  else if k = 2 then (if n < -2147483648 ∨ 2147483647 < n then 1 else 0) else if k = 3 then 0 else if k = 4 then (if n < 0 ∨ 299 < n then 1 else 0) else 7

theorem call39 (k n : Int) (lo : List Nat) (H : Heap) : callA cfg O 39 [.agg [I k, I n]] lo H = some (I (right k n), H) := by
  refine callA_args (H' := []) (rs := [I (right k n)]) rfl rfl ?_ rfl
  rw [f39_eq]
  have e1 : boxO [] (AV.cells (.agg [I k, I n])) [] = some (.ptr 0 0, [.box [I k, I n]]) := rfl
  have l0 : ld false 1 (.ptr 0 0) [.box [I k, I n]] = some (I k) := rfl
  have l1 : ld false 1 (.ptr 0 1) [.box [I k, I n]] = some (I n) := rfl
  have hl : ∀ a b, L39_29 [.ptr 0 0, I a, I b] [] [.box [I k, I n]] = some ([I (if n < a ∨ b < n then 1 else 0)], []) := by
    intro a b
    rw [L39_29_eq]
    simp only [obs, fldA_ptr, Nat.zero_add, l1, bin_lss]
    by_cases h1 : n < a
    · simp only [h1, decide_true, gd_B, Bool.true_eq_false, if_false, obs, gd_undef, pickA_B, if_true, cond_B, leave0_I, true_or]
    · by_cases h2 : b < n
      · simp only [h1, h2, decide_true, decide_false, gd_B, Bool.false_eq_true, if_false, obs, gd_undef, pickA_B, if_true, cond_B, leave0_I, or_true, l1, bin_gtr]
      · simp only [h1, h2, decide_true, decide_false, gd_B, Bool.false_eq_true, if_false, obs, gd_undef, pickA_B, if_true, cond_B, leave0_I, or_self, l1, bin_gtr]
  rw [e1]
  simp only [obs, fldA_ptr, Nat.zero_add, l0, bin_eql, cond_B, hl, right]
  by_cases h0 : k = 0
  · simp only [h0, decide_true, if_true]
  by_cases h1 : k = 1
  · simp only [h0, h1, decide_true, decide_false, if_true, if_false, Bool.false_eq_true]; simp
  by_cases h2 : k = 2
  · simp only [h0, h1, h2, decide_true, decide_false, if_true, if_false, Bool.false_eq_true]; simp
  by_cases h3 : k = 3
  · simp only [h0, h1, h2, h3, decide_true, decide_false, if_true, if_false, Bool.false_eq_true]; simp
  by_cases h4 : k = 4
  · simp only [h0, h1, h2, h3, h4, decide_true, decide_false, if_true, if_false, Bool.false_eq_true]; simp
  · simp only [h0, h1, h2, h3, h4, decide_true, decide_false, if_true, if_false, Bool.false_eq_true]; simp

theorem call43 (k n : Int) (lo : List Nat) (H : Heap) : callA cfg O 43 [.agg [I k, I n]] lo H = some (I (right k n), H) := by
  refine callA_args (H' := []) (rs := [I (right k n)]) rfl rfl ?_ rfl
  rw [f43_eq]
  have e1 : boxO [] (AV.cells (.agg [I k, I n])) [] = some (.ptr 0 0, [.box [I k, I n]]) := rfl
  have l0 : ld false 1 (.ptr 0 0) [.box [I k, I n]] = some (I k) := rfl
  have l1 : ld false 1 (.ptr 0 1) [.box [I k, I n]] = some (I n) := rfl
  rw [e1]
  generalize [AObj.box [I k, I n]] = G at *
  simp only [obs, fldA_ptr, Nat.zero_add, l0, bin_lss, bin_gtr, gd_B, pickA_B]
  by_cases h0 : k < 0
  · have hr : right k n = 7 := by unfold right; repeat (rw [if_neg (by omega)])
    simp only [h0, decide_true, Bool.true_eq_false, if_false, obs, gd_undef, pickA_B, if_true, cond_B, leave0_I, hr]
  by_cases h5 : 4 < k
  · have hr : right k n = 7 := by unfold right; repeat (rw [if_neg (by omega)])
    simp only [h0, h5, decide_true, decide_false, Bool.false_eq_true, if_false, obs, l0, bin_gtr, gd_B, gd_undef, pickA_B, if_true, cond_B, leave0_I, hr]
  simp only [h0, h5, decide_true, decide_false, Bool.false_eq_true, if_false, obs, l0, bin_gtr, gd_B, gd_undef, pickA_B, if_true, cond_B, leave0_I, bin_eql]
  have : k = 0 ∨ k = 1 ∨ k = 2 ∨ k = 3 ∨ k = 4 := by omega
  rcases this with rfl | rfl | rfl | rfl | rfl
  · by_cases g : n = 0
    · simp [-Option.bind_some, obs, l0, l1, g, between_eq, right, gdH_B]
    · simp [-Option.bind_some, obs, l0, l1, g, between_eq, right, gdH_B]
      omega
  · by_cases g : n < 0 ∨ 1 < n
    · have g' : (decide (0 ≤ n) && decide (n ≤ 1)) = false := by simp; omega
      simp [-Option.bind_some, obs, l0, l1, g', between_eq, right, gdH_B, if_pos g]
    · have g' : (decide (0 ≤ n) && decide (n ≤ 1)) = true := by simp; omega
      simp [-Option.bind_some, obs, l0, l1, g', between_eq, right, gdH_B, if_neg g]
  · by_cases g : n < -2147483648 ∨ 2147483647 < n
    · have g' : (decide (-2147483648 ≤ n) && decide (n ≤ 2147483647)) = false := by simp; omega
      simp [-Option.bind_some, obs, l0, l1, g', between_eq, right, gdH_B, if_pos g]
    · have g' : (decide (-2147483648 ≤ n) && decide (n ≤ 2147483647)) = true := by simp; omega
      simp [-Option.bind_some, obs, l0, l1, g', between_eq, right, gdH_B, if_neg g]
  · simp [-Option.bind_some, obs, l0, l1, between_eq, right, gdH_B]
  · by_cases g : n < 0 ∨ 299 < n
    · have g' : (decide (0 ≤ n) && decide (n ≤ 299)) = false := by simp; omega
      simp [-Option.bind_some, obs, l0, l1, g', between_eq, right, gdH_B, if_pos g]
    · have g' : (decide (0 ≤ n) && decide (n ≤ 299)) = true := by simp; omega
      simp [-Option.bind_some, obs, l0, l1, g', between_eq, right, gdH_B, if_neg g]

end Spool
end Go.Proofs.Ytjncpgcbgdkflaa
