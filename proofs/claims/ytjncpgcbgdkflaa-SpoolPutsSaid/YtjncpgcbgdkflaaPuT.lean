import Derived.Test.YtjncpgcbgdkflaaPuS
set_option linter.unusedVariables false
set_option linter.unusedSimpArgs false
namespace Go.Proofs.Ytjncpgcbgdkflaa
open Go Go.AM
namespace Spool

abbrev Rw : AV := .row 1 0 0 13
abbrev Hp (bx : AObj) (cs : List Nat) : Heap := [bx, .row 0 1 (cs.map U8)]

theorem put {bx : AObj} {cs : List Nat} {i b : Nat} (h : i < cs.length) (lo : List Nat) : stA 1 (.rptr 1 0 i) (.p (U8 b)) lo (Hp bx cs) = some (Hp bx (cs.set i b)) := by
  rw [stA_row (H := Hp bx cs) (id := 1) (g := 0) (sz := 1) (xs := cs.map U8) rfl (by simpa using h)]
  simp [List.map_set]

theorem recA (bx : AObj) (lo : List Nat) : ∀ (i n : Nat) (cs : List Nat), i ≤ 8 → n < 18446744073709551616 → cs.length = 13 →
    L44_12 [Rw, U64 n, I i] lo (Hp bx cs) = L44_12 [Rw, U64 (n / 256 ^ i), I 0] lo (Hp bx (cs.take 1 ++ be i n ++ cs.drop (i + 1))) := by
  intro i
  induction i with
  | zero =>
    intro n cs _ _ hc
    rw [show cs.take 1 ++ be 0 n ++ cs.drop (0 + 1) = cs by simp only [be, List.append_nil]; exact List.take_append_drop 1 cs]
    simp
  | succ i ih =>
    intro n cs hi hn hc
    have hi' : i + 1 < cs.length := by omega
    rw [L44_12_eq]
    have r := rem_nat .u64 n 256 (by omega)
    have q := quo_nat .u64 n 256 (by omega)
    simp only [Int.cast_ofNat_Int] at r q
    simp only [bin_gtr, obs, cond_B, r, q, conv64_8]
    rw [if_pos (by simp), idxA_row (by omega)]
    simp only [obs, Int.toNat_natCast, Nat.mul_one, Nat.zero_add, put hi', oms, bin_sub]
    rw [wrap_id (by omega), show ((i + 1 : Nat) : Int) - 1 = i by omega, wrap_u64 (by omega), ih (n / 256) _ (by omega) (by omega) (by simpa using hc)]
    rw [Nat.div_div_eq_div_mul, show 256 * 256 ^ i = 256 ^ (i + 1) by rw [Nat.pow_succ, Nat.mul_comm], drop_set hi', List.take_set_of_le (by omega)]
    simp only [be, Nat.mod_mod, List.append_assoc, List.singleton_append]

theorem recB (bx : AObj) (lo : List Nat) : ∀ (i n : Nat) (cs : List Nat), i ≤ 4 → n < 4294967296 → cs.length = 13 →
    L44_24 [Rw, I n, I (8 + i : Nat)] lo (Hp bx cs) = L44_24 [Rw, I (n / 256 ^ i : Nat), I 8] lo (Hp bx (cs.take 9 ++ be i n ++ cs.drop (9 + i))) := by
  intro i
  induction i with
  | zero =>
    intro n cs _ _ hc
    simp [be]
  | succ i ih =>
    intro n cs hi hn hc
    have hi' : 9 + i < cs.length := by omega
    rw [L44_24_eq]
    have r := rem_nat .i64 n 256 (by omega)
    have q := quo_nat .i64 n 256 (by omega)
    simp only [Int.cast_ofNat_Int] at r q
    simp only [bin_gtr, obs, cond_B, r, q, convi_8]
    rw [if_pos (by simp; omega), idxA_row (by omega)]
    simp only [obs, Int.toNat_natCast, Nat.mul_one, Nat.zero_add, show 8 + (i + 1) = 9 + i by omega, put hi', oms, bin_sub]
    rw [wrap_id (n := ((9 + i : Nat) : Int) - 1) (by omega), show ((9 + i : Nat) : Int) - 1 = (8 + i : Nat) by omega, wrap_id (by omega), ih (n / 256) _ (by omega) (by omega) (by simpa using hc)]
    rw [Nat.div_div_eq_div_mul, show 256 * 256 ^ i = 256 ^ (i + 1) by rw [Nat.pow_succ, Nat.mul_comm], drop_set hi', List.take_set_of_le (by omega)]
    simp only [be, Nat.mod_mod, List.append_assoc, List.singleton_append, show 9 + (i + 1) = 9 + i + 1 by omega]

def recd (k N : Nat) : List Nat := (k :: be 8 N) ++ be 4 (sm (k :: be 8 N))

theorem recd_len (k N : Nat) : (recd k N).length = 13 := by simp [recd, be_len]

theorem call44 (k : Nat) (n : Int) (hk : k < 256) (lo : List Nat) (H : Heap) : ∃ nl tg, callA cfg O 44 [.agg [I k, I n]] lo H = some (.p (.sl nl tg 13 ((recd k (n % 18446744073709551616).toNat).map U8)), H) := by
  have key : ∃ nl tg H', O.ent 44 [.agg [I k, I n]] [] [] = some ([.p (.sl nl tg 13 ((recd k (n % 18446744073709551616).toNat).map U8))], H') := by
    rw [f44_eq]
    have e1 : boxO [] (AV.cells (.agg [I k, I n])) [] = some (.ptr 0 0, [.box [I k, I n]]) := rfl
    have e2 : mkRow 1 1 [U8 0] (I 13) (I 13) [.box [I k, I n]] = some (Rw, Hp (.box [I k, I n]) (List.replicate 13 0)) := by
      simp [mkRow, asI, room, zerosA]
    have l0 : ld false 1 (.ptr 0 0) (Hp (.box [I k, I n]) (List.replicate 13 0)) = some (I k) := rfl
    have l1 : ld false 1 (.ptr 0 1) (Hp (.box [I k, I n]) ((List.replicate 13 0).set 0 (k % 256))) = some (I n) := rfl
    rw [e1]
    simp only [obs]
    have e2' : mkRow 1 1 [.v (.int .u8 0)] (I 13) (I 13) [.box [I k, I n]] = some (Rw, Hp (.box [I k, I n]) (List.replicate 13 0)) := e2
    rw [e2']
    generalize AObj.box [I k, I n] = bx at *
    have hset : stA 1 (.rptr 1 0 0) (.p (U8 (k % 256))) [] (Hp bx (List.replicate 13 0)) = some (Hp bx ((List.replicate 13 0).set 0 (k % 256))) := put (by simp) _
    simp only [obs, fldA_ptr, Nat.zero_add, l0, convi_8, idxA_row (show (0 : Int) ≤ 0 ∧ (0 : Int) < (13 : Nat) by omega), Int.toNat_zero, Nat.zero_mul]
    simp only [Nat.add_zero, hset, oms, obs, l1, conv_i64]
    have hN : (n % 18446744073709551616).toNat < 18446744073709551616 := by omega
    generalize (n % 18446744073709551616).toNat = N at hN ⊢
    have a1 := recA bx [] 8 N ((List.replicate 13 0).set 0 (k % 256)) (by omega) hN (by simp)
    simp only [Int.cast_ofNat_Int] at a1
    rw [a1]
    have hcs : ((List.replicate 13 0).set 0 (k % 256)).take 1 ++ be 8 N ++ ((List.replicate 13 0).set 0 (k % 256)).drop (8 + 1) = (k :: be 8 N) ++ [0, 0, 0, 0] := by
      rw [Nat.mod_eq_of_lt hk]; rfl
    rw [hcs, L44_12_eq]
    simp only [bin_gtr, obs, cond_B]
    rw [if_neg (by simp), cutA_row_hi (g' := 0) (xs := ((k :: be 8 N) ++ [0, 0, 0, 0]).map U8) rfl (by omega)]
    have hlen : (k :: be 8 N).length = 9 := by simp [be_len]
    have hb : ∀ b ∈ (k :: be 8 N), b < 256 := by
      intro b hb
      rcases List.mem_cons.mp hb with e | e
      · omega
      · exact be_lt _ _ b e
    have e133 := ent59 (nl := none) (tg := false) (bs := k :: be 8 N) hb (by omega)
    have hc : callA cfg O 59 [.row 1 0 0 (9 : Int).toNat] [] (Hp bx ((k :: be 8 N) ++ [0, 0, 0, 0])) = some (I (sm (k :: be 8 N)), Hp bx ((k :: be 8 N) ++ [0, 0, 0, 0])) := by
      refine callA_rows (H' := []) (rs := [I (sm (k :: be 8 N))]) rfl (pureArgs_row (sz := 1) (xs := ((k :: be 8 N) ++ [0, 0, 0, 0]).map U8) rfl (by simp [be_len])) ?_ rfl rfl
      rw [← e133]
      congr 3
    simp only [obs, hc]
    have a2 := recB bx [] 4 (sm (k :: be 8 N)) ((k :: be 8 N) ++ [0, 0, 0, 0]) (by omega) (sm_lt _) (by simp [be_len])
    simp only [show ((8 + 4 : Nat) : Int) = 12 from rfl] at a2
    rw [a2, L44_24_eq]
    have hcs2 : ((k :: be 8 N) ++ [0, 0, 0, 0]).take 9 ++ be 4 (sm (k :: be 8 N)) ++ ((k :: be 8 N) ++ [0, 0, 0, 0]).drop (9 + 4) = recd k N := by
      rw [List.take_left' hlen, List.drop_eq_nil_of_le (by simp [be_len]), List.append_nil]; rfl
    rw [hcs2]
    simp only [bin_gtr, obs, cond_B]
    rw [if_neg (by simp)]
    exact (Lst.row (sz := 1) (id := 1) (g := 0) (m := 13) (cs := (recd k N).map U8) (H := Hp bx (recd k N)) (by simp [recd_len]) rfl).leave1 []
  obtain ⟨nl, tg, H', e⟩ := key
  exact ⟨nl, tg, callA_args rfl rfl e rfl⟩

/-! ### Comparisons -/
section
variable {nx ny : Option Bool} {tx ty : Bool} {x y : List Nat}
theorem neqU8 (a b : Nat) : bin .neq .int (.p (U8 a)) (.p (U8 b)) = some (B (!decide (a = b))) := by
  show some (B ((a : Int) != (b : Int))) = _
  by_cases h : a = b
  · simp [h]
  · have : (a : Int) ≠ b := by omega
    simp [h, this]

theorem sameLoop (hl : y.length = x.length) (hb : x.length < 2 ^ 62) (lo : List Nat) (H : Heap) : ∀ (k i : Nat), x.length - i = k → i ≤ x.length →
    L20_10 [V nx tx x, V ny ty y, I i] lo H = some ([B (decide (x.drop i = y.drop i))], []) := by
  intro k
  induction k with
  | zero =>
    intro i hk hi
    have : i = x.length := by omega
    subst this
    rw [L20_10_eq]
    simp [-Option.bind_some, obs, List.drop_eq_nil_of_le, hl]
  | succ k ih =>
    intro i hk hi
    have hi' : i < x.length := by omega
    have hiy : i < y.length := by omega
    rw [L20_10_eq]
    simp only [lenA_sl, obs, bin_lss, cond_B]
    rw [if_pos (by simp; omega), idx hi', obs, ldb hi', obs, idx hiy, obs, ldb hiy]
    simp only [obs, neqU8, cond_B, leave0_B, bin_add]
    rw [wrap_id (by omega)]
    have hd : (x.drop i = y.drop i) ↔ (x[i] = y[i] ∧ x.drop (i + 1) = y.drop (i + 1)) := by
      rw [List.drop_eq_getElem_cons hi', List.drop_eq_getElem_cons hiy, List.cons.injEq]
    by_cases e : x[i] = y[i]
    · have := ih (i + 1) (by omega) (by omega)
      simp only [e, decide_true, Bool.not_true, Bool.false_eq_true, if_false]
      rw [show (i : Int) + 1 = ((i + 1 : Nat) : Int) by omega, this]
      simp only [hd, e, true_and]
    · simp only [hd, e, decide_false, Bool.not_false, if_true, false_and]

theorem call20 (hb : x.length < 2 ^ 62) {n m : Nat} {xs ys : List PV} (hn : n = x.length) (hx : xs = x.map U8) (hm : m = y.length) (hy : ys = y.map U8) (lo : List Nat) (H : Heap) :
    callA cfg O 20 [.p (.sl nx tx n xs), .p (.sl ny ty m ys)] lo H = some (B (decide (x = y)), H) := by
  subst hn hx hm hy
  refine callA_args (H' := []) (rs := [B (decide (x = y))]) rfl rfl ?_ rfl
  rw [f20_eq]
  simp only [lenA_sl, obs, bin_neq, cond_B]
  by_cases e : y.length = x.length
  · have := sameLoop (nx := nx) (ny := ny) (tx := tx) (ty := ty) e hb [] [] x.length 0 (by omega) (by omega)
    simp only [List.drop_zero] at this
    have e' : (x.length : Int) = y.length := by omega
    simp only [e', decide_true, Bool.not_true, Bool.false_eq_true, if_false]
    exact this
  · have h1 : x ≠ y := fun h => e (by rw [h])
    have h2 : ¬ ((x.length : Int) = (y.length : Int)) := by omega
    simp [-Option.bind_some, obs, h1, h2]
end

def val (p : Int × Int) : List PV := [Ia p.1, Ia p.2]
theorem val_len (p : Int × Int) : (val p).length = 2 := rfl

theorem neqVal (p : Int × Int) : bin .neq (.agg 2 [(0, .int), (1, .int)]) (.agg ((val p).map .p)) (.agg ((val p).map .p)) = some (B false) := by
  simp [bin, leavesEq, leafEq, eqRes, val]

end Spool
end Go.Proofs.Ytjncpgcbgdkflaa
