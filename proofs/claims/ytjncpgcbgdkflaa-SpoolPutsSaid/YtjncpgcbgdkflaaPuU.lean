import Derived.Test.YtjncpgcbgdkflaaPuT
set_option linter.unusedVariables false
set_option linter.unusedSimpArgs false
namespace Go.Proofs.Ytjncpgcbgdkflaa
open Go Go.AM
namespace Spool

/-! ### big -/
theorem shr8 (a : Nat) : bin .shr .int (U64 a) (.p (.v (.int .u64 8))) = some (U64 (a / 256)) := by
  have : bin .shr .int (U64 a) (.p (.v (.int .u64 8))) = some (.p (.v (.int .u64 ((a : Int).fdiv (2 ^ (min (8 : Int).toNat IntKind.u64.bits)))))) := rfl
  rw [this]
  have e : (min (8 : Int).toNat IntKind.u64.bits) = 8 := rfl
  rw [e]
  have e2 : (a : Int).fdiv (2 ^ 8) = ((a / 256 : Nat) : Int) := by
    rw [show (2 : Int) ^ 8 = 256 by decide, Int.fdiv_eq_ediv_of_nonneg _ (by omega)]
    omega
  rw [e2]

abbrev Hb (n m : Nat) (cs : List Nat) : Heap := [.box [U64 n], .row 0 1 (cs.map U8), .box [.row 1 0 0 m], .box [.row 1 0 0 m]]

theorem bigLoop (m : Nat) (hm : m ≤ 8) (lo : List Nat) : ∀ (i n : Nat) (cs : List Nat), i ≤ m → cs.length = m →
    L40_200002 [I ((i : Int) - 1), .ptr 3 0, .ptr 0 0, .ptr 2 0] lo (Hb n m cs) = L40_200002 [I (-1), .ptr 3 0, .ptr 0 0, .ptr 2 0] lo (Hb (n / 256 ^ i) m (be i n ++ cs.drop i)) := by
  intro i
  induction i with
  | zero =>
    intro n cs _ _
    simp [be]
  | succ i ih =>
    intro n cs hi hc
    have hi' : i < cs.length := by omega
    have g : ¬ ((i : Int) < 0) := by omega
    have l3 : ld false 1 (.ptr 3 0) (Hb n m cs) = some (.row 1 0 0 m) := rfl
    have l2 : ld false 1 (.ptr 2 0) (Hb n m cs) = some (.row 1 0 0 m) := rfl
    have l0 : ∀ cs', ld false 1 (.ptr 0 0) (Hb n m cs') = some (U64 n) := fun _ => rfl
    have lr : ld false 1 (.rptr 1 0 i) (Hb n m cs) = some (.p (U8 cs[i])) := by
      rw [ld_row (H := Hb n m cs) (id := 1) (g := 0) (sz := 1) (xs := cs.map U8) rfl, List.getElem?_map, List.getElem?_eq_getElem hi']; rfl
    have st : ∀ b, stA 1 (.rptr 1 0 i) (.p (U8 b)) lo (Hb n m cs) = some (Hb n m (cs.set i b)) := fun b => by
      rw [stA_row (H := Hb n m cs) (id := 1) (g := 0) (sz := 1) (xs := cs.map U8) rfl (by simpa using hi')]
      simp [List.map_set]
    have st2 : ∀ cs' b, stA 1 (.ptr 0 0) (U64 b) lo (Hb n m cs') = some (Hb b m cs') := fun cs' b => stA_one (x0 := U64 n) (H := Hb n m cs') rfl
    have e0 : ((i + 1 : Nat) : Int) - 1 = i := by omega
    rw [e0, L40_200002_eq]
    simp only [bin_lss, obs, cond_B, g, decide_false, Bool.false_eq_true, if_false, l3, l2, l0, idxA_row (show (0 : Int) ≤ i ∧ (i : Int) < m by omega), Int.toNat_natCast, Nat.mul_one, Nat.zero_add, lr, conv64_8, st, oms, shr8, st2, bin_sub]
    rw [wrap_id (by omega), ih _ _ (by omega) (by simpa using hc), Nat.div_div_eq_div_mul, show 256 * 256 ^ i = 256 ^ (i + 1) by rw [Nat.pow_succ, Nat.mul_comm], drop_set hi']
    simp only [be, List.append_assoc, List.singleton_append]

theorem call40 {n m : Nat} (hm : m ≤ 8) (lo : List Nat) (H : Heap) : ∃ nl tg, callA cfg O 40 [U64 n, I m] lo H = some (.p (.sl nl tg m ((be m n).map U8)), H) := by
  have key : ∃ nl tg H', O.ent 40 [U64 n, I m] [] [] = some ([.p (.sl nl tg m ((be m n).map U8))], H') := by
    have e1 : boxO [] (AV.cells (U64 n)) [] = some (.ptr 0 0, [.box [U64 n]]) := rfl
    have e2 : mkRow 1 1 [(.v (.int .u8 0))] (I m) (I m) [.box [U64 n]] = some (.row 1 0 0 m, [.box [U64 n], .row 0 1 ((List.replicate m 0).map U8)]) := by
      simp only [mkRow, asI, obs]
      rw [if_pos (by simp only [room]; omega)]
      simp [zerosA, List.flatten_replicate_replicate]
    have e3 : ∀ H : Heap, H.length = 2 → boxO [] [(.p nilS)] H = some (.ptr 2 0, H ++ [.box [.p nilS]]) := fun H h => by
      have := boxO_p [nilS] H
      rw [h] at this
      exact this
    have e4 : ∀ a b : AObj, stA 1 (.ptr 2 0) (.row 1 0 0 m) [] [a, b, .box [.p nilS]] = some [a, b, .box [.row 1 0 0 m]] := fun _ _ => rfl
    have e5 : ∀ a b : AObj, ld false 1 (.ptr 2 0) [a, b, .box [.row 1 0 0 m]] = some (.row 1 0 0 m) := fun _ _ => rfl
    have e6 : ∀ a b : AObj, callA cfg O 57 [.row 1 0 0 m] [] [a, b, .box [.row 1 0 0 m]] = some (.fn 67 [] [.ptr 3 0], [a, b, .box [.row 1 0 0 m], .box [.row 1 0 0 m]]) := fun a b => by
      have he : O.ent 57 [.row 1 0 0 m] [] [a, b, .box [.row 1 0 0 m]] = some ([.fn 67 [] [.ptr 3 0]], [a, b, .box [.row 1 0 0 m], .box [.row 1 0 0 m]]) := by
        rw [f57_eq]
        rfl
      have : callA cfg O 57 [.row 1 0 0 m] [] [a, b, .box [.row 1 0 0 m]] = (O.ent 57 [.row 1 0 0 m] [] [a, b, .box [.row 1 0 0 m]]).bind fun r => oneH [a, b, .box [.row 1 0 0 m]] (ret r.1) r.2 := rfl
      rw [this, he]
      simp only [obs]
      unfold oneH
      rw [if_pos (.inr ⟨_, rfl⟩)]
      rfl
    have e7 : ∀ a b : AObj, ld false 1 (.ptr 3 0) [a, b, .box [.row 1 0 0 m], .box [.row 1 0 0 m]] = some (.row 1 0 0 m) := fun _ _ => rfl
    have e8 : rngIn (.fn 67 [] [.ptr 3 0]) 67 = some (.ptr 3 0) := rfl
    have e9 : ∀ H, lenA .slice (.row 1 0 0 m) H = some (I m) := fun _ => rfl
    rw [f40_eq, e1]
    simp only [obs, e2]
    rw [e3 _ rfl]
    simp only [obs, List.cons_append, List.nil_append, e4, oms, e5, e6, e7, e8, e9, bin_sub]
    rw [wrap_id (by omega)]
    have a := bigLoop m hm [] m n (List.replicate m 0) (Nat.le_refl _) (by simp)
    rw [a]
    have hd : be m n ++ (List.replicate m 0).drop m = be m n := by simp
    rw [hd, L40_200002_eq]
    have g : (-1 : Int) < 0 := by omega
    have l2 : ∀ n', ld false 1 (.ptr 2 0) (Hb n' m (be m n)) = some (.row 1 0 0 m) := fun _ => rfl
    simp only [bin_lss, obs, cond_B, g, decide_true, if_true, l2]
    exact (Lst.row (sz := 1) (id := 1) (g := 0) (m := m) (cs := (be m n).map U8) (H := Hb _ m (be m n)) (by simp [be_len]) rfl).leave1 []
  obtain ⟨nl, tg, H', e⟩ := key
  exact ⟨nl, tg, callA_args rfl rfl e rfl⟩

end Spool
end Go.Proofs.Ytjncpgcbgdkflaa
