import Derived.Test.YtkhbbjfdbbnojaaELockupOrders
import Derived.Test.YtkhbbjfdbbnojaaTy
import Derived.Test.YtkhbbjfdbbnojaaAm32
import Derived.Test.YtkhbbjfdbbnojaaAm34
set_option linter.unusedVariables false
set_option linter.unusedSimpArgs false
namespace Go.Proofs.Ytkhbbjfdbbnojaa
open Go Go.AM
namespace Lo
abbrev P2 := Int × Int
def encP (p : P2) : List PV := [Ia p.1, Ia p.2]
theorem len2 (p : P2) : (encP p).length = 2 := rfl

/-! ### Neighbours alike are one -/
def ddf (p : P2) : List P2 → List P2
  | [] => []
  | y :: r => if y = p then ddf y r else y :: ddf y r
def dd : List P2 → List P2
  | [] => []
  | x :: r => x :: ddf x r
def plt (x y : P2) : Prop := x.1 < y.1 ∨ (x.1 = y.1 ∧ x.2 < y.2)
theorem plt_trans {x y z : P2} (h1 : plt x y) (h2 : plt y z) : plt x z := by unfold plt at *; omega
theorem plt_irr (x : P2) : ¬ plt x x := by unfold plt; omega
theorem plt_tri {x y : P2} (h1 : ¬ plt y x) (h2 : y ≠ x) : plt x y := by
  unfold plt at *
  have : ¬ (y.1 = x.1 ∧ y.2 = x.2) := fun h => h2 (Prod.ext h.1 h.2)
  omega

theorem ddf_snoc : ∀ (r : List P2) (p y : P2), ddf p (r ++ [y]) = ddf p r ++ if y = r.getLastD p then [] else [y] := by
  intro r
  induction r with
  | nil =>
    intro p y
    by_cases e : y = p <;> simp [ddf, e]
  | cons z r ih =>
    intro p y
    have e : (z :: r).getLastD p = r.getLastD z := by cases r <;> rfl
    rw [e, List.cons_append]
    unfold ddf
    rw [ih z y]
    split <;> rfl
theorem lastD_take : ∀ (r : List P2) (x : P2) (m : Nat), m ≤ r.length → (x :: r)[m]? = some ((r.take m).getLastD x) := by
  intro r
  induction r with
  | nil => intro x m h; have : m = 0 := by simpa using h
           subst this; rfl
  | cons z r ih =>
    intro x m h
    cases m with
    | zero => rfl
    | succ m =>
      have := ih z m (by simpa using h)
      rw [List.getElem?_cons_succ, this, List.take_succ_cons]
      cases r.take m <;> rfl
theorem dd_step {l : List P2} {m : Nat} (h0 : 0 < m) (h : m < l.length) : dd (l.take (m + 1)) = dd (l.take m) ++ if l[m] = l[m - 1] then [] else [l[m]] := by
  cases l with
  | nil => cases h
  | cons x r =>
    obtain ⟨m, rfl⟩ : ∃ k, m = k + 1 := ⟨m - 1, by omega⟩
    have hm : m < r.length := by simpa using h
    have h1 := lastD_take r x m (by omega)
    have h2 : (x :: r)[m + 1 - 1] = (r.take m).getLastD x := by
      have h3 : (x :: r)[m]'(by simp; omega) = (r.take m).getLastD x := by
        rw [List.getElem?_eq_getElem (by simp; omega)] at h1
        exact Option.some.inj h1
      exact h3
    rw [h2, List.take_succ_cons, List.take_succ_cons, List.take_add_one, List.getElem?_eq_getElem hm]
    simp only [dd, Option.toList_some, ddf_snoc, List.cons_append, List.getElem_cons_succ]
theorem dd_one {l : List P2} (h : 0 < l.length) : dd (l.take 1) = l.take 1 := by
  cases l with
  | nil => cases h
  | cons x r => rfl
theorem mem_ddf : ∀ (r : List P2) (p q : P2), q ∈ p :: ddf p r ↔ q ∈ p :: r := by
  intro r
  induction r with
  | nil => intro p q; rfl
  | cons y r ih =>
    intro p q
    unfold ddf
    split
    · rename_i e; subst e
      rw [ih y q]; simp
    · have := ih y q
      rw [List.mem_cons, this, ← List.mem_cons]
theorem mem_dd (l : List P2) (q : P2) : q ∈ dd l ↔ q ∈ l := by
  cases l with
  | nil => rfl
  | cons x r => exact mem_ddf r x q
theorem dd_sorted {l : List P2} (h : l.Pairwise fun x y => ¬ plt y x) : (dd l).Pairwise plt := by
  cases l with
  | nil => exact .nil
  | cons x r =>
    have key : ∀ (r : List P2) (x : P2), (x :: r).Pairwise (fun x y => ¬ plt y x) → (x :: ddf x r).Pairwise plt := by
      intro r
      induction r with
      | nil => intro x _; exact List.pairwise_singleton ..
      | cons y r ih =>
        intro x h
        obtain ⟨h1, h2⟩ := List.pairwise_cons.mp h
        have h3 := ih y h2
        unfold ddf
        split
        · rename_i e; subst e; exact h3
        · rename_i e
          have hxy := plt_tri (h1 y (by simp)) e
          refine List.pairwise_cons.mpr ⟨fun z hz => ?_, h3⟩
          rcases List.mem_cons.mp hz with e2 | e2
          · rw [e2]; exact hxy
          · exact plt_trans hxy ((List.pairwise_cons.mp h3).1 z e2)
    exact key r x h
theorem plt_uniq {l l' : List P2} (h : l.Pairwise plt) (h' : l'.Pairwise plt) (hm : ∀ p, p ∈ l ↔ p ∈ l') : l = l' := by
  have nd : ∀ {l : List P2}, l.Pairwise plt → l.Nodup := fun h => List.nodup_iff_pairwise_ne.mpr (List.Pairwise.imp (fun {a b} (h : plt a b) (e : a = b) => plt_irr a (by rw [← e] at h; exact h)) h)
  have hp : l.Perm l' := (List.perm_ext_iff_of_nodup (nd h) (nd h')).mpr hm
  exact hp.eq_of_pairwise (fun a b _ _ h1 h2 => (plt_irr a (plt_trans h1 h2)).elim) h h'

/-! ### Compact -/
section
variable {l : List P2} {id g : Nat} {H : Heap}
abbrev rP (l : List P2) (g : Nat) : AObj := .row g 2 (l.flatMap encP)
def avP (p : P2) : AV := .agg ((encP p).map .p)
theorem eqP (x y : P2) : bin .eql (.agg 2 [(0, .int), (1, .int)]) (avP x) (avP y) = some (B (decide (x = y))) := by
  have e : decide (x = y) = (decide (x.1 = y.1) && (decide (x.2 = y.2) && true)) := by
    rw [Bool.eq_iff_iff]; simp [Prod.ext_iff]
  rw [e]
  rfl
theorem neP (x y : P2) : bin .neq (.agg 2 [(0, .int), (1, .int)]) (avP x) (avP y) = some (B (!decide (x = y))) := by
  have e : decide (x = y) = (decide (x.1 = y.1) && (decide (x.2 = y.2) && true)) := by
    rw [Bool.eq_iff_iff]; simp [Prod.ext_iff]
  rw [e]
  rfl
theorem rP_ld (ho : H[id]? = some (rP l g)) {i : Nat} (h : i < l.length) : ld true 2 (.rptr id g (i * 2)) H = some (avP l[i]) := rowA len2 ho h
theorem rP_st (ho : H[id]? = some (rP l g)) {i : Nat} (h : i < l.length) (x : P2) (lo : List Nat) : stA 2 (.rptr id g (i * 2)) (avP x) lo H = some (H.set id (rP (l.set i x) g)) := by
  have hl : (l.flatMap encP).length = l.length * 2 := rows_length len2 l
  have hp : toPVs H (avP x).cells = some (encP x, H) := rfl
  simp only [stA, ho, hp, obs]
  rw [if_pos ⟨trivial, rfl, by rw [hl]; omega⟩, if_pos ⟨trivial, trivial⟩, flat_splice len2 l i x h]

theorem c124a (hn : l.length < 2 ^ 40) (ho : H[id]? = some (rP l g)) (lo : List Nat) {k : Nat} (hk : 0 < k) (hk2 : k < l.length) (hkd : dd (l.take k) = l.take k) (heq : l[k] = l[k - 1]'(by omega)) :
    ∀ (c q i : Nat) (H1 : Heap) (W : List P2), l.length - (k + q) = c → 0 < q → k + q ≤ l.length → i + 1 ≤ k + q → i < l.length → W = dd (l.take (k + q)) ++ l.drop i → (dd (l.take (k + q))).length = i → H1[id]? = some (rP W g) →
    ∃ H', L124_20 [.row id g 0 l.length, I i, .row id g (k * 2) (l.length - k), I q] lo H1 = some ([.row id g 0 (dd l).length], H') ∧ ∃ cs, H'[id]? = some (.row g 2 cs) ∧ cs.take ((dd l).length * 2) = (dd l).flatMap encP ∧ (dd l).length * 2 ≤ cs.length := by
  intro c
  induction c with
  | zero =>
    intro q i H1 W hc hq hkq hi hi2 hW hdi h1
    have e : k + q = l.length := by omega
    rw [e, List.take_length] at hW hdi
    have hWl : W.length = l.length := by rw [hW, List.length_append, hdi, List.length_drop]; omega
    have hlt : ¬ (q : Int) < ((l.length - k : Nat) : Int) := by omega
    rw [L124_20_eq]
    have hc1 : cutA 2 (.row id g 0 l.length) (some (I i)) none none H1 = some (.row id g (i * 2) (l.length - i)) := by
      simp only [cutA, bnd, asI, obs, h1]
      rw [if_pos ⟨trivial, by omega, by omega, by omega⟩]
      simp
    have hWf : (W.flatMap encP).length = l.length * 2 := by rw [rows_length len2, hWl]
    have hc2 : clearA 2 [(.v (.int .i64 0)), (.v (.int .i64 0))] (.row id g (i * 2) (l.length - i)) H1 = some (H1.set id (.row g 2 (splice (W.flatMap encP) (i * 2) (zerosA (l.length - i) [(.v (.int .i64 0)), (.v (.int .i64 0))])))) := by
      simp only [clearA, h1]
      rw [if_pos ⟨trivial, trivial, by rw [hWf]; omega⟩]
    have hset : (H1.set id (.row g 2 (splice (W.flatMap encP) (i * 2) (zerosA (l.length - i) [(.v (.int .i64 0)), (.v (.int .i64 0))]))))[id]? = some (.row g 2 (splice (W.flatMap encP) (i * 2) (zerosA (l.length - i) [(.v (.int .i64 0)), (.v (.int .i64 0))]))) := setAt h1
    generalize hsp : splice (W.flatMap encP) (i * 2) (zerosA (l.length - i) [(.v (.int .i64 0)), (.v (.int .i64 0))]) = cs at *
    have hc3 : cutA 2 (.row id g 0 l.length) none (some (I i)) none (H1.set id (.row g 2 cs)) = some (.row id g 0 i) := by
      rw [cutA_row_hi hset (by omega)]
      simp
    have hz : (zerosA (l.length - i) [(.v (.int .i64 0)), (.v (.int .i64 0))]).length = (l.length - i) * 2 := by
      simp [zerosA]
    refine ⟨H1.set id (.row g 2 cs), ?_, cs, hset, ?_, ?_⟩
    · rw [hdi]
      simp only [hlt, hc1, hc2, hc3, obs, oms, bin_add, bin_sub, bin_lss, bin_leq, bin_gtr, bin_geq, bin_eql, bin_neq, bin_eqlB, bin_neqB, un_not, cond_B, gd_B, gd_undef, gdH_B, gdH_undef, pickA_B, extractA_tup, lenA_sl, lenA_row, fldA_fp, fldA_ptr, fldA_rptr, List.getElem?_cons_zero, List.getElem?_cons_succ, decide_true, decide_false, if_true, if_false, Bool.true_eq_false, Bool.false_eq_true, Bool.not_true, Bool.not_false]
      rfl
    · rw [hdi, ← hsp, splice_take _ _ _ (by rw [hWf, hz]; omega), hW, List.flatMap_append]
      have hd2 : ((dd l).flatMap encP).length = i * 2 := by rw [rows_length len2, hdi]
      rw [List.append_assoc, List.take_append_of_le_length (by simp only [List.length_take, List.length_append, hd2]; omega), List.take_take, Nat.min_self, List.take_append_of_le_length (by omega), List.take_of_length_le (by omega)]
    · rw [hdi, ← hsp, splice_take _ _ _ (by rw [hWf, hz]; omega)]
      simp only [List.length_append, List.length_take, hWf, hz, List.length_drop]
      omega
  | succ c ih =>
    intro q i H1 W hc hq hkq hi hi2 hW hdi h1
    have hlt : (q : Int) < ((l.length - k : Nat) : Int) := by omega
    have hkl : k + q < l.length := by omega
    have hWl : W.length = l.length := by rw [hW, List.length_append, hdi, List.length_drop]; omega
    have hWg : ∀ t (ht : t < l.length), i ≤ t → W[t]'(by omega) = l[t] := by
      intro t ht hit
      simp only [hW]
      rw [List.getElem_append_right (by omega)]
      simp only [List.getElem_drop, hdi]
      congr 1
      omega
    have i1 : idxA 2 (.row id g (k * 2) (l.length - k)) (I q) = some (.rptr id g ((k + q) * 2)) := by
      rw [idxA_row (by omega)]
      simp only [Int.toNat_natCast, Nat.add_mul]
    have w1 : IntKind.i64.wrap ((q : Int) - 1) = ((q - 1 : Nat) : Int) := by rw [wrap_id (by omega)]; omega
    have i2 : idxA 2 (.row id g (k * 2) (l.length - k)) (I ((q - 1 : Nat) : Int)) = some (.rptr id g ((k + q - 1) * 2)) := by
      rw [idxA_row (by omega)]
      simp only [Int.toNat_natCast]
      rw [show k + q - 1 = k + (q - 1) by omega, Nat.add_mul]
    have l1 : ld true 2 (.rptr id g ((k + q) * 2)) H1 = some (avP (l[k + q]'hkl)) := by rw [rP_ld h1 (by omega), hWg _ (by omega) (by omega)]
    have l2 : ld true 2 (.rptr id g ((k + q - 1) * 2)) H1 = some (avP (l[k + q - 1]'(by omega))) := by rw [rP_ld h1 (by omega), hWg _ (by omega) (by omega)]
    have hds := dd_step (l := l) (m := k + q) (by omega) (by omega)
    have w2 : IntKind.i64.wrap ((q : Int) + 1) = ((q + 1 : Nat) : Int) := by rw [wrap_id (by omega), nxt]
    have w3 : IntKind.i64.wrap ((i : Int) + 1) = ((i + 1 : Nat) : Int) := by rw [wrap_id (by omega), nxt]
    have i3 : idxA 2 (.row id g 0 l.length) (I i) = some (.rptr id g (i * 2)) := rowI hi2
    rw [L124_20_eq]
    by_cases he : l[k + q]'hkl = l[k + q - 1]'(by omega)
    · rw [if_pos he, List.append_nil] at hds
      obtain ⟨H', e, r⟩ := ih (q + 1) i H1 W (by omega) (by omega) (by omega) (by omega) hi2 (by rw [← Nat.add_assoc, hds]; exact hW) (by rw [← Nat.add_assoc, hds]; exact hdi) h1
      refine ⟨H', ?_, r⟩
      simp only [hlt, i1, w1, i2, l1, l2, neP, he, L124_23_eq, w2, obs, oms, bin_add, bin_sub, bin_lss, bin_leq, bin_gtr, bin_geq, bin_eql, bin_neq, bin_eqlB, bin_neqB, un_not, cond_B, gd_B, gd_undef, gdH_B, gdH_undef, pickA_B, extractA_tup, lenA_sl, lenA_row, fldA_fp, fldA_ptr, fldA_rptr, List.getElem?_cons_zero, List.getElem?_cons_succ, decide_true, decide_false, if_true, if_false, Bool.true_eq_false, Bool.false_eq_true, Bool.not_true, Bool.not_false]
      exact e
    · rw [if_neg he] at hds
      have st := rP_st h1 (i := i) (by omega) (l[k + q]'hkl) lo
      have hset : W.set i (l[k + q]'hkl) = dd (l.take (k + q + 1)) ++ l.drop (i + 1) := by
        rw [hds, hW, List.set_append_right _ _ (by omega), hdi, Nat.sub_self, List.append_assoc]
        congr 1
        rw [List.drop_eq_getElem_cons hi2]
        rfl
      obtain ⟨H', e, r⟩ := ih (q + 1) (i + 1) (H1.set id (rP (W.set i (l[k + q]'hkl)) g)) _ (by omega) (by omega) (by omega) (by omega) (by omega) (by rw [← Nat.add_assoc]; exact hset) (by rw [← Nat.add_assoc, hds, List.length_append, hdi]; rfl) (setAt h1)
      refine ⟨H', ?_, r⟩
      simp only [hlt, i1, w1, i2, l1, l2, neP, he, i3, st, w3, L124_23_eq, w2, obs, oms, bin_add, bin_sub, bin_lss, bin_leq, bin_gtr, bin_geq, bin_eql, bin_neq, bin_eqlB, bin_neqB, un_not, cond_B, gd_B, gd_undef, gdH_B, gdH_undef, pickA_B, extractA_tup, lenA_sl, lenA_row, fldA_fp, fldA_ptr, fldA_rptr, List.getElem?_cons_zero, List.getElem?_cons_succ, decide_true, decide_false, if_true, if_false, Bool.true_eq_false, Bool.false_eq_true, Bool.not_true, Bool.not_false]
      exact e

theorem c124b (hn : l.length < 2 ^ 40) (ho : H[id]? = some (rP l g)) (lo : List Nat) : ∀ (c k : Nat), l.length - k = c → 0 < k → k ≤ l.length → dd (l.take k) = l.take k →
    ∃ H', L124_10 [.row id g 0 l.length, I k] lo H = some ([.row id g 0 (dd l).length], H') ∧ ∃ cs, H'[id]? = some (.row g 2 cs) ∧ cs.take ((dd l).length * 2) = (dd l).flatMap encP ∧ (dd l).length * 2 ≤ cs.length := by
  intro c
  have hl : (l.flatMap encP).length = l.length * 2 := rows_length len2 l
  induction c with
  | zero =>
    intro k hc hk hk2 hd
    have e : k = l.length := by omega
    subst e
    rw [List.take_length] at hd
    rw [L124_10_eq]
    refine ⟨H, ?_, _, ho, ?_, ?_⟩
    · simp only [Int.lt_irrefl, hd, obs, oms, bin_add, bin_sub, bin_lss, bin_leq, bin_gtr, bin_geq, bin_eql, bin_neq, bin_eqlB, bin_neqB, un_not, cond_B, gd_B, gd_undef, gdH_B, gdH_undef, pickA_B, extractA_tup, lenA_sl, lenA_row, fldA_fp, fldA_ptr, fldA_rptr, List.getElem?_cons_zero, List.getElem?_cons_succ, decide_true, decide_false, if_true, if_false, Bool.true_eq_false, Bool.false_eq_true, Bool.not_true, Bool.not_false]
      rfl
    · rw [hd, List.take_of_length_le (by omega)]
    · rw [hd]; omega
  | succ c ih =>
    intro k hc hk hk2 hd
    have hk3 : k < l.length := by omega
    have hlt : (k : Int) < l.length := by omega
    have w1 : IntKind.i64.wrap ((k : Int) - 1) = ((k - 1 : Nat) : Int) := by rw [wrap_id (by omega)]; omega
    have w2 : IntKind.i64.wrap ((k : Int) + 1) = ((k + 1 : Nat) : Int) := by rw [wrap_id (by omega), nxt]
    have i1 : idxA 2 (.row id g 0 l.length) (I k) = some (.rptr id g (k * 2)) := rowI hk3
    have i2 : idxA 2 (.row id g 0 l.length) (I ((k - 1 : Nat) : Int)) = some (.rptr id g ((k - 1) * 2)) := rowI (by omega)
    have l1 := rP_ld ho hk3
    have l2 := rP_ld ho (i := k - 1) (by omega)
    have hds := dd_step hk hk3
    rw [L124_10_eq]
    by_cases he : l[k] = l[k - 1]
    · rw [if_pos he, List.append_nil] at hds
      have hc1 : cutA 2 (.row id g 0 l.length) (some (I k)) none none H = some (.row id g (k * 2) (l.length - k)) := by
        simp only [cutA, bnd, asI, obs, ho]
        rw [if_pos ⟨trivial, by omega, by omega, by omega⟩]
        simp
      obtain ⟨H', e, r⟩ := c124a hn ho lo hk hk3 hd he (l.length - (k + 1)) 1 k H l rfl (by omega) (by omega) (by omega) hk3 (by rw [hds, hd, List.take_append_drop]) (by rw [hds, hd, List.length_take]; omega) ho
      refine ⟨H', ?_, r⟩
      simp only [hlt, i1, w1, i2, l1, l2, eqP, he, hc1, obs, oms, bin_add, bin_sub, bin_lss, bin_leq, bin_gtr, bin_geq, bin_eql, bin_neq, bin_eqlB, bin_neqB, un_not, cond_B, gd_B, gd_undef, gdH_B, gdH_undef, pickA_B, extractA_tup, lenA_sl, lenA_row, fldA_fp, fldA_ptr, fldA_rptr, List.getElem?_cons_zero, List.getElem?_cons_succ, decide_true, decide_false, if_true, if_false, Bool.true_eq_false, Bool.false_eq_true, Bool.not_true, Bool.not_false]
      exact e
    · rw [if_neg he, hd] at hds
      obtain ⟨H', e, r⟩ := ih (k + 1) (by omega) (by omega) (by omega) (by rw [hds, List.take_add_one, List.getElem?_eq_getElem hk3]; rfl)
      refine ⟨H', ?_, r⟩
      simp only [hlt, i1, w1, i2, l1, l2, eqP, he, w2, obs, oms, bin_add, bin_sub, bin_lss, bin_leq, bin_gtr, bin_geq, bin_eql, bin_neq, bin_eqlB, bin_neqB, un_not, cond_B, gd_B, gd_undef, gdH_B, gdH_undef, pickA_B, extractA_tup, lenA_sl, lenA_row, fldA_fp, fldA_ptr, fldA_rptr, List.getElem?_cons_zero, List.getElem?_cons_succ, decide_true, decide_false, if_true, if_false, Bool.true_eq_false, Bool.false_eq_true, Bool.not_true, Bool.not_false]
      exact e

theorem ent124 (hn : l.length < 2 ^ 40) (h0 : 0 < l.length) (ho : H[id]? = some (rP l g)) (lo : List Nat) :
    ∃ H', O.ent 124 [.row id g 0 l.length] lo H = some ([.row id g 0 (dd l).length], H') ∧ ∃ cs, H'[id]? = some (.row g 2 cs) ∧ cs.take ((dd l).length * 2) = (dd l).flatMap encP ∧ (dd l).length * 2 ≤ cs.length := by
  rw [f124_eq]
  by_cases h : l.length < 2
  · have h1 : l.length = 1 := by omega
    obtain ⟨x, rfl⟩ := List.length_eq_one_iff.mp h1
    refine ⟨H, ?_, _, ho, ?_, ?_⟩
    · simp only [List.length_singleton, dd, ddf, obs, oms, bin_add, bin_sub, bin_lss, bin_leq, bin_gtr, bin_geq, bin_eql, bin_neq, bin_eqlB, bin_neqB, un_not, cond_B, gd_B, gd_undef, gdH_B, gdH_undef, pickA_B, extractA_tup, lenA_sl, lenA_row, fldA_fp, fldA_ptr, fldA_rptr, List.getElem?_cons_zero, List.getElem?_cons_succ, decide_true, decide_false, if_true, if_false, Bool.true_eq_false, Bool.false_eq_true, Bool.not_true, Bool.not_false]
      rfl
    · rfl
    · simp [dd, ddf, encP]
  · have h2 : ¬ (l.length : Int) < 2 := by omega
    obtain ⟨H', e, r⟩ := c124b hn ho lo (l.length - 1) 1 rfl (by omega) (by omega) (dd_one h0)
    refine ⟨H', ?_, r⟩
    simp only [h2, obs, oms, bin_add, bin_sub, bin_lss, bin_leq, bin_gtr, bin_geq, bin_eql, bin_neq, bin_eqlB, bin_neqB, un_not, cond_B, gd_B, gd_undef, gdH_B, gdH_undef, pickA_B, extractA_tup, lenA_sl, lenA_row, fldA_fp, fldA_ptr, fldA_rptr, List.getElem?_cons_zero, List.getElem?_cons_succ, decide_true, decide_false, if_true, if_false, Bool.true_eq_false, Bool.false_eq_true, Bool.not_true, Bool.not_false]
    exact e
end
end Lo
end Go.Proofs.Ytkhbbjfdbbnojaa
