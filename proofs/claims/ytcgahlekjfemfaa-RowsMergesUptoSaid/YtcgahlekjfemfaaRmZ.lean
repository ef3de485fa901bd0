import Derived.Test.YtcgahlekjfemfaaRmY
set_option linter.unusedVariables false
set_option linter.unusedSimpArgs false
namespace Go.Proofs.Ytcgahlekjfemfaa
open Go Go.AM
namespace Rm
abbrev z12 : List PV := [(.v (.int .i64 0)), (.v (.int .i64 0)), (.v (.int .i64 0)), (.v (.int .i64 0)), (.v (.int .i64 0)), (.v (.int .i64 0)), (.v (.int .i64 0)), (.v (.int .i64 0)), (.v (.int .i64 0)), (.v (.int .i64 0)), (.v (.int .i64 0)), (.v (.int .i64 0))]
section
variable {n1 n2 : Option Bool} {t1 t2 : Bool} {l m : List E}
theorem call88z : callA cfg O 88 [.p nilS, I 0] [] [] = some (.p nilS, []) := by
  refine callA_keep (rs := [.p nilS]) rfl ?_
  rw [f88_eq]
  have hc : capA (.p nilS) = some (I 0) := rfl
  simp only [obs, oms, bin_add, bin_sub, bin_lss, bin_leq, bin_gtr, bin_geq, bin_eql, bin_neq, bin_eqlB, bin_neqB, un_not, cond_B, gd_B, gd_undef, gdH_B, gdH_undef, pickA_B, extractA_tup, lenA_sl, lenA_row, fldA_fp, fldA_ptr, fldA_rptr, List.getElem?_cons_zero, List.getElem?_cons_succ, decide_true, decide_false, if_true, if_false, Bool.true_eq_false, Bool.false_eq_true, Bool.not_true, Bool.not_false]
  rw [if_neg (by simp), L88_9_eq]
  simp only [hc, obs, oms, bin_add, bin_sub, bin_lss, bin_leq, bin_gtr, bin_geq, bin_eql, bin_neq, bin_eqlB, bin_neqB, un_not, cond_B, gd_B, gd_undef, gdH_B, gdH_undef, pickA_B, extractA_tup, lenA_sl, lenA_row, fldA_fp, fldA_ptr, fldA_rptr, List.getElem?_cons_zero, List.getElem?_cons_succ, decide_true, decide_false, if_true, if_false, Bool.true_eq_false, Bool.false_eq_true, Bool.not_true, Bool.not_false]
  have w : IntKind.i64.wrap (0 - IntKind.i64.wrap (0 - ((0 : Nat) : Int))) = 0 := rfl
  rw [w, if_neg (by simp), L88_15_eq]
  rfl
theorem call88n {n : Nat} (h0 : 0 < n) (hn : n ≤ 200) : ∃ zs, callA cfg O 88 [.p nilS, I n] [] [] = some (.row 0 0 0 0, [.row 0 12 zs]) := by
  have hc : capA (.p nilS) = some (I 0) := rfl
  have hcut : cutA 12 (.p nilS) none (some (I 0)) none [] = some (.p nilS) := rfl
  have hz : appZ 12 96 z12 (.p nilS) (I n) [] = some (.row 0 0 0 n, [.row 0 12 (zerosA n z12)]) := by
    simp only [appZ, asI, obs, appTo]
    rw [if_pos (by simp only [room, Int.toNat_natCast]; omega), if_neg (by rw [Int.toNat_natCast]; omega), if_pos (by simp only [room, Int.toNat_natCast]; omega)]
    rw [Int.toNat_natCast]
    rfl
  have hcut2 := cutA_row_hi (sz := 12) (g := 0) (n := n) (h := 0) (H := [.row 0 12 (zerosA n z12)]) (id := 0) rfl (by omega)
  refine ⟨zerosA n z12, callA_keep (rs := [.row 0 0 0 0]) rfl ?_⟩
  rw [f88_eq]
  have g1 : ¬ (n : Int) < 0 := by omega
  have g2 : (0 : Int) < n := by omega
  simp only [g1, obs, oms, bin_add, bin_sub, bin_lss, bin_leq, bin_gtr, bin_geq, bin_eql, bin_neq, bin_eqlB, bin_neqB, un_not, cond_B, gd_B, gd_undef, gdH_B, gdH_undef, pickA_B, extractA_tup, lenA_sl, lenA_row, fldA_fp, fldA_ptr, fldA_rptr, List.getElem?_cons_zero, List.getElem?_cons_succ, decide_true, decide_false, if_true, if_false, Bool.true_eq_false, Bool.false_eq_true, Bool.not_true, Bool.not_false]
  rw [L88_9_eq]
  have w1 : IntKind.i64.wrap (0 - ((0 : Nat) : Int)) = 0 := rfl
  have w2 : IntKind.i64.wrap ((n : Int) - 0) = n := by rw [wrap_id (by omega)]; omega
  have hlen : lenA .slice (.p nilS) ([] : Heap) = some (I (0 : Nat)) := rfl
  have hlen2 : lenA .slice (.p nilS) ([.row 0 12 (zerosA n z12)] : Heap) = some (I 0) := rfl
  simp only [hc, hlen, obs, bin_sub, w1, w2, bin_gtr, g2, decide_true, cond_B, if_true, hcut, hz, hlen2, hcut2]
  rw [L88_15_eq]
  rfl

abbrev two2 (x y : PV) : AV := .p (.sl (some false) true 2 [x, y])
theorem ix0 (x y : PV) : idxA 1 (two2 x y) (I 0) = some (.fp [x, y] 0) := rfl
theorem ix1 (x y : PV) : idxA 1 (two2 x y) (I 1) = some (.fp [x, y] 1) := rfl
theorem sums (hl : l.length + m.length ≤ 200) : L65_8 [two2 (lp n1 t1 l) (lp n2 t2 m), I 0, two2 (lp n1 t1 l) (lp n2 t2 m), I 2, I 0] [] [] =
    (callA cfg O 88 [.p nilS, I (l.length + m.length : Nat)] [] []).bind fun r7 => L65_24 [r7.1, two2 (lp n1 t1 l) (lp n2 t2 m), I 2, I 0] [] r7.2 := by
  have a0 : ∀ H, ld false 1 (.fp [lp n1 t1 l, lp n2 t2 m] 0) H = some (L n1 t1 l) := fun H => rfl
  have a1 : ∀ H, ld false 1 (.fp [lp n1 t1 l, lp n2 t2 m] 1) H = some (L n2 t2 m) := fun H => rfl
  rw [L65_8_eq]
  simp only [bin_lss, show (0 : Int) < 2 from by omega, obs, oms, bin_add, bin_sub, bin_lss, bin_leq, bin_gtr, bin_geq, bin_eql, bin_neq, bin_eqlB, bin_neqB, un_not, cond_B, gd_B, gd_undef, gdH_B, gdH_undef, pickA_B, extractA_tup, lenA_sl, lenA_row, fldA_fp, fldA_ptr, fldA_rptr, List.getElem?_cons_zero, List.getElem?_cons_succ, decide_true, decide_false, if_true, if_false, Bool.true_eq_false, Bool.false_eq_true, Bool.not_true, Bool.not_false, ix0, a0]
  rw [show IntKind.i64.wrap (0 + (l.length : Int)) = (l.length : Int) by rw [wrap_id (by omega)]; omega, if_neg (by simp), L65_19_eq]
  simp only [obs, oms, bin_add, bin_sub, bin_lss, bin_leq, bin_gtr, bin_geq, bin_eql, bin_neq, bin_eqlB, bin_neqB, un_not, cond_B, gd_B, gd_undef, gdH_B, gdH_undef, pickA_B, extractA_tup, lenA_sl, lenA_row, fldA_fp, fldA_ptr, fldA_rptr, List.getElem?_cons_zero, List.getElem?_cons_succ, decide_true, decide_false, if_true, if_false, Bool.true_eq_false, Bool.false_eq_true, Bool.not_true, Bool.not_false]
  rw [show IntKind.i64.wrap (0 + 1) = 1 from rfl, L65_8_eq]
  simp only [show (1 : Int) < 2 from by omega, obs, oms, bin_add, bin_sub, bin_lss, bin_leq, bin_gtr, bin_geq, bin_eql, bin_neq, bin_eqlB, bin_neqB, un_not, cond_B, gd_B, gd_undef, gdH_B, gdH_undef, pickA_B, extractA_tup, lenA_sl, lenA_row, fldA_fp, fldA_ptr, fldA_rptr, List.getElem?_cons_zero, List.getElem?_cons_succ, decide_true, decide_false, if_true, if_false, Bool.true_eq_false, Bool.false_eq_true, Bool.not_true, Bool.not_false, ix1, a1]
  rw [show IntKind.i64.wrap ((l.length : Int) + (m.length : Int)) = ((l.length + m.length : Nat) : Int) by rw [wrap_id (by omega)]; omega, if_neg (by simp; omega), L65_19_eq]
  simp only [obs, oms, bin_add, bin_sub, bin_lss, bin_leq, bin_gtr, bin_geq, bin_eql, bin_neq, bin_eqlB, bin_neqB, un_not, cond_B, gd_B, gd_undef, gdH_B, gdH_undef, pickA_B, extractA_tup, lenA_sl, lenA_row, fldA_fp, fldA_ptr, fldA_rptr, List.getElem?_cons_zero, List.getElem?_cons_succ, decide_true, decide_false, if_true, if_false, Bool.true_eq_false, Bool.false_eq_true, Bool.not_true, Bool.not_false]
  rw [show IntKind.i64.wrap (1 + 1) = 2 from rfl, L65_8_eq]
  simp only [show ¬ (2 : Int) < 2 from by omega, obs, oms, bin_add, bin_sub, bin_lss, bin_leq, bin_gtr, bin_geq, bin_eql, bin_neq, bin_eqlB, bin_neqB, un_not, cond_B, gd_B, gd_undef, gdH_B, gdH_undef, pickA_B, extractA_tup, lenA_sl, lenA_row, fldA_fp, fldA_ptr, fldA_rptr, List.getElem?_cons_zero, List.getElem?_cons_succ, decide_true, decide_false, if_true, if_false, Bool.true_eq_false, Bool.false_eq_true, Bool.not_true, Bool.not_false]
  rfl

theorem app24 {o : AV} {H : Heap} {r1 r2 : AV × Heap} (e1 : appA 12 96 o (L n1 t1 l) H = some r1) (e2 : appA 12 96 r1.1 (L n2 t2 m) r1.2 = some r2) : L65_24 [o, two2 (lp n1 t1 l) (lp n2 t2 m), I 2, I 0] [] H = some ([r2.1], r2.2) := by
  have a0 : ∀ H, ld false 1 (.fp [lp n1 t1 l, lp n2 t2 m] 0) H = some (L n1 t1 l) := fun H => rfl
  have a1 : ∀ H, ld false 1 (.fp [lp n1 t1 l, lp n2 t2 m] 1) H = some (L n2 t2 m) := fun H => rfl
  rw [L65_24_eq]
  simp only [show (0 : Int) < 2 from by omega, obs, oms, bin_add, bin_sub, bin_lss, bin_leq, bin_gtr, bin_geq, bin_eql, bin_neq, bin_eqlB, bin_neqB, un_not, cond_B, gd_B, gd_undef, gdH_B, gdH_undef, pickA_B, extractA_tup, lenA_sl, lenA_row, fldA_fp, fldA_ptr, fldA_rptr, List.getElem?_cons_zero, List.getElem?_cons_succ, decide_true, decide_false, if_true, if_false, Bool.true_eq_false, Bool.false_eq_true, Bool.not_true, Bool.not_false, ix0, a0, e1]
  rw [show IntKind.i64.wrap (0 + 1) = 1 from rfl, L65_24_eq]
  simp only [show (1 : Int) < 2 from by omega, obs, oms, bin_add, bin_sub, bin_lss, bin_leq, bin_gtr, bin_geq, bin_eql, bin_neq, bin_eqlB, bin_neqB, un_not, cond_B, gd_B, gd_undef, gdH_B, gdH_undef, pickA_B, extractA_tup, lenA_sl, lenA_row, fldA_fp, fldA_ptr, fldA_rptr, List.getElem?_cons_zero, List.getElem?_cons_succ, decide_true, decide_false, if_true, if_false, Bool.true_eq_false, Bool.false_eq_true, Bool.not_true, Bool.not_false, ix1, a1, e2]
  rw [show IntKind.i64.wrap (1 + 1) = 2 from rfl, L65_24_eq]
  simp only [show ¬ (2 : Int) < 2 from by omega, obs, oms, bin_add, bin_sub, bin_lss, bin_leq, bin_gtr, bin_geq, bin_eql, bin_neq, bin_eqlB, bin_neqB, un_not, cond_B, gd_B, gd_undef, gdH_B, gdH_undef, pickA_B, extractA_tup, lenA_sl, lenA_row, fldA_fp, fldA_ptr, fldA_rptr, List.getElem?_cons_zero, List.getElem?_cons_succ, decide_true, decide_false, if_true, if_false, Bool.true_eq_false, Bool.false_eq_true, Bool.not_true, Bool.not_false]
  rfl

theorem call65 (hl : l.length + m.length ≤ 200) : callA cfg O 65 [two2 (lp n1 t1 l) (lp n2 t2 m)] [] [] = if l.length + m.length = 0 then some (.p nilS, []) else some (R 0 2 (l ++ m).length, [.row 2 12 ((l ++ m).flatMap enc)]) := by
  have hs := sums (n1 := n1) (t1 := t1) (n2 := n2) (t2 := t2) hl
  have c1 : ∀ H, cellsA 12 (L n1 t1 l) H = some (l.length, l.flatMap enc) := fun H => if_pos (flen l)
  have c2 : ∀ H, cellsA 12 (L n2 t2 m) H = some (m.length, m.flatMap enc) := fun H => if_pos (flen m)
  have hent : O.ent 65 [two2 (lp n1 t1 l) (lp n2 t2 m)] [] [] = L65_8 [two2 (lp n1 t1 l) (lp n2 t2 m), I 0, two2 (lp n1 t1 l) (lp n2 t2 m), I 2, I 0] [] [] := by
    rw [f65_eq]
    rfl
  by_cases h : l.length + m.length = 0
  · rw [if_pos h]
    have h1 : l = [] := List.length_eq_zero_iff.mp (by omega)
    have h2 : m = [] := List.length_eq_zero_iff.mp (by omega)
    subst h1 h2
    refine callA_keep (rs := [.p nilS]) rfl ?_
    rw [hent, hs]
    have e88 : callA cfg O 88 [.p nilS, I (([] : List E).length + ([] : List E).length : Nat)] [] [] = some (.p nilS, []) := call88z
    rw [e88]
    exact app24 (r1 := (.p nilS, [])) (r2 := (.p nilS, [])) rfl rfl
  · rw [if_neg h]
    obtain ⟨zs, e88⟩ := call88n (n := l.length + m.length) (by omega) hl
    refine callA_keep (rs := [R 0 2 (l ++ m).length]) rfl ?_
    rw [hent, hs, e88]
    have e1 : appA 12 96 (.row 0 0 0 0) (L n1 t1 l) [.row 0 12 zs] = some (.row 0 1 0 l.length, [.row 1 12 (l.flatMap enc)]) := by
      simp only [appA, c1, obs, appTo, List.getElem?_cons_zero]
      rw [if_pos (by simp only [room, true_and]; omega)]
      simp
    have e2 : appA 12 96 (.row 0 1 0 l.length) (L n2 t2 m) [.row 1 12 (l.flatMap enc)] = some (.row 0 2 0 (l.length + m.length), [.row 2 12 (l.flatMap enc ++ m.flatMap enc)]) := by
      simp only [appA, c2, obs, appTo, List.getElem?_cons_zero]
      rw [if_pos (by simp only [room, true_and, flen]; omega)]
      rw [List.drop_zero, List.take_of_length_le (by rw [flen]; omega)]
      rfl
    have := app24 (n1 := n1) (t1 := t1) (n2 := n2) (t2 := t2) e1 e2
    show L65_24 _ _ _ = _
    rw [this, List.length_append, List.flatMap_append]

/-! ### SameEvents -/
theorem neq_av (e : E) : bin .neq (.agg 12 [(0, .int), (1, .int), (2, .int), (3, .int), (4, .int), (5, .int), (6, .int), (7, .int), (8, .int), (9, .int), (10, .int), (11, .int)]) (av e) (av e) = some (B false) := by
  simp [bin, leavesEq, leafEq, eqRes, enc_Event]
theorem sameLoop (hl : l.length < 2 ^ 62) : ∀ (c i : Nat), l.length - i = c → i ≤ l.length → L25_10 [L n1 t1 l, L n2 t2 l, I i] [] [] = some ([B true], []) := by
  intro c
  induction c with
  | zero =>
    intro i hc hi
    rw [L25_10_eq]
    simp only [obs, oms, bin_add, bin_sub, bin_lss, bin_leq, bin_gtr, bin_geq, bin_eql, bin_neq, bin_eqlB, bin_neqB, un_not, cond_B, gd_B, gd_undef, gdH_B, gdH_undef, pickA_B, extractA_tup, lenA_sl, lenA_row, fldA_fp, fldA_ptr, fldA_rptr, List.getElem?_cons_zero, List.getElem?_cons_succ, decide_true, decide_false, if_true, if_false, Bool.true_eq_false, Bool.false_eq_true, Bool.not_true, Bool.not_false, leave0_B]
    rw [if_neg (by simp; omega)]
  | succ c ih =>
    intro i hc hi
    have hi' : i < l.length := by omega
    have g : (i : Int) < l.length := by omega
    rw [L25_10_eq]
    simp only [g, obs, oms, bin_add, bin_sub, bin_lss, bin_leq, bin_gtr, bin_geq, bin_eql, bin_neq, bin_eqlB, bin_neqB, un_not, cond_B, gd_B, gd_undef, gdH_B, gdH_undef, pickA_B, extractA_tup, lenA_sl, lenA_row, fldA_fp, fldA_ptr, fldA_rptr, List.getElem?_cons_zero, List.getElem?_cons_succ, decide_true, decide_false, if_true, if_false, Bool.true_eq_false, Bool.false_eq_true, Bool.not_true, Bool.not_false, lix hi', lld hi', neq_av]
    rw [wrap_id (by omega), nxt]
    exact ih (i + 1) (by omega) (by omega)
theorem call25 (hl : l.length < 2 ^ 62) (lo : List Nat) (H : Heap) : callA cfg O 25 [L n1 t1 l, L n2 t2 l] lo H = some (B true, H) := by
  refine callA_pure (xs := [lp n1 t1 l, lp n2 t2 l]) (H' := []) (rs := [B true]) rfl ?_ rfl
  show O.ent 25 [L n1 t1 l, L n2 t2 l] [] [] = _
  rw [f25_eq]
  simp only [obs, oms, bin_add, bin_sub, bin_lss, bin_leq, bin_gtr, bin_geq, bin_eql, bin_neq, bin_eqlB, bin_neqB, un_not, cond_B, gd_B, gd_undef, gdH_B, gdH_undef, pickA_B, extractA_tup, lenA_sl, lenA_row, fldA_fp, fldA_ptr, fldA_rptr, List.getElem?_cons_zero, List.getElem?_cons_succ, decide_true, decide_false, if_true, if_false, Bool.true_eq_false, Bool.false_eq_true, Bool.not_true, Bool.not_false]
  exact sameLoop hl _ 0 rfl (by omega)

theorem call22 (h1 : l.length < 2 ^ 61) (h2 : m.length < 2 ^ 61) (lo : List Nat) (H : Heap) : ∃ n' t' A w, callA cfg O 22 [L n1 t1 l, L n2 t2 m] lo H = some (.tup [L n' t' A, I w], H) ∧
    ((200 < l.length + m.length ∧ A = [] ∧ w = 2) ∨ (l.length + m.length ≤ 200 ∧ ¬ (Sd l ∧ Sd m) ∧ A = [] ∧ w = 3) ∨ (l.length + m.length ≤ 200 ∧ Sd l ∧ Sd m ∧ A = mg l m ∧ w = 0)) := by
  have fin : ∀ n' t' A w, O.ent 22 [L n1 t1 l, L n2 t2 m] [] [] = some ([L n' t' A, I w], []) → callA cfg O 22 [L n1 t1 l, L n2 t2 m] lo H = some (.tup [L n' t' A, I w], H) := fun n' t' A w h => callA_pure (xs := [lp n1 t1 l, lp n2 t2 m]) rfl h rfl
  by_cases h : 200 < l.length + m.length
  · refine ⟨some true, true, [], 2, fin _ _ _ _ ?_, .inl ⟨h, rfl, rfl⟩⟩
    rw [f22_eq]
    have g : (200 : Int) < (l.length : Int) + m.length := by omega
    simp only [obs, oms, bin_add, bin_sub, bin_lss, bin_leq, bin_gtr, bin_geq, bin_eql, bin_neq, bin_eqlB, bin_neqB, un_not, cond_B, gd_B, gd_undef, gdH_B, gdH_undef, pickA_B, extractA_tup, lenA_sl, lenA_row, fldA_fp, fldA_ptr, fldA_rptr, List.getElem?_cons_zero, List.getElem?_cons_succ, decide_true, decide_false, if_true, if_false, Bool.true_eq_false, Bool.false_eq_true, Bool.not_true, Bool.not_false]
    rw [wrap_id (by omega)]
    simp only [g, decide_true, if_true]
    rfl
  · have g : ¬ (200 : Int) < (l.length : Int) + m.length := by omega
    obtain ⟨b1, e1, i1⟩ := call63 (nl := n1) (tg := t1) (l := l) (by omega) [] []
    obtain ⟨b2, e2, i2⟩ := call63 (nl := n2) (tg := t2) (l := m) (by omega) [] []
    have hlit : litA false 1 [L n1 t1 l, L n2 t2 m] [] = some (two2 (lp n1 t1 l) (lp n2 t2 m), []) := rfl
    by_cases hb : b1 = true ∧ b2 = true
    · obtain ⟨hb1, hb2⟩ := hb
      have s1 := i1.mp hb1
      have s2 := i2.mp hb2
      have hsrt : isrt (l ++ m) = mg l m := by rw [isrt_app _ _ _ rfl, isrt_id _ _ rfl s1, isrt_id _ _ rfl s2]
      have e65 := call65 (n1 := n1) (t1 := t1) (n2 := n2) (t2 := t2) (l := l) (m := m) (by omega)
      by_cases h0 : l.length + m.length = 0
      · rw [if_pos h0] at e65
        have q1 : l = [] := List.length_eq_zero_iff.mp (by omega)
        have q2 : m = [] := List.length_eq_zero_iff.mp (by omega)
        have e66 : callA cfg O 66 [.p nilS, cl] [] [] = some (.tup [], []) := by
          refine callA_keep (rs := []) rfl ?_
          have e102 : callA cfg O 102 [.p nilS, I 0, I (0 : Nat), cl] [] [] = some (.tup [], []) := by
            refine callA_keep (rs := []) rfl ?_
            rw [f102_eq]
            simp only [obs, oms, bin_add, bin_sub, bin_lss, bin_leq, bin_gtr, bin_geq, bin_eql, bin_neq, bin_eqlB, bin_neqB, un_not, cond_B, gd_B, gd_undef, gdH_B, gdH_undef, pickA_B, extractA_tup, lenA_sl, lenA_row, fldA_fp, fldA_ptr, fldA_rptr, List.getElem?_cons_zero, List.getElem?_cons_succ, decide_true, decide_false, if_true, if_false, Bool.true_eq_false, Bool.false_eq_true, Bool.not_true, Bool.not_false]
            rw [show IntKind.i64.wrap (0 + 1) = 1 from rfl, L102_4_eq]
            simp only [obs, oms, bin_add, bin_sub, bin_lss, bin_leq, bin_gtr, bin_geq, bin_eql, bin_neq, bin_eqlB, bin_neqB, un_not, cond_B, gd_B, gd_undef, gdH_B, gdH_undef, pickA_B, extractA_tup, lenA_sl, lenA_row, fldA_fp, fldA_ptr, fldA_rptr, List.getElem?_cons_zero, List.getElem?_cons_succ, decide_true, decide_false, if_true, if_false, Bool.true_eq_false, Bool.false_eq_true, Bool.not_true, Bool.not_false]
            rw [if_neg (by simp)]
            rfl
          have e89 : callA cfg O 89 [.p nilS, I (0 : Nat), cl] [] [] = some (.tup [], []) := by
            refine callA_keep (rs := []) rfl ?_
            rw [f89_eq, L89_6_eq]
            simp only [obs, oms, bin_add, bin_sub, bin_lss, bin_leq, bin_gtr, bin_geq, bin_eql, bin_neq, bin_eqlB, bin_neqB, un_not, cond_B, gd_B, gd_undef, gdH_B, gdH_undef, pickA_B, extractA_tup, lenA_sl, lenA_row, fldA_fp, fldA_ptr, fldA_rptr, List.getElem?_cons_zero, List.getElem?_cons_succ, decide_true, decide_false, if_true, if_false, Bool.true_eq_false, Bool.false_eq_true, Bool.not_true, Bool.not_false]
            rw [if_neg (by simp), e102]
            simp only [obs]
            rw [L89_16_eq]
            simp only [obs, oms, bin_add, bin_sub, bin_lss, bin_leq, bin_gtr, bin_geq, bin_eql, bin_neq, bin_eqlB, bin_neqB, un_not, cond_B, gd_B, gd_undef, gdH_B, gdH_undef, pickA_B, extractA_tup, lenA_sl, lenA_row, fldA_fp, fldA_ptr, fldA_rptr, List.getElem?_cons_zero, List.getElem?_cons_succ, decide_true, decide_false, if_true, if_false, Bool.true_eq_false, Bool.false_eq_true, Bool.not_true, Bool.not_false]
            rw [if_neg (by simp)]
            rfl
          rw [f66_eq]
          have : lenA .slice (.p nilS) ([] : Heap) = some (I (0 : Nat)) := rfl
          simp only [this, obs, e89]
          rfl
        refine ⟨some true, true, [], 0, fin _ _ _ _ ?_, .inr (.inr ⟨by omega, s1, s2, by rw [q1, q2, mg_nil_left], rfl⟩)⟩
        rw [f22_eq]
        simp only [obs, oms, bin_add, bin_sub, bin_lss, bin_leq, bin_gtr, bin_geq, bin_eql, bin_neq, bin_eqlB, bin_neqB, un_not, cond_B, gd_B, gd_undef, gdH_B, gdH_undef, pickA_B, extractA_tup, lenA_sl, lenA_row, fldA_fp, fldA_ptr, fldA_rptr, List.getElem?_cons_zero, List.getElem?_cons_succ, decide_true, decide_false, if_true, if_false, Bool.true_eq_false, Bool.false_eq_true, Bool.not_true, Bool.not_false]
        rw [wrap_id (by omega)]
        simp only [g, e1, e2, hb1, hb2, hlit, e65, e66, obs, oms, bin_add, bin_sub, bin_lss, bin_leq, bin_gtr, bin_geq, bin_eql, bin_neq, bin_eqlB, bin_neqB, un_not, cond_B, gd_B, gd_undef, gdH_B, gdH_undef, pickA_B, extractA_tup, lenA_sl, lenA_row, fldA_fp, fldA_ptr, fldA_rptr, List.getElem?_cons_zero, List.getElem?_cons_succ, decide_true, decide_false, if_true, if_false, Bool.true_eq_false, Bool.false_eq_true, Bool.not_true, Bool.not_false]
        rfl
      · rw [if_neg h0] at e65
        have e66 := call66 (G := [.row 2 12 ((l ++ m).flatMap enc)]) (id := 0) (g := 2) (lo := []) (by simp) (S := l ++ m) (N := (l ++ m).length) (by rw [List.length_append]; omega) rfl
        have hp : ∀ es, Hp [.row 2 12 ((l ++ m).flatMap enc)] 0 2 es = [.row 2 12 (es.flatMap enc)] := fun es => rfl
        rw [hp, hp, hsrt] at e66
        have hL : Lst 12 (R 0 2 (l ++ m).length) ([.row 2 12 ((mg l m).flatMap enc)] : Heap) (l ++ m).length ((mg l m).flatMap enc) := Lst.row (by rw [flen, mg_len, List.length_append]) rfl
        obtain ⟨n', t', H', e⟩ := hL.leave2 [] (Ia 0)
        have := leave0_heap e
        subst this
        refine ⟨n', t', mg l m, 0, fin _ _ _ _ ?_, .inr (.inr ⟨by omega, s1, s2, rfl, rfl⟩)⟩
        rw [f22_eq]
        simp only [obs, oms, bin_add, bin_sub, bin_lss, bin_leq, bin_gtr, bin_geq, bin_eql, bin_neq, bin_eqlB, bin_neqB, un_not, cond_B, gd_B, gd_undef, gdH_B, gdH_undef, pickA_B, extractA_tup, lenA_sl, lenA_row, fldA_fp, fldA_ptr, fldA_rptr, List.getElem?_cons_zero, List.getElem?_cons_succ, decide_true, decide_false, if_true, if_false, Bool.true_eq_false, Bool.false_eq_true, Bool.not_true, Bool.not_false]
        rw [wrap_id (by omega)]
        simp only [g, e1, e2, hb1, hb2, hlit, e65, e66, obs, oms, bin_add, bin_sub, bin_lss, bin_leq, bin_gtr, bin_geq, bin_eql, bin_neq, bin_eqlB, bin_neqB, un_not, cond_B, gd_B, gd_undef, gdH_B, gdH_undef, pickA_B, extractA_tup, lenA_sl, lenA_row, fldA_fp, fldA_ptr, fldA_rptr, List.getElem?_cons_zero, List.getElem?_cons_succ, decide_true, decide_false, if_true, if_false, Bool.true_eq_false, Bool.false_eq_true, Bool.not_true, Bool.not_false]
        rw [e]
        have : (l ++ m).length = (mg l m).length := by rw [mg_len, List.length_append]
        rw [this]
    · refine ⟨some true, true, [], 3, fin _ _ _ _ ?_, .inr (.inl ⟨by omega, fun ⟨a, b⟩ => hb ⟨i1.mpr a, i2.mpr b⟩, rfl, rfl⟩)⟩
      rw [f22_eq]
      simp only [obs, oms, bin_add, bin_sub, bin_lss, bin_leq, bin_gtr, bin_geq, bin_eql, bin_neq, bin_eqlB, bin_neqB, un_not, cond_B, gd_B, gd_undef, gdH_B, gdH_undef, pickA_B, extractA_tup, lenA_sl, lenA_row, fldA_fp, fldA_ptr, fldA_rptr, List.getElem?_cons_zero, List.getElem?_cons_succ, decide_true, decide_false, if_true, if_false, Bool.true_eq_false, Bool.false_eq_true, Bool.not_true, Bool.not_false]
      rw [wrap_id (by omega)]
      cases b1 with
      | false =>
        simp only [g, e1, obs, oms, bin_add, bin_sub, bin_lss, bin_leq, bin_gtr, bin_geq, bin_eql, bin_neq, bin_eqlB, bin_neqB, un_not, cond_B, gd_B, gd_undef, gdH_B, gdH_undef, pickA_B, extractA_tup, lenA_sl, lenA_row, fldA_fp, fldA_ptr, fldA_rptr, List.getElem?_cons_zero, List.getElem?_cons_succ, decide_true, decide_false, if_true, if_false, Bool.true_eq_false, Bool.false_eq_true, Bool.not_true, Bool.not_false]
        rfl
      | true =>
        have : b2 = false := by
          cases b2 with
          | false => rfl
          | true => exact (hb ⟨rfl, rfl⟩).elim
        subst this
        simp only [g, e1, e2, obs, oms, bin_add, bin_sub, bin_lss, bin_leq, bin_gtr, bin_geq, bin_eql, bin_neq, bin_eqlB, bin_neqB, un_not, cond_B, gd_B, gd_undef, gdH_B, gdH_undef, pickA_B, extractA_tup, lenA_sl, lenA_row, fldA_fp, fldA_ptr, fldA_rptr, List.getElem?_cons_zero, List.getElem?_cons_succ, decide_true, decide_false, if_true, if_false, Bool.true_eq_false, Bool.false_eq_true, Bool.not_true, Bool.not_false]
        rfl

theorem law (h1 : l.length < 2 ^ 61) (h2 : m.length < 2 ^ 61) : ∃ H', O.ent 4 [L n1 t1 l, L n2 t2 m] [] [] = some ([B true], H') := by
  refine ⟨[], ?_⟩
  have fin : ∀ n' t' n3 t3 (A : List E) (w : Int), A.length < 2 ^ 62 → L4_21 [L n' t' A, I w, I w, L n3 t3 A] [] [] = some ([B true], []) := fun n' t' n3 t3 A w hA => by
    rw [L4_21_eq]
    simp only [call25 hA, obs, oms, bin_add, bin_sub, bin_lss, bin_leq, bin_gtr, bin_geq, bin_eql, bin_neq, bin_eqlB, bin_neqB, un_not, cond_B, gd_B, gd_undef, gdH_B, gdH_undef, pickA_B, extractA_tup, lenA_sl, lenA_row, fldA_fp, fldA_ptr, fldA_rptr, List.getElem?_cons_zero, List.getElem?_cons_succ, decide_true, decide_false, if_true, if_false, Bool.true_eq_false, Bool.false_eq_true, Bool.not_true, Bool.not_false, leave0_B]
  obtain ⟨n', t', A, w, e22, hc⟩ := call22 (n1 := n1) (t1 := t1) (n2 := n2) (t2 := t2) h1 h2 [] []
  obtain ⟨b1, e1, i1⟩ := call23 (nl := n1) (tg := t1) (l := l) (by omega) [] []
  obtain ⟨b2, e2, i2⟩ := call23 (nl := n2) (tg := t2) (l := m) (by omega) [] []
  rw [f4_eq]
  simp only [e22, obs, oms, bin_add, bin_sub, bin_lss, bin_leq, bin_gtr, bin_geq, bin_eql, bin_neq, bin_eqlB, bin_neqB, un_not, cond_B, gd_B, gd_undef, gdH_B, gdH_undef, pickA_B, extractA_tup, lenA_sl, lenA_row, fldA_fp, fldA_ptr, fldA_rptr, List.getElem?_cons_zero, List.getElem?_cons_succ, decide_true, decide_false, if_true, if_false, Bool.true_eq_false, Bool.false_eq_true, Bool.not_true, Bool.not_false]
  rw [wrap_id (by omega)]
  rcases hc with ⟨h, rfl, rfl⟩ | ⟨h, hn, rfl, rfl⟩ | ⟨h, s1, s2, rfl, rfl⟩
  · have g : (200 : Int) < (l.length : Int) + m.length := by omega
    simp only [g, obs, oms, bin_add, bin_sub, bin_lss, bin_leq, bin_gtr, bin_geq, bin_eql, bin_neq, bin_eqlB, bin_neqB, un_not, cond_B, gd_B, gd_undef, gdH_B, gdH_undef, pickA_B, extractA_tup, lenA_sl, lenA_row, fldA_fp, fldA_ptr, fldA_rptr, List.getElem?_cons_zero, List.getElem?_cons_succ, decide_true, decide_false, if_true, if_false, Bool.true_eq_false, Bool.false_eq_true, Bool.not_true, Bool.not_false]
    exact fin _ _ (some true) true [] 2 (by simp)
  · have g : ¬ (200 : Int) < (l.length : Int) + m.length := by omega
    simp only [g, e1, obs, oms, bin_add, bin_sub, bin_lss, bin_leq, bin_gtr, bin_geq, bin_eql, bin_neq, bin_eqlB, bin_neqB, un_not, cond_B, gd_B, gd_undef, gdH_B, gdH_undef, pickA_B, extractA_tup, lenA_sl, lenA_row, fldA_fp, fldA_ptr, fldA_rptr, List.getElem?_cons_zero, List.getElem?_cons_succ, decide_true, decide_false, if_true, if_false, Bool.true_eq_false, Bool.false_eq_true, Bool.not_true, Bool.not_false]
    cases b1 with
    | false =>
      simp only [obs, oms, bin_add, bin_sub, bin_lss, bin_leq, bin_gtr, bin_geq, bin_eql, bin_neq, bin_eqlB, bin_neqB, un_not, cond_B, gd_B, gd_undef, gdH_B, gdH_undef, pickA_B, extractA_tup, lenA_sl, lenA_row, fldA_fp, fldA_ptr, fldA_rptr, List.getElem?_cons_zero, List.getElem?_cons_succ, decide_true, decide_false, if_true, if_false, Bool.true_eq_false, Bool.false_eq_true, Bool.not_true, Bool.not_false]
      exact fin _ _ (some true) true [] 3 (by simp)
    | true =>
      have : b2 = false := by
        cases b2 with
        | false => rfl
        | true => exact (hn ⟨i1.mp rfl, i2.mp rfl⟩).elim
      subst this
      simp only [e2, obs, oms, bin_add, bin_sub, bin_lss, bin_leq, bin_gtr, bin_geq, bin_eql, bin_neq, bin_eqlB, bin_neqB, un_not, cond_B, gd_B, gd_undef, gdH_B, gdH_undef, pickA_B, extractA_tup, lenA_sl, lenA_row, fldA_fp, fldA_ptr, fldA_rptr, List.getElem?_cons_zero, List.getElem?_cons_succ, decide_true, decide_false, if_true, if_false, Bool.true_eq_false, Bool.false_eq_true, Bool.not_true, Bool.not_false]
      exact fin _ _ (some true) true [] 3 (by simp)
  · have g : ¬ (200 : Int) < (l.length : Int) + m.length := by omega
    have q1 := i1.mpr s1
    have q2 := i2.mpr s2
    subst q1 q2
    obtain ⟨n3, t3, e24⟩ := mergeLoop (nl := n1) (tg := t1) (l := l) (m := m) (n2 := n2) (t2 := t2) h _ 0 0 (.p nilS) [] [] rfl (by omega) (by omega) rfl (Lst.nil 12 [])
    simp only [List.drop_zero, List.nil_append] at e24
    have c24 : callA cfg O 24 [L n1 t1 l, L n2 t2 m] [] [] = some (L n3 t3 (mg l m), []) := callA_pure (xs := [lp n1 t1 l, lp n2 t2 m]) (H' := []) (rs := [L n3 t3 (mg l m)]) rfl (by
      show O.ent 24 [L n1 t1 l, L n2 t2 m] [] [] = _
      rw [f24_eq]; exact e24) rfl
    simp only [g, e1, e2, c24, obs, oms, bin_add, bin_sub, bin_lss, bin_leq, bin_gtr, bin_geq, bin_eql, bin_neq, bin_eqlB, bin_neqB, un_not, cond_B, gd_B, gd_undef, gdH_B, gdH_undef, pickA_B, extractA_tup, lenA_sl, lenA_row, fldA_fp, fldA_ptr, fldA_rptr, List.getElem?_cons_zero, List.getElem?_cons_succ, decide_true, decide_false, if_true, if_false, Bool.true_eq_false, Bool.false_eq_true, Bool.not_true, Bool.not_false]
    exact fin _ _ n3 t3 (mg l m) 0 (by rw [mg_len]; omega)
end
end Rm
end Go.Proofs.Ytcgahlekjfemfaa
