import Derived.Test.YtkhbbjfdbbnojaaPaM
set_option linter.unusedVariables false
set_option linter.unusedSimpArgs false
namespace Go.Proofs.Ytkhbbjfdbbnojaa
open Go Go.AM
namespace Pa

section
variable {s : SD}

theorem loop43 {a b : Nat} (ha : a < s.R.length) (hb : b < s.R.length) (la : s.R[a].2.2.length = 16) (lb : s.R[b].2.2.length = 16) :
    ∀ (c k : Nat), 16 - k = c → k ≤ 16 → L43_14 [I b, .ptr 0 0, I (shN s.R[a].2.2 s.R[b].2.2 k), V s.R[a].1 s.R[a].2.1 s.R[a].2.2, I 16, I k] [] [bxS s] = some ([I (shN s.R[a].2.2 s.R[b].2.2 16), I 0], []) := by
  have g0 : ([bxS s] : Heap)[0]? = some (bxS s) := rfl
  intro c
  induction c with
  | zero =>
    intro k hc hk
    have : k = 16 := by omega
    subst this
    have h16 : ¬ (((16 : Nat) : Int) < 16) := by omega
    rw [L43_14_eq]
    simp only [h16, obs, oms, bin_add, bin_sub, bin_lss, bin_leq, bin_gtr, bin_geq, bin_eql, bin_neq, bin_eqlB, bin_neqB, un_not, cond_B, gd_B, gd_undef, gdH_B, gdH_undef, pickA_B, extractA_tup, lenA_sl, lenA_row, fldA_fp, fldA_ptr, fldA_rptr, List.getElem?_cons_zero, List.getElem?_cons_succ, decide_true, decide_false, if_true, if_false, Bool.true_eq_false, Bool.false_eq_true, Bool.not_true, Bool.not_false]
    rfl
  | succ c ih =>
    intro k hc hk'
    have hlt : (k : Int) < 16 := by omega
    have ka : k < s.R[a].2.2.length := by omega
    have kb : k < s.R[b].2.2.length := by omega
    have w : IntKind.i64.wrap ((k : Int) + 1) = ((k + 1 : Nat) : Int) := by rw [wrap_id (by omega), nxt]
    have hle := shN_le s.R[a].2.2 s.R[b].2.2 k
    have w2 : IntKind.i64.wrap (((shN s.R[a].2.2 s.R[b].2.2 k : Nat) : Int) + 1) = ((shN s.R[a].2.2 s.R[b].2.2 k + 1 : Nat) : Int) := by rw [wrap_id (by omega), nxt]
    have fin := ih (k + 1) (by omega) (by omega)
    have da : s.R[a].2.2.getD k (-1) = s.R[a].2.2[k] := by simp [List.getD, ka]
    have db : s.R[b].2.2.getD k (-1) = s.R[b].2.2[k] := by simp [List.getD, kb]
    simp only [shN, da, db] at fin
    rw [L43_14_eq]
    by_cases h1 : 0 ≤ s.R[a].2.2[k]
    · by_cases h2 : s.R[a].2.2[k] = s.R[b].2.2[k]
      · rw [if_pos ⟨h1, h2⟩] at fin
        rw [h2] at h1
        simp only [hlt, fldA_ptr, ldR0 g0, idxW hb, ldW hb, idxV ka, ldV ka, idxV kb, ldV kb, h1, h2, L43_23_eq, w, w2, obs, oms, bin_add, bin_sub, bin_lss, bin_leq, bin_gtr, bin_geq, bin_eql, bin_neq, bin_eqlB, bin_neqB, un_not, cond_B, gd_B, gd_undef, gdH_B, gdH_undef, pickA_B, extractA_tup, lenA_sl, lenA_row, fldA_fp, fldA_ptr, fldA_rptr, List.getElem?_cons_zero, List.getElem?_cons_succ, decide_true, decide_false, if_true, if_false, Bool.true_eq_false, Bool.false_eq_true, Bool.not_true, Bool.not_false]
        exact fin
      · rw [if_neg fun e => h2 e.2, Nat.add_zero] at fin
        simp only [hlt, fldA_ptr, ldR0 g0, idxW hb, ldW hb, idxV ka, ldV ka, idxV kb, ldV kb, h1, h2, L43_23_eq, w, obs, oms, bin_add, bin_sub, bin_lss, bin_leq, bin_gtr, bin_geq, bin_eql, bin_neq, bin_eqlB, bin_neqB, un_not, cond_B, gd_B, gd_undef, gdH_B, gdH_undef, pickA_B, extractA_tup, lenA_sl, lenA_row, fldA_fp, fldA_ptr, fldA_rptr, List.getElem?_cons_zero, List.getElem?_cons_succ, decide_true, decide_false, if_true, if_false, Bool.true_eq_false, Bool.false_eq_true, Bool.not_true, Bool.not_false]
        exact fin
    · rw [if_neg fun e => h1 e.1, Nat.add_zero] at fin
      simp only [hlt, fldA_ptr, ldR0 g0, idxW hb, ldW hb, idxV ka, ldV ka, idxV kb, ldV kb, h1, L43_23_eq, w, obs, oms, bin_add, bin_sub, bin_lss, bin_leq, bin_gtr, bin_geq, bin_eql, bin_neq, bin_eqlB, bin_neqB, un_not, cond_B, gd_B, gd_undef, gdH_B, gdH_undef, pickA_B, extractA_tup, lenA_sl, lenA_row, fldA_fp, fldA_ptr, fldA_rptr, List.getElem?_cons_zero, List.getElem?_cons_succ, decide_true, decide_false, if_true, if_false, Bool.true_eq_false, Bool.false_eq_true, Bool.not_true, Bool.not_false]
      exact fin
end
end Pa
end Go.Proofs.Ytkhbbjfdbbnojaa

set_option linter.unusedVariables false
set_option linter.unusedSimpArgs false
namespace Go.Proofs.Ytkhbbjfdbbnojaa
open Go Go.AM
namespace Pa

section
variable {s : SD}

/-- What pages.Shared answers as its error. -/
noncomputable def ask2 (s : SD) (a b : Int) : Int := if chk s = 0 then thrL s [a, b] else chk s
theorem ent43_no (hl : ∀ d ∈ s.R, d.2.2.length < 2 ^ 63) {a b : Int} (h : ask2 s a b ≠ 0) : O.ent 43 [avS s, I a, I b] [] [] = some ([I 0, I (ask2 s a b)], []) := by
  have b1 : boxO [] (AV.cells (avS s)) [] = some (.ptr 0 0, [bxS s]) := boxS s []
  have g0 : ([bxS s] : Heap)[0]? = some (bxS s) := rfl
  have l1 : litA false 1 [I a, I b] [bxS s] = some (V (some false) true [a, b], [bxS s]) := rfl
  have c : callA cfg O 107 [avS s, V (some false) true [a, b]] [] [bxS s] = some (I (ask2 s a b), [bxS s]) := call107 hl (by simp) [] _
  rw [f43_eq]
  simp only [b1, fldA_ptr, ldS0 g0, l1, c, h, obs, oms, bin_add, bin_sub, bin_lss, bin_leq, bin_gtr, bin_geq, bin_eql, bin_neq, bin_eqlB, bin_neqB, un_not, cond_B, gd_B, gd_undef, gdH_B, gdH_undef, pickA_B, extractA_tup, lenA_sl, lenA_row, fldA_fp, fldA_ptr, fldA_rptr, List.getElem?_cons_zero, List.getElem?_cons_succ, decide_true, decide_false, if_true, if_false, Bool.true_eq_false, Bool.false_eq_true, Bool.not_true, Bool.not_false]
  rfl
theorem ent43_yes (hl : ∀ d ∈ s.R, d.2.2.length < 2 ^ 63) {a b : Nat} (h : ask2 s a b = 0) (ha : a < s.R.length) (hb : b < s.R.length) (la : s.R[a].2.2.length = 16) (lb : s.R[b].2.2.length = 16) :
    O.ent 43 [avS s, I a, I b] [] [] = some ([I (shN s.R[a].2.2 s.R[b].2.2 16), I 0], []) := by
  have b1 : boxO [] (AV.cells (avS s)) [] = some (.ptr 0 0, [bxS s]) := boxS s []
  have g0 : ([bxS s] : Heap)[0]? = some (bxS s) := rfl
  have l1 : litA false 1 [I a, I b] [bxS s] = some (V (some false) true [(a : Int), (b : Int)], [bxS s]) := rfl
  have c : callA cfg O 107 [avS s, V (some false) true [(a : Int), (b : Int)]] [] [bxS s] = some (I (ask2 s a b), [bxS s]) := call107 hl (by simp) [] _
  rw [h] at c
  have la' : (s.R[a].2.2.length : Int) = 16 := by omega
  rw [f43_eq]
  simp only [b1, fldA_ptr, ldS0 g0, l1, c, ldR0 g0, idxW ha, ldW ha, la', obs, oms, bin_add, bin_sub, bin_lss, bin_leq, bin_gtr, bin_geq, bin_eql, bin_neq, bin_eqlB, bin_neqB, un_not, cond_B, gd_B, gd_undef, gdH_B, gdH_undef, pickA_B, extractA_tup, lenA_sl, lenA_row, fldA_fp, fldA_ptr, fldA_rptr, List.getElem?_cons_zero, List.getElem?_cons_succ, decide_true, decide_false, if_true, if_false, Bool.true_eq_false, Bool.false_eq_true, Bool.not_true, Bool.not_false]
  exact loop43 ha hb la lb 16 0 rfl (by omega)
end
end Pa
end Go.Proofs.Ytkhbbjfdbbnojaa

set_option linter.unusedVariables false
set_option linter.unusedSimpArgs false
namespace Go.Proofs.Ytkhbbjfdbbnojaa
open Go Go.AM
namespace Pa

/-- slices.Index: the first place that holds it. -/
theorem call120 {o : AV} {zs : List Int} {H : Heap} (h : Lst 1 o H zs.length (zs.map Ia)) (hl : zs.length < 2 ^ 40) (x : Int) (lo : List Nat) :
    ∃ r : Int, callA cfg O 120 [o, I x] lo H = some (I r, H) ∧ ((r < 0 ∧ x ∉ zs) ∨ ∃ i : Nat, r = i ∧ ∃ hi : i < zs.length, zs[i] = x ∧ x ∉ zs.take i) := by
  obtain ⟨nl, tg, q, ep⟩ := pureLst h
  have go : ∀ (c i : Nat), zs.length - i = c → i ≤ zs.length → x ∉ zs.take i → ∃ r : Int, L120_6 [V nl tg zs, I x, I zs.length, I i] [] [] = some ([I r], []) ∧ ((r < 0 ∧ x ∉ zs) ∨ ∃ i : Nat, r = i ∧ ∃ hi : i < zs.length, zs[i] = x ∧ x ∉ zs.take i) := by
    intro c
    induction c with
    | zero =>
      intro i hc hi hx
      have : i = zs.length := by omega
      subst this
      rw [List.take_length] at hx
      refine ⟨-1, ?_, .inl ⟨by omega, hx⟩⟩
      rw [L120_6_eq]
      simp only [Int.lt_irrefl, obs, oms, bin_add, bin_sub, bin_lss, bin_leq, bin_gtr, bin_geq, bin_eql, bin_neq, bin_eqlB, bin_neqB, un_not, cond_B, gd_B, gd_undef, gdH_B, gdH_undef, pickA_B, extractA_tup, lenA_sl, lenA_row, fldA_fp, fldA_ptr, fldA_rptr, List.getElem?_cons_zero, List.getElem?_cons_succ, decide_true, decide_false, if_true, if_false, Bool.true_eq_false, Bool.false_eq_true, Bool.not_true, Bool.not_false]
      rfl
    | succ c ih =>
      intro i hc hi hx
      have hi' : i < zs.length := by omega
      have hlt : (i : Int) < zs.length := by omega
      have w : IntKind.i64.wrap ((i : Int) + 1) = ((i + 1 : Nat) : Int) := by rw [wrap_id (by omega), nxt]
      by_cases he : x = zs[i]
      · refine ⟨i, ?_, .inr ⟨i, rfl, hi', he.symm, hx⟩⟩
        rw [L120_6_eq]
        simp only [hlt, idxV hi', ldV hi', he, obs, oms, bin_add, bin_sub, bin_lss, bin_leq, bin_gtr, bin_geq, bin_eql, bin_neq, bin_eqlB, bin_neqB, un_not, cond_B, gd_B, gd_undef, gdH_B, gdH_undef, pickA_B, extractA_tup, lenA_sl, lenA_row, fldA_fp, fldA_ptr, fldA_rptr, List.getElem?_cons_zero, List.getElem?_cons_succ, decide_true, decide_false, if_true, if_false, Bool.true_eq_false, Bool.false_eq_true, Bool.not_true, Bool.not_false]
        rfl
      · obtain ⟨r, e, hr⟩ := ih (i + 1) (by omega) (by omega) (by
          rw [List.take_add_one, List.getElem?_eq_getElem hi']
          simp only [Option.toList_some, List.mem_append, List.mem_singleton, not_or]
          exact ⟨hx, he⟩)
        refine ⟨r, ?_, hr⟩
        rw [L120_6_eq]
        simp only [hlt, idxV hi', ldV hi', he, w, obs, oms, bin_add, bin_sub, bin_lss, bin_leq, bin_gtr, bin_geq, bin_eql, bin_neq, bin_eqlB, bin_neqB, un_not, cond_B, gd_B, gd_undef, gdH_B, gdH_undef, pickA_B, extractA_tup, lenA_sl, lenA_row, fldA_fp, fldA_ptr, fldA_rptr, List.getElem?_cons_zero, List.getElem?_cons_succ, decide_true, decide_false, if_true, if_false, Bool.true_eq_false, Bool.false_eq_true, Bool.not_true, Bool.not_false]
        exact e
  obtain ⟨r, e, hr⟩ := go zs.length 0 rfl (by omega) (by simp)
  refine ⟨r, ?_, hr⟩
  refine callA_rows (H' := []) (rs := [I r]) (ys := [V nl tg zs, I x]) (b := q || (false || false)) rfl ?_ ?_ rfl rfl
  · have px : pureArg H (I x) = some (I x, false) := rfl
    simp only [pureArgs, ep, px, obs, oms]
  · rw [f120_eq]
    simp only [lenA_sl, obs]
    exact e
theorem ent145 {nl : Option Bool} {tg : Bool} (l : List Int) : O.ent 145 [V nl tg l] [] [] = some ([B (decide ((l.length : Int) = 0))], []) := by
  rw [f145_eq]
  simp only [obs, oms, bin_add, bin_sub, bin_lss, bin_leq, bin_gtr, bin_geq, bin_eql, bin_neq, bin_eqlB, bin_neqB, un_not, cond_B, gd_B, gd_undef, gdH_B, gdH_undef, pickA_B, extractA_tup, lenA_sl, lenA_row, fldA_fp, fldA_ptr, fldA_rptr, List.getElem?_cons_zero, List.getElem?_cons_succ, decide_true, decide_false, if_true, if_false, Bool.true_eq_false, Bool.false_eq_true, Bool.not_true, Bool.not_false]
  rfl
end Pa
end Go.Proofs.Ytkhbbjfdbbnojaa

set_option linter.unusedVariables false
set_option linter.unusedSimpArgs false
namespace Go.Proofs.Ytkhbbjfdbbnojaa
open Go Go.AM
namespace Pa

theorem callV145 {nl : Option Bool} {tg : Bool} (l : List Int) (lo : List Nat) (H : Heap) : callV cfg O (.fn 145 [] []) [V nl tg l] lo H = some (B (decide ((l.length : Int) = 0)), H) :=
  (show callV cfg O (.fn 145 [] []) [V nl tg l] lo H = callA cfg O 145 [V nl tg l] lo H from rfl).trans (callA_pure (cfg := cfg) (xs := [.sl nl tg l.length (l.map Ia)]) (rs := [B (decide ((l.length : Int) = 0))]) rfl (ent145 l) rfl)

/-- slices.IndexFunc of the empty rows: the first. -/
theorem ent144 {R : List Dd} {nl : Option Bool} {tg : Bool} (hl : R.length < 2 ^ 40) :
    ∃ r : Int, O.ent 144 [W nl tg R, .fn 145 [] []] [] [] = some ([I r], []) ∧ ((r < 0 ∧ ∀ l ∈ ints R, l.length ≠ 0) ∨ ∃ i : Nat, r = i ∧ ∃ hi : i < R.length, R[i].2.2.length = 0 ∧ ∀ l ∈ (ints R).take i, l.length ≠ 0) := by
  have hil : (ints R).length = R.length := by simp [ints]
  have go : ∀ (c i : Nat), R.length - i = c → i ≤ R.length → (∀ l ∈ (ints R).take i, l.length ≠ 0) → ∃ r : Int, L144_6 [W nl tg R, .fn 145 [] [], I R.length, I i] [] [] = some ([I r], []) ∧ ((r < 0 ∧ ∀ l ∈ ints R, l.length ≠ 0) ∨ ∃ i : Nat, r = i ∧ ∃ hi : i < R.length, R[i].2.2.length = 0 ∧ ∀ l ∈ (ints R).take i, l.length ≠ 0) := by
    intro c
    induction c with
    | zero =>
      intro i hc hi hx
      have : i = R.length := by omega
      subst this
      rw [List.take_of_length_le (by omega)] at hx
      refine ⟨-1, ?_, .inl ⟨by omega, hx⟩⟩
      rw [L144_6_eq]
      simp only [Int.lt_irrefl, obs, oms, bin_add, bin_sub, bin_lss, bin_leq, bin_gtr, bin_geq, bin_eql, bin_neq, bin_eqlB, bin_neqB, un_not, cond_B, gd_B, gd_undef, gdH_B, gdH_undef, pickA_B, extractA_tup, lenA_sl, lenA_row, fldA_fp, fldA_ptr, fldA_rptr, List.getElem?_cons_zero, List.getElem?_cons_succ, decide_true, decide_false, if_true, if_false, Bool.true_eq_false, Bool.false_eq_true, Bool.not_true, Bool.not_false]
      rfl
    | succ c ih =>
      intro i hc hi hx
      have hi' : i < R.length := by omega
      have hlt : (i : Int) < R.length := by omega
      have hat : (ints R)[i]'(by omega) = R[i].2.2 := by simp [ints]
      have w : IntKind.i64.wrap ((i : Int) + 1) = ((i + 1 : Nat) : Int) := by rw [wrap_id (by omega), nxt]
      have cv := callV145 (nl := R[i].1) (tg := R[i].2.1) R[i].2.2 [] []
      by_cases he : (R[i].2.2.length : Int) = 0
      · rw [decide_eq_true he] at cv
        refine ⟨i, ?_, .inr ⟨i, rfl, hi', by omega, hx⟩⟩
        rw [L144_6_eq]
        simp only [hlt, idxW hi', ldW hi', cv, obs, oms, bin_add, bin_sub, bin_lss, bin_leq, bin_gtr, bin_geq, bin_eql, bin_neq, bin_eqlB, bin_neqB, un_not, cond_B, gd_B, gd_undef, gdH_B, gdH_undef, pickA_B, extractA_tup, lenA_sl, lenA_row, fldA_fp, fldA_ptr, fldA_rptr, List.getElem?_cons_zero, List.getElem?_cons_succ, decide_true, decide_false, if_true, if_false, Bool.true_eq_false, Bool.false_eq_true, Bool.not_true, Bool.not_false]
        rfl
      · rw [decide_eq_false he] at cv
        obtain ⟨r, e, hr⟩ := ih (i + 1) (by omega) (by omega) (by
          rw [List.take_add_one, List.getElem?_eq_getElem (by omega : i < (ints R).length), hat]
          intro l hl'
          rcases List.mem_append.mp hl' with h | h
          · exact hx l h
          · simp at h
            subst h
            omega)
        refine ⟨r, ?_, hr⟩
        rw [L144_6_eq]
        simp only [hlt, idxW hi', ldW hi', cv, w, obs, oms, bin_add, bin_sub, bin_lss, bin_leq, bin_gtr, bin_geq, bin_eql, bin_neq, bin_eqlB, bin_neqB, un_not, cond_B, gd_B, gd_undef, gdH_B, gdH_undef, pickA_B, extractA_tup, lenA_sl, lenA_row, fldA_fp, fldA_ptr, fldA_rptr, List.getElem?_cons_zero, List.getElem?_cons_succ, decide_true, decide_false, if_true, if_false, Bool.true_eq_false, Bool.false_eq_true, Bool.not_true, Bool.not_false]
        exact e
  obtain ⟨r, e, hr⟩ := go R.length 0 rfl (by omega) (by simp)
  refine ⟨r, ?_, hr⟩
  rw [f144_eq]
  simp only [obs, oms, bin_add, bin_sub, bin_lss, bin_leq, bin_gtr, bin_geq, bin_eql, bin_neq, bin_eqlB, bin_neqB, un_not, cond_B, gd_B, gd_undef, gdH_B, gdH_undef, pickA_B, extractA_tup, lenA_sl, lenA_row, fldA_fp, fldA_ptr, fldA_rptr, List.getElem?_cons_zero, List.getElem?_cons_succ, decide_true, decide_false, if_true, if_false, Bool.true_eq_false, Bool.false_eq_true, Bool.not_true, Bool.not_false]
  exact e
end Pa
end Go.Proofs.Ytkhbbjfdbbnojaa

set_option linter.unusedVariables false
set_option linter.unusedSimpArgs false
namespace Go.Proofs.Ytkhbbjfdbbnojaa
open Go Go.AM
namespace Pa

/-! ### Heaps with no place kept -/
def NH (H : Heap) : Prop := ∀ o ∈ H, isHole o = false
theorem NH.nil : NH [] := fun _ h => by cases h
theorem NH.cons {o : AObj} {H : Heap} (ho : isHole o = false) (h : NH H) : NH (o :: H) := by
  intro x hx
  rcases List.mem_cons.mp hx with e | e
  · subst e; exact ho
  · exact h x e
theorem NH.push {H os : Heap} (h : NH H) (h2 : NH os) : NH (H ++ os) := by
  intro x hx
  rcases List.mem_append.mp hx with e | e
  · exact h x e
  · exact h2 x e
theorem NH.set {H : Heap} {id : Nat} {o : AObj} (h : NH H) (ho : isHole o = false) : NH (H.set id o) := by
  intro x hx
  rcases List.mem_or_eq_of_mem_set hx with e | e
  · exact h x e
  · subst e; exact ho
theorem NH.toPV {H H' : Heap} {y : AV} {r : PV} (h : NH H) (e : AM.toPV H y = some (r, H')) : NH H' := by
  unfold AM.toPV at e
  split at e
  · cases e; exact h
  · split at e
    · split at e
      · cases e; exact h.set rfl
      · cases e
    · cases e
  · cases e
theorem NH.toPVs : ∀ {ys : List AV} {H H' : Heap} {r : List PV}, NH H → AM.toPVs H ys = some (r, H') → NH H'
  | [], H, H', r, h, e => by cases e; exact h
  | y :: ys, H, H', r, h, e => by
    simp only [AM.toPVs, Option.bind_eq_some_iff, Option.map_eq_some_iff] at e
    obtain ⟨⟨q, H1⟩, e1, ⟨⟨q2, H2⟩, e2, e3⟩⟩ := e
    cases e3
    exact NH.toPVs (h.toPV e1) e2
theorem NH.lit {sz : Nat} {parts : List AV} {H H' : Heap} {r : AV} (h : NH H) (e : litA false sz parts H = some (r, H')) : NH H' := by
  unfold litA at e
  split at e
  · simp only [Option.bind_eq_some_iff] at e
    obtain ⟨⟨q, H1⟩, e1, e2⟩ := e
    cases e2
    exact h.toPVs e1
  · cases e
theorem NH.app {sz bytes : Nat} {x y : AV} {H H' : Heap} {r : AV} (h : NH H) (e : appA sz bytes x y H = some (r, H')) : NH H' := by
  simp only [appA, Option.bind_eq_some_iff] at e
  obtain ⟨⟨k, new⟩, e1, e2⟩ := e
  simp only at e2
  have one : ∀ o, isHole o = false → NH (H ++ [o]) := fun o ho => h.push (NH.nil.cons ho)
  unfold appTo at e2
  split at e2
  · split at e2
    · cases e2; exact h
    · split at e2
      · cases e2; exact one _ rfl
      · cases e2
  · split at e2
    · cases e2; exact h
    · split at e2
      · cases e2; exact one _ rfl
      · cases e2
  · split at e2
    · split at e2
      · cases e2; exact h.set rfl
      · cases e2
    · cases e2
  · cases e2
theorem findHole : ∀ {A C : Heap}, NH A → (A ++ .hole :: C).findIdx isHole = A.length
  | [], C, _ => by simp [List.findIdx_cons, isHole]
  | a :: A, C, h => by
    have ha := h a (by simp)
    have := findHole (A := A) (C := C) fun o ho => h o (List.mem_cons_of_mem _ ho)
    simp [List.findIdx_cons, ha, this]

/-! ### A list copied -/
structure Cl (g : FuncId) (args : List AV) (sz m : Nat) (cs : List PV) (k : Nat) (c : AV) (os : Heap) : Prop where
  ent : ∀ lo H, H.length = k → O.ent g args lo H = some ([c], H ++ os)
  shape : (os = [] ∧ c = .p nilS ∧ m = 0 ∧ cs = []) ∨ (os = [.row 0 sz cs] ∧ c = .row k 0 0 m ∧ cs.length = m * sz)

section
variable {g : FuncId} {args : List AV} {sz m k : Nat} {cs : List PV} {c : AV} {os : Heap}
theorem Cl.nh (h : Cl g args sz m cs k c os) : NH os := by
  rcases h.shape with ⟨e, _⟩ | ⟨e, _⟩
  · subst e; exact NH.nil
  · subst e; exact NH.nil.cons rfl
theorem Cl.leaf (h : Cl g args sz m cs k c os) : c.cells = [c] ∧ c.leaf = true := by
  rcases h.shape with ⟨_, e, _⟩ | ⟨_, e, _⟩ <;> subst e <;> exact ⟨rfl, rfl⟩
theorem Cl.cx (h : Cl g args sz m cs k c os) {H : Heap} {fx : List (Nat × AObj)} {ls : List Ll} (hk : H.length = k) (hc : Cx H fx ls) : Cx (H ++ os) fx ((c, sz, m, cs) :: ls) := by
  rcases h.shape with ⟨e1, e2, e3, e4⟩ | ⟨e1, e2, e3⟩
  · subst e1 e2 e3 e4; rw [List.append_nil]; exact hc.newNil sz
  · subst e1 e2 hk; exact hc.newRow e3
theorem Cl.rows (h : Cl g args sz m cs k c os) (H : Heap) : H.length ≤ (H ++ os).length ∧ ∀ (id : Nat) zs, H[id]? = some (.box zs) ↔ (H ++ os)[id]? = some (.box zs) := by
  refine ⟨by simp, fun id zs => ?_⟩
  by_cases hi : id < H.length
  · rw [List.getElem?_append_left hi]
  · rw [List.getElem?_eq_none (by omega), List.getElem?_append_right (by omega)]
    rcases h.shape with ⟨e, _⟩ | ⟨e, _⟩
    · subst e; simp
    · subst e
      by_cases h0 : id - H.length = 0
      · rw [h0]; simp
      · rw [List.getElem?_eq_none (by simp; omega)]
theorem Cl.callN (h : Cl g args sz m cs k c os) (hm : cfg.mode g = 9) {H : Heap} (hk : H.length = k) (hn : NH H) (lo : List Nat) : callA cfg O g args lo H = some (c, H ++ os) := by
  have e : callA cfg O g args lo H = (O.ent g args lo H).bind fun r => (rowsH H (ret r.1) r.2).bind fun _ => holeH O g args lo H (cfg.holeZ g) r.1 r.2 := by
    unfold callA; rw [hm]; rfl
  rw [e, h.ent lo H hk]
  have hno : H[H.findIdx isHole]? ≠ some .hole := by
    intro e
    have := hn _ (List.mem_of_getElem? e)
    cases this
  simp only [obs, rowsH]
  rw [if_pos (h.rows H)]
  simp only [obs, holeH]
  rw [if_neg hno, if_pos ⟨hn, hn.push h.nh⟩]
  rfl
theorem Cl.callH (h : Cl g args sz m cs k c os) (hm : cfg.mode g = 9) {A C : Heap} (hk : (A ++ AObj.hole :: C).length = k) (hA : NH A) (hC : NH C) (lo : List Nat) : callA cfg O g args lo (A ++ .hole :: C) = some (c, A ++ .hole :: C ++ os) := by
  have e : callA cfg O g args lo (A ++ .hole :: C) = (O.ent g args lo (A ++ .hole :: C)).bind fun r => (rowsH (A ++ .hole :: C) (ret r.1) r.2).bind fun _ => holeH O g args lo (A ++ .hole :: C) (cfg.holeZ g) r.1 r.2 := by
    unfold callA; rw [hm]; rfl
  have e9 : A ++ AObj.hole :: C ++ os = A ++ AObj.hole :: (C ++ os) := by simp
  rw [e, h.ent lo _ hk]
  simp only [obs, rowsH]
  rw [if_pos (h.rows _)]
  have hs : ∀ (C : Heap) o, (A ++ AObj.hole :: C).set A.length o = A ++ o :: C := by
    intro C o
    rw [List.set_append_right _ _ (Nat.le_refl _)]
    simp
  have e2 := h.ent lo (A ++ .box ((cfg.holeZ g).map .p) :: C) (by rw [← hk]; simp)
  have e8 : A ++ AObj.box ((cfg.holeZ g).map .p) :: C ++ os = A ++ AObj.box ((cfg.holeZ g).map .p) :: (C ++ os) := by simp
  have hg : ∀ C : Heap, (A ++ AObj.hole :: C)[A.length]? = some .hole := fun C => by
    rw [List.getElem?_append_right (Nat.le_refl _)]; simp
  have f1 : (A ++ AObj.hole :: C).findIdx isHole = A.length := findHole hA
  have f2 : (A ++ AObj.hole :: (C ++ os)).findIdx isHole = A.length := findHole hA
  have s1 : ∀ (C' : Heap) o, (A ++ AObj.hole :: C').set ((A ++ AObj.hole :: C).findIdx isHole) o = A ++ o :: C' := fun C' o => by rw [f1]; exact hs C' o
  rw [e9]
  simp only [obs, holeH]
  rw [if_pos (by rw [f1]; exact hg C), s1, e2, e8]
  simp only [obs]
  rw [if_pos]
  · rfl
  · refine ⟨by rw [s1], by rw [f1, f2], by rw [f1]; exact hg _, ?_, ?_⟩
    · exact hA.push (hC.cons rfl)
    · rw [s1]; exact hA.push ((hC.push h.nh).cons rfl)
end

theorem cloneApp {sz bytes k : Nat} {y : AV} {new : List PV} {H : Heap} (hy : cellsA sz y H = some (k, new)) (hb : k * bytes ≤ room) : appA sz bytes (.p (.sl (some false) true 0 [])) y H = some (.row H.length 0 0 k, H ++ [.row 0 sz new]) := by
  have e : appTo sz bytes (.p (.sl (some false) true 0 [])) k new H = if k = 0 ∧ 0 < 0 then some (.p (.sl (some false) true 0 []), H) else if ([] : List PV).length = 0 * sz ∧ (0 = 0 ∨ 0 < k) ∧ (0 + k) * bytes ≤ room then some (.row H.length 0 0 (0 + k), H ++ [.row 0 sz ([] ++ new)]) else none := rfl
  simp only [appA, hy, obs, e]
  rw [if_neg (by omega), if_pos ⟨by simp, .inl trivial, by rw [Nat.zero_add]; exact hb⟩]
  simp
theorem cellsP {sz m : Nat} {nl : Option Bool} {tg : Bool} {cs : List PV} (h : cs.length = m * sz) (H : Heap) : cellsA sz (.p (.sl nl tg m cs)) H = some (m, cs) := by
  simp only [cellsA]; rw [if_pos h]

theorem clone93 {nl : Option Bool} {tg : Bool} {l : List Int} (hk : Kn (nl, l)) (hl : l.length < 2 ^ 40) (k : Nat) : ∃ c os, Cl 93 [V nl tg l] 1 l.length (l.map Ia) k c os := by
  rcases hk with h | ⟨h, h2⟩
  · simp only at h
    subst h
    refine ⟨.row k 0 0 l.length, [.row 0 1 (l.map Ia)], ⟨fun lo H e => ?_, .inr ⟨rfl, rfl, by simp⟩⟩⟩
    subst e
    have e1 : bin .eql .slice (V (some false) tg l) (.p nilS) = some (B false) := rfl
    have e2 : litA false 1 [] H = some (.p (.sl (some false) true 0 []), H) := rfl
    have e3 := cloneApp (sz := 1) (bytes := 8) (cellsP (sz := 1) (m := l.length) (nl := some false) (tg := tg) (cs := l.map Ia) (by simp) H) (by simp only [room]; omega)
    rw [f93_eq]
    simp only [e1, e2, e3, obs, oms, bin_add, bin_sub, bin_lss, bin_leq, bin_gtr, bin_geq, bin_eql, bin_neq, bin_eqlB, bin_neqB, un_not, cond_B, gd_B, gd_undef, gdH_B, gdH_undef, pickA_B, extractA_tup, lenA_sl, lenA_row, fldA_fp, fldA_ptr, fldA_rptr, List.getElem?_cons_zero, List.getElem?_cons_succ, decide_true, decide_false, if_true, if_false, Bool.true_eq_false, Bool.false_eq_true, Bool.not_true, Bool.not_false]
    rfl
  · simp only at h h2
    subst h h2
    refine ⟨.p nilS, [], ⟨fun lo H e => ?_, .inl ⟨rfl, rfl, rfl, rfl⟩⟩⟩
    have e1 : bin .eql .slice (V (some true) tg []) (.p nilS) = some (B true) := rfl
    rw [f93_eq]
    simp only [e1, List.append_nil, obs, oms, bin_add, bin_sub, bin_lss, bin_leq, bin_gtr, bin_geq, bin_eql, bin_neq, bin_eqlB, bin_neqB, un_not, cond_B, gd_B, gd_undef, gdH_B, gdH_undef, pickA_B, extractA_tup, lenA_sl, lenA_row, fldA_fp, fldA_ptr, fldA_rptr, List.getElem?_cons_zero, List.getElem?_cons_succ, decide_true, decide_false, if_true, if_false, Bool.true_eq_false, Bool.false_eq_true, Bool.not_true, Bool.not_false]
    rfl
theorem pg_len (l : List Pg) : (l.flatMap encG).length = l.length * 4 := rows_length (k := 4) len4 l
theorem clone143 {nl : Option Bool} {tg : Bool} {l : List Pg} (hk : Kn (nl, l)) (hl : l.length < 2 ^ 40) (k : Nat) : ∃ c os, Cl 143 [.p (.sl nl tg l.length (l.flatMap encG))] 4 l.length (l.flatMap encG) k c os := by
  rcases hk with h | ⟨h, h2⟩
  · simp only at h
    subst h
    refine ⟨.row k 0 0 l.length, [.row 0 4 (l.flatMap encG)], ⟨fun lo H e => ?_, .inr ⟨rfl, rfl, pg_len l⟩⟩⟩
    subst e
    have e1 : bin .eql .slice (.p (.sl (some false) tg l.length (l.flatMap encG))) (.p nilS) = some (B false) := rfl
    have e2 : litA false 4 [] H = some (.p (.sl (some false) true 0 []), H) := rfl
    have e3 := cloneApp (sz := 4) (bytes := 32) (cellsP (sz := 4) (m := l.length) (nl := some false) (tg := tg) (cs := l.flatMap encG) (pg_len l) H) (by simp only [room]; omega)
    rw [f143_eq]
    simp only [e1, e2, e3, obs, oms, bin_add, bin_sub, bin_lss, bin_leq, bin_gtr, bin_geq, bin_eql, bin_neq, bin_eqlB, bin_neqB, un_not, cond_B, gd_B, gd_undef, gdH_B, gdH_undef, pickA_B, extractA_tup, lenA_sl, lenA_row, fldA_fp, fldA_ptr, fldA_rptr, List.getElem?_cons_zero, List.getElem?_cons_succ, decide_true, decide_false, if_true, if_false, Bool.true_eq_false, Bool.false_eq_true, Bool.not_true, Bool.not_false]
    rfl
  · simp only at h h2
    subst h h2
    refine ⟨.p nilS, [], ⟨fun lo H e => ?_, .inl ⟨rfl, rfl, rfl, rfl⟩⟩⟩
    have e1 : bin .eql .slice (.p (.sl (some true) tg ([] : List Pg).length (([] : List Pg).flatMap encG))) (.p nilS) = some (B true) := rfl
    rw [f143_eq]
    simp only [e1, List.append_nil, obs, oms, bin_add, bin_sub, bin_lss, bin_leq, bin_gtr, bin_geq, bin_eql, bin_neq, bin_eqlB, bin_neqB, un_not, cond_B, gd_B, gd_undef, gdH_B, gdH_undef, pickA_B, extractA_tup, lenA_sl, lenA_row, fldA_fp, fldA_ptr, fldA_rptr, List.getElem?_cons_zero, List.getElem?_cons_succ, decide_true, decide_false, if_true, if_false, Bool.true_eq_false, Bool.false_eq_true, Bool.not_true, Bool.not_false]
    rfl
end Pa
end Go.Proofs.Ytkhbbjfdbbnojaa

set_option linter.unusedVariables false
set_option linter.unusedSimpArgs false
namespace Go.Proofs.Ytkhbbjfdbbnojaa
open Go Go.AM
namespace Pa

/-! ### pages.own -/
theorem okL0 (id : Nat) (ys : List AV) : okLevels [] id ys = true := rfl
theorem stBox3 {H : Heap} {id : Nat} {a b c x y z : AV} (h : H[id]? = some (.box [a, b, c])) (hl : [x, y, z].all AV.leaf = true) : stA 3 (.ptr id 0) (.agg [x, y, z]) [] H = some (H.set id (.box [x, y, z])) := by
  rw [stA_box (y := .agg [x, y, z]) (n := 3) (off := 0) h rfl (by simp) hl (okL0 _ _)]
  rfl
theorem ldBox3 {H : Heap} {id : Nat} {a b c : AV} (h : H[id]? = some (.box [a, b, c])) : ld true 3 (.ptr id 0) H = some (.agg [a, b, c]) := by
  rw [ldAgg_box h (by simp)]
  rfl
theorem ldBoxJ {H : Heap} {id j : Nat} {a b c : AV} (h : H[id]? = some (.box [a, b, c])) : ld false 1 (.ptr id (0 + j)) H = [a, b, c][j]? := by
  rw [ld_box h, Nat.zero_add]
theorem leaf3 {H : Heap} {a b c : AV} {s1 s2 s3 m1 m2 m3 : Nat} {c1 c2 c3 : List PV} (h1 : Lst s1 a H m1 c1) (h2 : Lst s2 b H m2 c2) (h3 : Lst s3 c H m3 c3) : [a, b, c].all AV.leaf = true := by
  simp [(lst_leaf h1).2, (lst_leaf h2).2, (lst_leaf h3).2]

/-- A row, or no list at all. -/
def RN (o : AV) (m : Nat) : Prop := (o = .p nilS ∧ m = 0) ∨ ∃ id g, o = .row id g 0 m
theorem Cl.rn {g : FuncId} {args : List AV} {sz m k : Nat} {cs : List PV} {c : AV} {os : Heap} (h : Cl g args sz m cs k c os) : RN c m := by
  rcases h.shape with ⟨_, e, e2, _⟩ | ⟨_, e, _⟩
  · exact .inl ⟨e, e2⟩
  · exact .inr ⟨_, _, e⟩
theorem RN.row {o : AV} {m : Nat} (h : RN o m) (hm : 0 < m) : ∃ id g, o = .row id g 0 m := by
  rcases h with ⟨_, e⟩ | h
  · omega
  · exact h

section
variable {s : SD}
abbrev lP (o : AV) (P : List Pg) : Ll := (o, 4, P.length, P.flatMap encG)
abbrev lI (o : AV) (U : List Int) : Ll := (o, 1, U.length, U.map Ia)
abbrev lR (o : AV) (R : List Dd) : Ll := (o, 1, R.length, R.map us)

theorem loop104 (hk : ∀ d ∈ s.R, Kn (d.1, d.2.2)) (hl : ∀ d ∈ s.R, d.2.2.length < 2 ^ 40) (hr : s.R.length < 2 ^ 40) {oP oU : AV} {P : List Pg} {U : List Int} {fx : List (Nat × AObj)} (hfx : ∀ q ∈ fx, q.1 < 3) :
    ∀ (c i : Nat) (H : Heap) (oR x y z : AV) (R' : List Dd), s.R.length - i = c → i ≤ s.R.length → NH H → Cx H ((4, .box [oP, oU, oR]) :: (3, .box [x, y, z]) :: fx) [lR oR R', lP oP P, lI oU U] → RN oR R'.length → ints R' = (ints s.R).take i →
      ∃ oR' R'' H', L104_8 [.ptr 3 0, .ptr 4 0, W s.nr s.tr s.R, I s.R.length, I i] [] H = some ([.agg [oP, oU, oR']], H') ∧ NH H' ∧ Cx H' fx [lR oR' R'', lP oP P, lI oU U] ∧ RN oR' R''.length ∧ ints R'' = ints s.R := by
  have hil : (ints s.R).length = s.R.length := by simp [ints]
  intro c
  induction c with
  | zero =>
    intro i H oR x y z R' hc hi hn hx hrn hR
    have : i = s.R.length := by omega
    subst this
    rw [List.take_of_length_le (by omega)] at hR
    have b4 := hx.box (4, [oP, oU, oR]) (by simp)
    have b3 := hx.box (3, [x, y, z]) (by simp)
    have hleaf : [oP, oU, oR].all AV.leaf = true := leaf3 (hx.lst (lP oP P) (by simp)) (hx.lst (lI oU U) (by simp)) (hx.lst (lR oR R') (by simp))
    have e1 := ldBox3 b4
    have e2 := stBox3 b3 hleaf
    have h2 : Cx (H.set 3 (.box [oP, oU, oR])) ((3, .box [oP, oU, oR]) :: fx) [lR oR R', lP oP P, lI oU U] :=
      Cx.setBox (hx.bt) (fun q hq => by have := hfx q hq; omega) _
    have e3 := ldBox3 (h2.box (3, [oP, oU, oR]) (by simp))
    refine ⟨oR, R', H.set 3 (.box [oP, oU, oR]), ?_, hn.set rfl, h2.bt, hrn, hR⟩
    rw [L104_8_eq]
    simp only [Int.lt_irrefl, e1, e2, e3, obs, oms, bin_add, bin_sub, bin_lss, bin_leq, bin_gtr, bin_geq, bin_eql, bin_neq, bin_eqlB, bin_neqB, un_not, cond_B, gd_B, gd_undef, gdH_B, gdH_undef, pickA_B, extractA_tup, lenA_sl, lenA_row, fldA_fp, fldA_ptr, fldA_rptr, List.getElem?_cons_zero, List.getElem?_cons_succ, decide_true, decide_false, if_true, if_false, Bool.true_eq_false, Bool.false_eq_true, Bool.not_true, Bool.not_false]
    rfl
  | succ c ih =>
    intro i H oR x y z R' hc hi hn hx hrn hR
    have hi' : i < s.R.length := by omega
    have hlt : (i : Int) < s.R.length := by omega
    have w : IntKind.i64.wrap ((i : Int) + 1) = ((i + 1 : Nat) : Int) := by rw [wrap_id (by omega), nxt]
    have hm := List.getElem_mem hi'
    have b4 := hx.box (4, [oP, oU, oR]) (by simp)
    obtain ⟨cc, os, hcl⟩ := clone93 (nl := s.R[i].1) (tg := s.R[i].2.1) (l := s.R[i].2.2) (hk _ hm) (hl _ hm) H.length
    have e1 := hcl.callN rfl rfl hn []
    have hx1 := hcl.cx rfl hx
    obtain ⟨nl, tg, H2, e2, hx2⟩ := Cx.lit (o := cc) (d := s.R[i].2.2) hx1
    have hn2 : NH H2 := NH.lit (hn.push hcl.nh) e2
    have hRl : R'.length ≤ i := by
      have := congrArg List.length hR
      simp [ints] at this
      omega
    obtain ⟨o', H3, e3, hx3, id, g, eo⟩ := Cx.app (bytes := 24) [] hx2 (cells1 (us (nl, tg, s.R[i].2.2)) H2) rfl (by omega) (by simp only [room]; omega)
    have hn3 : NH H3 := hn2.app e3
    have b43 := hx3.box (4, [oP, oU, oR]) (by simp)
    have hx4 := hx3.setBox (fun q hq => by
      rcases List.mem_cons.mp hq with e | e
      · subst e; simp
      · have := hfx q e; omega) [oP, oU, o']
    have e4 : stA 1 (.ptr 4 (0 + 2)) o' [] H3 = some (H3.set 4 (.box [oP, oU, o'])) := by
      have hc' : o'.cells = [o'] := by rw [eo]; rfl
      rw [stA_box b43 (by rw [hc']; rfl) (by simp) (by rw [hc', eo]; rfl) (okL0 _ _), hc']
      rfl
    have e0 : ldS false 1 (.ptr 4 (0 + 2)) H = some oR := (show ldS false 1 (.ptr 4 (0 + 2)) H = ld false 1 (.ptr 4 (0 + 2)) H from rfl).trans (ldBoxJ (j := 2) b4)
    have hat : (ints s.R)[i]'(by omega) = s.R[i].2.2 := by simp [ints]
    have hx5 : Cx (H3.set 4 (.box [oP, oU, o'])) ((4, .box [oP, oU, o']) :: (3, .box [x, y, z]) :: fx) [lR o' (R' ++ [(nl, tg, s.R[i].2.2)]), lP oP P, lI oU U] := by
      have e : lR o' (R' ++ [(nl, tg, s.R[i].2.2)]) = (o', 1, R'.length + 1, R'.map us ++ [us (nl, tg, s.R[i].2.2)]) := by
        simp [lR]
      rw [e]
      exact hx4
    obtain ⟨oR', R'', H', fin, h1, h2, h3, h4⟩ := ih (i + 1) _ o' x y z (R' ++ [(nl, tg, s.R[i].2.2)]) (by omega) (by omega) (hn3.set rfl) hx5 (.inr ⟨id, g, by rw [eo]; simp⟩) (by
      rw [List.take_add_one, List.getElem?_eq_getElem (by omega : i < (ints s.R).length), hat, ← hR]
      simp [ints])
    refine ⟨oR', R'', H', ?_, h1, h2, h3, h4⟩
    rw [L104_8_eq]
    simp only [hlt, idxW hi', ldW hi', e0, e1, e2, e3, e4, w, obs, oms, bin_add, bin_sub, bin_lss, bin_leq, bin_gtr, bin_geq, bin_eql, bin_neq, bin_eqlB, bin_neqB, un_not, cond_B, gd_B, gd_undef, gdH_B, gdH_undef, pickA_B, extractA_tup, lenA_sl, lenA_row, fldA_fp, fldA_ptr, fldA_rptr, List.getElem?_cons_zero, List.getElem?_cons_succ, decide_true, decide_false, if_true, if_false, Bool.true_eq_false, Bool.false_eq_true, Bool.not_true, Bool.not_false]
    exact fin

/-- A store of one's own: its lists, apart from each other. -/
structure Own (H : Heap) (fx : List (Nat × AObj)) (ls : List Ll) (P : List Pg) (U : List Int) (R : List Dd) (oP oU oR : AV) : Prop where
  cx : Cx H fx (lR oR R :: lP oP P :: lI oU U :: ls)
  p : RN oP P.length
  u : RN oU U.length
  r : RN oR R.length

structure Kns (s : SD) : Prop where
  p : Kn (s.np, s.P)
  u : Kn (s.nu, s.U)
  r : ∀ d ∈ s.R, Kn (d.1, d.2.2)
structure Sm (s : SD) : Prop where
  p : s.P.length < 2 ^ 40
  u : s.U.length < 2 ^ 40
  l : ∀ d ∈ s.R, d.2.2.length < 2 ^ 40
  r : s.R.length < 2 ^ 40

theorem ent104 (hk : Kns s) (hm : Sm s) (x1 x2 : List AV) :
    ∃ oP oU oR R' H', O.ent 104 [avS s] [] [.box x1, .box x2] = some ([.agg [oP, oU, oR]], H') ∧ NH H' ∧ Own H' [(0, .box x1), (1, .box x2)] [] s.P s.U R' oP oU oR ∧ ints R' = ints s.R := by
  have b1 : boxO [] (AV.cells (avS s)) [.box x1, .box x2] = some (.ptr 2 0, [.box x1, .box x2, bxS s]) := boxS s _
  have b2 : boxO [] [.p nilS, .p nilS, .p nilS] [.box x1, .box x2, bxS s] = some (.ptr 3 0, [.box x1, .box x2, bxS s, .box [.p nilS, .p nilS, .p nilS]]) := rfl
  have b3 : ([.box x1, .box x2, bxS s, .box [.p nilS, .p nilS, .p nilS]] : Heap) ++ List.replicate 1 AObj.hole = [.box x1, .box x2, bxS s, .box [.p nilS, .p nilS, .p nilS], .hole] := rfl
  have hA : NH [.box x1, .box x2, bxS s, .box [.p nilS, .p nilS, .p nilS]] := ((((NH.nil.cons rfl).cons rfl).cons rfl).cons rfl)
  obtain ⟨oP, q1, hP⟩ := clone143 (tg := s.tp) hk.p hm.p 5
  have e1 := hP.callH rfl (A := [.box x1, .box x2, bxS s, .box [.p nilS, .p nilS, .p nilS]]) (C := []) rfl hA NH.nil []
  obtain ⟨oU, q2, hU⟩ := clone93 (tg := s.tu) hk.u hm.u (5 + q1.length)
  have e2 := hU.callH rfl (A := [.box x1, .box x2, bxS s, .box [.p nilS, .p nilS, .p nilS]]) (C := q1) (by simp; omega) hA hP.nh []
  have l1 : ldS false 1 (.ptr 2 (0 + 0)) ([.box x1, .box x2, bxS s, .box [.p nilS, .p nilS, .p nilS]] ++ .hole :: []) = some (.p (pvP s)) := rfl
  have l2 : ldS false 1 (.ptr 2 (0 + 1)) ([.box x1, .box x2, bxS s, .box [.p nilS, .p nilS, .p nilS]] ++ .hole :: [] ++ q1) = some (.p (pvU s)) := rfl
  have l3 : buildA [.p nilS, .p nilS, .p nilS] [(0, 1, oP), (1, 1, oU)] = some (.agg [oP, oU, .p nilS]) := by
    simp only [buildA, hP.leaf.1, hU.leaf.1, List.all_cons, List.all_nil, hP.leaf.2, hU.leaf.2, splice, List.length_set, List.length_cons, List.length_nil]
    rfl
  have hfh : ([.box x1, .box x2, bxS s, .box [.p nilS, .p nilS, .p nilS]] ++ AObj.hole :: (q1 ++ q2)).findIdx isHole = 4 := findHole hA
  have l4 : fillA 0 0 [.p nilS, .p nilS, .p nilS] ([.box x1, .box x2, bxS s, .box [.p nilS, .p nilS, .p nilS]] ++ AObj.hole :: (q1 ++ q2)) = some (.ptr 4 0, [.box x1, .box x2, bxS s, .box [.p nilS, .p nilS, .p nilS], .box [.p nilS, .p nilS, .p nilS]] ++ (q1 ++ q2)) := by
    have hh : holeAt 0 0 ([.box x1, .box x2, bxS s, .box [.p nilS, .p nilS, .p nilS]] ++ AObj.hole :: (q1 ++ q2)) = 4 := hfh
    simp only [fillA, hh]
    rfl
  have hleaf : [oP, oU, .p nilS].all AV.leaf = true := by simp [hP.leaf.2, hU.leaf.2]; rfl
  have l5 : stA 3 (.ptr 4 0) (.agg [oP, oU, .p nilS]) [] ([.box x1, .box x2, bxS s, .box [.p nilS, .p nilS, .p nilS], .box [.p nilS, .p nilS, .p nilS]] ++ (q1 ++ q2)) = some ([.box x1, .box x2, bxS s, .box [.p nilS, .p nilS, .p nilS], .box [oP, oU, .p nilS]] ++ (q1 ++ q2)) := by
    rw [stBox3 (H := [.box x1, .box x2, bxS s, .box [.p nilS, .p nilS, .p nilS], .box [.p nilS, .p nilS, .p nilS]] ++ (q1 ++ q2)) (a := .p nilS) (b := .p nilS) (c := .p nilS) rfl hleaf]
    rfl
  have l6 : ld false 1 (.ptr 2 (0 + 2)) ([.box x1, .box x2, bxS s, .box [.p nilS, .p nilS, .p nilS], .box [oP, oU, .p nilS]] ++ (q1 ++ q2)) = some (.p (pvR s)) := rfl
  have c0 : Cx [.box x1, .box x2, bxS s, .box [.p nilS, .p nilS, .p nilS], .box [oP, oU, .p nilS]] [(4, .box [oP, oU, .p nilS]), (3, .box [.p nilS, .p nilS, .p nilS]), (0, .box x1), (1, .box x2)] [] := by
    refine ⟨fun q hq => ?_, fun _ h => (by cases h), .nil⟩
    simp at hq
    rcases hq with e | e | e | e <;> subst e <;> exact ⟨rfl, rfl⟩
  have c1 := hP.cx rfl c0
  have c2 := hU.cx (by simp; omega) c1
  rw [List.append_assoc] at c2
  have c3 : Cx ([.box x1, .box x2, bxS s, .box [.p nilS, .p nilS, .p nilS], .box [oP, oU, .p nilS]] ++ (q1 ++ q2)) [(4, .box [oP, oU, .p nilS]), (3, .box [.p nilS, .p nilS, .p nilS]), (0, .box x1), (1, .box x2)] [lR (.p nilS) [], lP oP s.P, lI oU s.U] :=
    (c2.perm (List.Perm.swap _ _ _)).newNil 1
  have hn : NH ([.box x1, .box x2, bxS s, .box [.p nilS, .p nilS, .p nilS], .box [oP, oU, .p nilS]] ++ (q1 ++ q2)) :=
    NH.push (((((NH.nil.cons rfl).cons rfl).cons rfl).cons rfl).cons rfl) (hP.nh.push hU.nh)
  obtain ⟨oR, R', H', fin, hn', hx, hrn, hR⟩ := loop104 hk.r hm.l hm.r (fx := [(0, .box x1), (1, .box x2)]) (by intro q hq; simp at hq; rcases hq with e | e <;> subst e <;> simp) s.R.length 0 _ (.p nilS) _ _ _ [] rfl (by omega) hn c3 (.inl ⟨rfl, rfl⟩) (by simp [ints])
  refine ⟨oP, oU, oR, R', H', ?_, hn', ⟨hx, hP.rn, hU.rn, hrn⟩, hR⟩
  rw [f104_eq]
  simp only [List.append_assoc, List.cons_append, List.nil_append, List.append_nil] at l1 e1 l2 e2 l4 l5 l6 fin
  simp only [b1, b2, b3, l1, e1, l2, e2, l3, l4, l5, l6, obs, oms, bin_add, bin_sub, bin_lss, bin_leq, bin_gtr, bin_geq, bin_eql, bin_neq, bin_eqlB, bin_neqB, un_not, cond_B, gd_B, gd_undef, gdH_B, gdH_undef, pickA_B, extractA_tup, lenA_sl, lenA_row, fldA_fp, fldA_ptr, fldA_rptr, List.getElem?_cons_zero, List.getElem?_cons_succ, decide_true, decide_false, if_true, if_false, Bool.true_eq_false, Bool.false_eq_true, Bool.not_true, Bool.not_false]
  exact fin
end
end Pa
end Go.Proofs.Ytkhbbjfdbbnojaa

set_option linter.unusedVariables false
set_option linter.unusedSimpArgs false
namespace Go.Proofs.Ytkhbbjfdbbnojaa
open Go Go.AM
namespace Pa

theorem nilPtr (d j : Nat) : nilCheckA (.ptr d j) = some (.ptr d j) := rfl
theorem rowI1 {id g m i : Nat} (h : i < m) : idxA 1 (.row id g 0 m) (I i) = some (.rptr id g i) := by
  have := rowI (k := 1) (id := id) (g := g) h
  rwa [Nat.mul_one] at this
theorem stG {H : Heap} {id g i : Nat} {l : List Pg} {p : Pg} (ho : H[id]? = some (.row g 4 (l.flatMap encG))) (h : i < l.length) : stA 4 (.rptr id g (i * 4)) (avG p) [] H = some (H.set id (.row g 4 ((l.set i p).flatMap encG))) := by
  have hc : (avG p).cells = (encG p).map .p := rfl
  have hl := pg_len l
  simp only [stA, ho, hc]
  rw [if_pos ⟨trivial, rfl, by rw [hl]; omega⟩, toPVs_p]
  simp only [obs, ho]
  rw [if_pos ⟨trivial, trivial⟩, flat_splice len4 l i p h]
theorem stRowFrz {H H2 : Heap} {id g sz n : Nat} {cs : List PV} {o : AV} {pv : PV} (ho : H[id]? = some (.row g sz cs)) (hc : o.cells = [o]) (hn : n < cs.length) (e : AM.toPV H o = some (pv, H2)) (ho2 : H2[id]? = some (.row g sz cs)) :
    stA 1 (.rptr id g n) o [] H = some (H2.set id (.row g sz (cs.set n pv))) := by
  simp only [stA, ho, hc]
  rw [if_pos ⟨trivial, rfl, by omega⟩]
  simp only [toPVs, e, obs, oms, ho2]
  rw [if_pos ⟨trivial, trivial⟩]
  rfl
theorem stBoxJ {H : Heap} {id j : Nat} {a b c o : AV} (h : H[id]? = some (.box [a, b, c])) (hj : j < 3) (hc : o.cells = [o]) (hl : o.leaf = true) : stA 1 (.ptr id (0 + j)) o [] H = some (H.set id (.box ([a, b, c].set j o))) := by
  rw [stA_box h (by rw [hc]; rfl) (by simp; omega) (by rw [hc]; simp [hl]) (okL0 _ _), hc, Nat.zero_add]
  rfl
theorem row_leaf (id g off n : Nat) : (AV.row id g off n).cells = [.row id g off n] ∧ (AV.row id g off n).leaf = true := ⟨rfl, rfl⟩

section
variable {H : Heap} {fx : List (Nat × AObj)} {ls : List Ll} {P : List Pg} {U : List Int} {R : List Dd} {oP oU oR : AV} {d : Nat}

/-! ### pages.fresh -/
def frN (U : List Int) (p : Pg) : Int := if p = zg then -1 else ((U.idxOf 0 : Nat) : Int)
def frP (P : List Pg) (U : List Int) (p : Pg) : List Pg := if p = zg then P else if U.idxOf 0 < U.length then P.set (U.idxOf 0) p else P ++ [p]
def frU (U : List Int) (p : Pg) : List Int := if p = zg then U else if U.idxOf 0 < U.length then U else U ++ [0]

theorem Own.sub (h : Own H fx ls P U R oP oU oR) {fx' : List (Nat × AObj)} (hq : ∀ q ∈ fx', q ∈ fx) : Own H fx' ls P U R oP oU oR := ⟨h.cx.mono hq (List.Sublist.refl _), h.p, h.u, h.r⟩
theorem Own.setB (h : Own H ((d, .box [oP, oU, oR]) :: fx) ls P U R oP oU oR) (hd : ∀ q ∈ fx, q.1 ≠ d) (xs : List AV) : Own (H.set d (.box xs)) ((d, .box xs) :: fx) ls P U R oP oU oR := ⟨h.cx.setBox hd xs, h.p, h.u, h.r⟩

theorem ret105 {b i : Nat} {p : Pg} (h : Own H ((d, .box [oP, oU, oR]) :: fx) ls P U R oP oU oR) (hb : H[b]? = some (.box ((encG p).map .p))) (hi : i < P.length) :
    ∃ H', L105_17 [.ptr d 0, .ptr b 0, I i] [] H = some ([I i], H') ∧ Own H' ((d, .box [oP, oU, oR]) :: fx) ls (P.set i p) U R oP oU oR := by
  obtain ⟨id, g, e⟩ := h.p.row (by omega)
  subst e
  have hd := h.cx.box (d, _) (List.mem_cons_self ..)
  have hL : Lst 4 (.row id g 0 P.length) H P.length (P.flatMap encG) := h.cx.lst (lP _ P) (by simp)
  have e1 : ld false 1 (.ptr d (0 + 0)) H = some (.row id g 0 P.length) := ldBoxJ (j := 0) hd
  have e2 : ld true 4 (.ptr b 0) H = some (avG p) := by
    rw [ldAgg_box hb (by simp [len4]) (by simp [len4])]
    rfl
  have e3 := stG (p := p) hL.at hi
  have lp : lP (.row id g 0 P.length) (P.set i p) = (.row id g 0 P.length, 4, P.length, (P.set i p).flatMap encG) := by simp [lP]
  refine ⟨_, ?_, ⟨by rw [lp]; exact Cx.setRow [lR oR R] (cs' := (P.set i p).flatMap encG) h.cx (by simp only [pg_len, List.length_set]), by rw [List.length_set]; exact h.p, h.u, h.r⟩⟩
  · rw [L105_17_eq]
    simp only [nilPtr, e1, e2, rowI (k := 4) hi, e3, obs, oms, bin_add, bin_sub, bin_lss, bin_leq, bin_gtr, bin_geq, bin_eql, bin_neq, bin_eqlB, bin_neqB, un_not, cond_B, gd_B, gd_undef, gdH_B, gdH_undef, pickA_B, extractA_tup, lenA_sl, lenA_row, fldA_fp, fldA_ptr, fldA_rptr, List.getElem?_cons_zero, List.getElem?_cons_succ, decide_true, decide_false, if_true, if_false, Bool.true_eq_false, Bool.false_eq_true, Bool.not_true, Bool.not_false]
    rfl

theorem idx_not {U : List Int} {x : Int} (h : x ∉ U) : U.idxOf x = U.length := List.idxOf_eq_length h
theorem idx_at : ∀ {U : List Int} {x : Int} {i : Nat} (hi : i < U.length), U[i] = x → x ∉ U.take i → U.idxOf x = i
  | [], _, _, hi, _, _ => absurd hi (by simp)
  | u :: U, x, 0, hi, h, _ => by
    simp at h; subst h; simp
  | u :: U, x, i + 1, hi, h, h2 => by
    simp only [List.take_succ_cons, List.mem_cons, not_or] at h2
    have hne : (u == x) = false := by simpa using fun e : u = x => h2.1 e.symm
    rw [List.idxOf_cons, hne, idx_at (U := U) (x := x) (i := i) (by simpa using hi) (by simpa using h) h2.2]
    rfl

theorem ent105 (h : Own H ((d, .box [oP, oU, oR]) :: fx) ls P U R oP oU oR) (hd : ∀ q ∈ fx, q.1 ≠ d) (hl : U.length = P.length) (hP : P.length ≤ 400) (p : Pg) :
    ∃ oP' oU' H', O.ent 105 [.ptr d 0, avG p] [] H = some ([I (frN U p)], H') ∧ Own H' ((d, .box [oP', oU', oR]) :: fx) ls (frP P U p) (frU U p) R oP' oU' oR := by
  have b1 : boxO [] (AV.cells (avG p)) H = some (.ptr H.length 0, H ++ [.box ((encG p).map .p)]) := boxO_p (encG p) H
  have l1 : ld true 4 (.ptr H.length 0) (H ++ [.box ((encG p).map .p)]) = some (avG p) := ldEA (by simp [len4]) (by omega)
  have hq := eqG p zg
  by_cases hz : p = zg
  · rw [decide_eq_true hz] at hq
    refine ⟨oP, oU, H ++ [.box ((encG p).map .p)], ?_, ?_⟩
    · rw [f105_eq]
      simp only [b1, l1, buildZ, hq, frN, if_pos hz, obs, oms, bin_add, bin_sub, bin_lss, bin_leq, bin_gtr, bin_geq, bin_eql, bin_neq, bin_eqlB, bin_neqB, un_not, cond_B, gd_B, gd_undef, gdH_B, gdH_undef, pickA_B, extractA_tup, lenA_sl, lenA_row, fldA_fp, fldA_ptr, fldA_rptr, List.getElem?_cons_zero, List.getElem?_cons_succ, decide_true, decide_false, if_true, if_false, Bool.true_eq_false, Bool.false_eq_true, Bool.not_true, Bool.not_false]
      rfl
    · rw [frP, frU, if_pos hz, if_pos hz]
      exact ⟨h.cx.push _, h.p, h.u, h.r⟩
  · rw [decide_eq_false hz] at hq
    have hb := h.cx.box (d, _) (List.mem_cons_self ..)
    have hlt := h.cx.lt
    have h1 : Own (H ++ [.box ((encG p).map .p)]) ((d, .box [oP, oU, oR]) :: (H.length, .box ((encG p).map .p)) :: fx) ls P U R oP oU oR :=
      ⟨(h.cx.newBox ((encG p).map .p)).mono (by intro q hq; simp at hq ⊢; rcases hq with e | e | e <;> simp [e]) (List.Sublist.refl _), h.p, h.u, h.r⟩
    have hd1 : ∀ q ∈ ((H.length, AObj.box ((encG p).map .p)) :: fx), q.1 ≠ d := by
      intro q hq
      rcases List.mem_cons.mp hq with e | e
      · subst e; exact fun e => hlt (d, _) (List.mem_cons_self ..) e.symm
      · exact hd q e
    generalize hH1 : H ++ [.box ((encG p).map .p)] = H1 at h1 b1 l1
    have hdb := h1.cx.box (d, _) (List.mem_cons_self ..)
    have hLU : Lst 1 oU H1 U.length (U.map Ia) := h1.cx.lst (lI oU U) (by simp)
    have hLP : Lst 4 oP H1 P.length (P.flatMap encG) := h1.cx.lst (lP oP P) (by simp)
    obtain ⟨r, e120, hr⟩ := call120 hLU (by omega) 0 []
    have eU : ld false 1 (.ptr d (0 + 1)) H1 = some oU := ldBoxJ (j := 1) hdb
    have eP : ld false 1 (.ptr d (0 + 0)) H1 = some oP := ldBoxJ (j := 0) hdb
    have ePs : ldS false 1 (.ptr d (0 + 0)) H1 = some oP := (show ldS false 1 (.ptr d (0 + 0)) H1 = ld false 1 (.ptr d (0 + 0)) H1 from rfl).trans eP
    have l1s : ldS true 4 (.ptr H.length 0) H1 = some (avG p) := (show ldS true 4 (.ptr H.length 0) H1 = ld true 4 (.ptr H.length 0) H1 from rfl).trans l1
    rcases hr with ⟨hneg, hno⟩ | ⟨i, e, hi, hzi, hti⟩
    · have hidx := idx_not hno
      have hlit : litP 4 [avG p] = some (.p (.sl (some false) true 1 (encG p))) := rfl
      have hlit2 : litP 1 [I 0] = some (.p (.sl (some false) true 1 [Ia 0])) := rfl
      obtain ⟨oP', H2, e2, h2, idP, gP, eoP⟩ := Cx.app (bytes := 32) [lR oR R] h1.cx (cellsP (sz := 4) (m := 1) (nl := some false) (tg := true) (cs := encG p) rfl H1) rfl (by omega) (by simp only [room]; omega)
      have hdb2 := h2.box (d, [oP, oU, oR]) (by simp)
      have eU2 : ldS false 1 (.ptr d (0 + 1)) H2 = some oU := (show ldS false 1 (.ptr d (0 + 1)) H2 = ld false 1 (.ptr d (0 + 1)) H2 from rfl).trans (ldBoxJ (j := 1) hdb2)
      obtain ⟨oU', H3, e3, h3, idU, gU, eoU⟩ := Cx.app (bytes := 8) [lR oR R, (oP', 4, P.length + 1, P.flatMap encG ++ encG p)] h2 (cells1 (Ia 0) H2) rfl (by omega) (by simp only [room]; omega)
      have hdb3 := h3.box (d, [oP, oU, oR]) (by simp)
      have e4 := stBoxJ (j := 0) (o := oP') hdb3 (by omega) (by rw [eoP]; rfl) (by rw [eoP]; rfl)
      have h4 := h3.setBox hd1 ([oP, oU, oR].set 0 oP')
      have hdb4 := h4.box (d, _) (List.mem_cons_self ..)
      have e5 := stBoxJ (id := d) (j := 1) (a := oP') (b := oU) (c := oR) (o := oU') hdb4 (by omega) (by rw [eoU]; rfl) (by rw [eoU]; rfl)
      have h5 := h4.setBox hd1 ([oP', oU, oR].set 1 oU')
      have lp : lP oP' (P ++ [p]) = (oP', 4, P.length + 1, P.flatMap encG ++ encG p) := by simp [lP]
      have lu : lI oU' (U ++ [0]) = (oU', 1, U.length + 1, U.map Ia ++ [Ia 0]) := by simp [lI]
      have h6 : Own _ ((d, .box [oP', oU', oR]) :: (H.length, .box ((encG p).map .p)) :: fx) ls (P ++ [p]) (U ++ [0]) R oP' oU' oR :=
        ⟨by rw [lp, lu]; exact h5, .inr ⟨idP, gP, by rw [eoP]; simp⟩, .inr ⟨idU, gU, by rw [eoU]; simp⟩, h.r⟩
      obtain ⟨H7, e7, h7⟩ := ret105 (i := P.length) h6 (h6.cx.box (H.length, _) (List.mem_cons_of_mem _ (List.mem_cons_self ..))) (by simp)
      have hset : (P ++ [p]).set P.length p = P ++ [p] := by
        rw [List.set_append_right _ _ (Nat.le_refl _)]; simp
      rw [hset] at h7
      refine ⟨oP', oU', H7, ?_, ?_⟩
      · have hfr : frN U p = P.length := by rw [frN, if_neg hz, hidx, hl]
        rw [f105_eq, hfr]
        have hlen : lenA .slice oP H1 = some (I P.length) := hLP.len H1
        simp only [b1, l1, buildZ, hq, nilPtr, eU, eP, ePs, l1s, e120, hneg, hlen, hlit, e2, hlit2, eU2, e3, e4, e5, obs, oms, bin_add, bin_sub, bin_lss, bin_leq, bin_gtr, bin_geq, bin_eql, bin_neq, bin_eqlB, bin_neqB, un_not, cond_B, gd_B, gd_undef, gdH_B, gdH_undef, pickA_B, extractA_tup, lenA_sl, lenA_row, fldA_fp, fldA_ptr, fldA_rptr, List.getElem?_cons_zero, List.getElem?_cons_succ, decide_true, decide_false, if_true, if_false, Bool.true_eq_false, Bool.false_eq_true, Bool.not_true, Bool.not_false]
        exact e7
      · have hnl : ¬ U.idxOf 0 < U.length := by omega
        rw [frP, frU, if_neg hz, if_neg hz, if_neg hnl, if_neg hnl]
        exact h7.sub (by intro q hq; rcases List.mem_cons.mp hq with e | e <;> simp [e])
    · have hidx := idx_at hi hzi hti
      obtain ⟨H7, e7, h7⟩ := ret105 (i := i) h1 (h1.cx.box (H.length, _) (List.mem_cons_of_mem _ (List.mem_cons_self ..))) (by omega)
      refine ⟨oP, oU, H7, ?_, ?_⟩
      · have hfr : frN U p = i := by rw [frN, if_neg hz, hidx]
        have hneg : ¬ r < 0 := by omega
        rw [f105_eq, hfr]
        simp only [b1, l1, buildZ, hq, nilPtr, eU, e120, hneg, obs, oms, bin_add, bin_sub, bin_lss, bin_leq, bin_gtr, bin_geq, bin_eql, bin_neq, bin_eqlB, bin_neqB, un_not, cond_B, gd_B, gd_undef, gdH_B, gdH_undef, pickA_B, extractA_tup, lenA_sl, lenA_row, fldA_fp, fldA_ptr, fldA_rptr, List.getElem?_cons_zero, List.getElem?_cons_succ, decide_true, decide_false, if_true, if_false, Bool.true_eq_false, Bool.false_eq_true, Bool.not_true, Bool.not_false]
        rw [e]
        exact e7
      · have hnl : U.idxOf 0 < U.length := by omega
        rw [frP, frU, if_neg hz, if_neg hz, if_pos hnl, if_pos hnl, hidx]
        exact h7.sub (by intro q hq; rcases List.mem_cons.mp hq with e | e <;> simp [e])
end
end Pa
end Go.Proofs.Ytkhbbjfdbbnojaa

set_option linter.unusedVariables false
set_option linter.unusedSimpArgs false
namespace Go.Proofs.Ytkhbbjfdbbnojaa
open Go Go.AM
namespace Pa

section
variable {H : Heap} {fx : List (Nat × AObj)} {ls : List Ll} {P : List Pg} {U : List Int} {R : List Dd} {oP oU oR : AV} {d : Nat}

/-! ### pages.root -/
def rtN (R : List (List Int)) : Nat := R.findIdx fun l => decide (l.length = 0)
def rtR (R : List (List Int)) (r : List Int) : List (List Int) := if rtN R < R.length then R.set (rtN R) r else R ++ [r]
theorem rt_not {R : List (List Int)} (h : ∀ l ∈ R, l.length ≠ 0) : rtN R = R.length := by
  unfold rtN
  rw [List.findIdx_eq_length]
  intro l hl
  simpa using h l hl
theorem rt_at : ∀ {R : List (List Int)} {i : Nat} (hi : i < R.length), R[i].length = 0 → (∀ l ∈ R.take i, l.length ≠ 0) → rtN R = i
  | [], _, hi, _, _ => absurd hi (by simp)
  | l :: R, 0, hi, h, _ => by
    simp only [List.getElem_cons_zero] at h
    unfold rtN
    rw [List.findIdx_cons, decide_eq_true h]
    rfl
  | l :: R, i + 1, hi, h, h2 => by
    have h0 := h2 l (by simp)
    have ih := rt_at (R := R) (i := i) (by simpa using hi) (by simpa using h) fun x hx => h2 x (by simp [hx])
    unfold rtN at ih ⊢
    rw [List.findIdx_cons, decide_eq_false h0, ih]
    rfl
theorem call144 {R : List Dd} {o : AV} {H : Heap} (h : Lst 1 o H R.length (R.map us)) (hl : R.length < 2 ^ 40) (lo : List Nat) :
    ∃ r : Int, callA cfg O 144 [o, .fn 145 [] []] lo H = some (I r, H) ∧ ((r < 0 ∧ rtN (ints R) = R.length) ∨ (r = (rtN (ints R) : Nat) ∧ rtN (ints R) < R.length)) := by
  have hil : (ints R).length = R.length := by simp [ints]
  obtain ⟨nl, tg, q, ep⟩ := pureLst h
  obtain ⟨r, e, hr⟩ := ent144 (R := R) (nl := nl) (tg := tg) hl
  refine ⟨r, ?_, ?_⟩
  · refine callA_rows (H' := []) (rs := [I r]) (ys := [W nl tg R, .fn 145 [] []]) (b := q || (false || false)) rfl ?_ e rfl rfl
    have px : pureArg H (.fn 145 [] []) = some (.fn 145 [] [], false) := rfl
    simp only [pureArgs, ep, px, obs, oms]
  · rcases hr with ⟨h1, h2⟩ | ⟨i, h1, hi, h2, h3⟩
    · exact .inl ⟨h1, by rw [rt_not h2, hil]⟩
    · have := rt_at (R := ints R) (i := i) (by omega) (by simpa [ints] using h2) h3
      exact .inr ⟨by rw [this]; exact h1, by omega⟩

theorem ret106 {oX : AV} {r : List Int} {i : Nat} (h : Own H ((d, .box [oP, oU, oR]) :: fx) (lI oX r :: ls) P U R oP oU oR) (hi : i < R.length) :
    ∃ R' H', L106_13 [.ptr d 0, oX, I i] [] H = some ([I i], H') ∧ Own H' ((d, .box [oP, oU, oR]) :: fx) ls P U R' oP oU oR ∧ ints R' = (ints R).set i r := by
  obtain ⟨id, g, e⟩ := h.r.row (by omega)
  subst e
  have hd := h.cx.box (d, _) (List.mem_cons_self ..)
  have hL : Lst 1 (.row id g 0 R.length) H R.length (R.map us) := h.cx.lst (lR _ R) (by simp)
  have hX : Lst 1 oX H r.length (r.map Ia) := h.cx.lst (lI oX r) (by simp)
  have e1 : ld false 1 (.ptr d (0 + 2)) H = some (.row id g 0 R.length) := ldBoxJ (j := 2) hd
  have hp : Cx H ((d, .box [oP, oU, .row id g 0 R.length]) :: fx) (lI oX r :: ([lR (.row id g 0 R.length) R, lP oP P, lI oU U] ++ ls)) :=
    h.cx.perm (List.perm_middle (l₁ := [lR (.row id g 0 R.length) R, lP oP P, lI oU U]))
  obtain ⟨nl, tg, H2, e2, h2, _⟩ := hp.toPV
  have hL2 : Lst 1 (.row id g 0 R.length) H2 R.length (R.map us) := h2.lst (lR _ R) (by simp)
  have e3 := stRowFrz (n := i) hL.at (lst_leaf hX).1 (by simpa using hi) e2 hL2.at
  have hset : (R.map us).set i (.sl nl tg r.length (r.map Ia)) = (R.set i (nl, tg, r)).map us := by
    rw [List.map_set]; rfl
  rw [hset] at e3
  have lr : lR (.row id g 0 R.length) (R.set i (nl, tg, r)) = (.row id g 0 R.length, 1, R.length, (R.set i (nl, tg, r)).map us) := by simp [lR]
  refine ⟨R.set i (nl, tg, r), _, ?_, ⟨by rw [lr]; exact Cx.setRow [] (cs' := (R.set i (nl, tg, r)).map us) h2 (by simp), h.p, h.u, by rw [List.length_set]; exact h.r⟩, ?_⟩
  · rw [L106_13_eq]
    simp only [nilPtr, e1, rowI1 hi, e3, obs, oms, bin_add, bin_sub, bin_lss, bin_leq, bin_gtr, bin_geq, bin_eql, bin_neq, bin_eqlB, bin_neqB, un_not, cond_B, gd_B, gd_undef, gdH_B, gdH_undef, pickA_B, extractA_tup, lenA_sl, lenA_row, fldA_fp, fldA_ptr, fldA_rptr, List.getElem?_cons_zero, List.getElem?_cons_succ, decide_true, decide_false, if_true, if_false, Bool.true_eq_false, Bool.false_eq_true, Bool.not_true, Bool.not_false]
    rfl
  · simp only [ints, List.map_set]

theorem ent106 {oX : AV} {r : List Int} (h : Own H ((d, .box [oP, oU, oR]) :: fx) (lI oX r :: ls) P U R oP oU oR) (hd : ∀ q ∈ fx, q.1 ≠ d) (hR : R.length ≤ 40) :
    ∃ oR' R' H', O.ent 106 [.ptr d 0, oX] [] H = some ([I (rtN (ints R) : Nat)], H') ∧ Own H' ((d, .box [oP, oU, oR']) :: fx) ls P U R' oP oU oR' ∧ ints R' = rtR (ints R) r := by
  have hil : (ints R).length = R.length := by simp [ints]
  have hdb := h.cx.box (d, _) (List.mem_cons_self ..)
  have hL : Lst 1 oR H R.length (R.map us) := h.cx.lst (lR _ R) (by simp)
  have eR : ld false 1 (.ptr d (0 + 2)) H = some oR := ldBoxJ (j := 2) hdb
  obtain ⟨x, e144, hr⟩ := call144 hL (by omega) []
  rcases hr with ⟨hneg, hN⟩ | ⟨hx, hN⟩
  · have hlit : litA false 1 [.p nilS] H = some (.p (.sl (some false) true 1 [nilS]), H) := rfl
    obtain ⟨oR', H2, e2, h2, idR, gR, eoR⟩ := Cx.app (bytes := 24) [] h.cx (cells1 nilS H) rfl (by omega) (by simp only [room]; omega)
    have hdb2 := h2.box (d, [oP, oU, oR]) (List.mem_cons_self ..)
    have e3 := stBoxJ (j := 2) (o := oR') hdb2 (by omega) (by rw [eoR]; rfl) (by rw [eoR]; rfl)
    have h3 := h2.setBox hd ([oP, oU, oR].set 2 oR')
    have lr : lR oR' (R ++ [(some true, true, [])]) = (oR', 1, R.length + 1, R.map us ++ [nilS]) := by
      simp only [lR, List.length_append, List.map_append]; rfl
    have h4 : Own _ ((d, .box [oP, oU, oR']) :: fx) (lI oX r :: ls) P U (R ++ [(some true, true, [])]) oP oU oR' := ⟨by rw [lr]; exact h3, h.p, h.u, .inr ⟨idR, gR, by rw [eoR]; simp⟩⟩
    obtain ⟨R', H', e5, h5, hi5⟩ := ret106 (i := R.length) h4 (by simp)
    refine ⟨oR', R', H', ?_, h5, ?_⟩
    · have hlen : lenA .slice oR H = some (I R.length) := hL.len H
      rw [f106_eq, hN]
      simp only [nilPtr, eR, e144, hneg, hlen, hlit, e2, e3, obs, oms, bin_add, bin_sub, bin_lss, bin_leq, bin_gtr, bin_geq, bin_eql, bin_neq, bin_eqlB, bin_neqB, un_not, cond_B, gd_B, gd_undef, gdH_B, gdH_undef, pickA_B, extractA_tup, lenA_sl, lenA_row, fldA_fp, fldA_ptr, fldA_rptr, List.getElem?_cons_zero, List.getElem?_cons_succ, decide_true, decide_false, if_true, if_false, Bool.true_eq_false, Bool.false_eq_true, Bool.not_true, Bool.not_false]
      exact e5
    · rw [hi5, rtR, hN, if_neg (by omega)]
      have : ints (R ++ [(some true, true, [])]) = ints R ++ [[]] := by simp [ints]
      rw [this, List.set_append_right _ _ (by omega), hil]
      simp
  · obtain ⟨R', H', e5, h5, hi5⟩ := ret106 (i := rtN (ints R)) h hN
    refine ⟨oR, R', H', ?_, h5, ?_⟩
    · have hneg : ¬ x < 0 := by omega
      rw [f106_eq]
      simp only [nilPtr, eR, e144, hneg, obs, oms, bin_add, bin_sub, bin_lss, bin_leq, bin_gtr, bin_geq, bin_eql, bin_neq, bin_eqlB, bin_neqB, un_not, cond_B, gd_B, gd_undef, gdH_B, gdH_undef, pickA_B, extractA_tup, lenA_sl, lenA_row, fldA_fp, fldA_ptr, fldA_rptr, List.getElem?_cons_zero, List.getElem?_cons_succ, decide_true, decide_false, if_true, if_false, Bool.true_eq_false, Bool.false_eq_true, Bool.not_true, Bool.not_false]
      rw [hx]
      exact e5
    · rw [hi5, rtR, if_pos (by omega)]

/-! ### A store of one's own is given away -/
theorem frz_rn {o : AV} {m : Nat} (h : RN o m) {H H' : Heap} {pv : PV} (e : AM.toPV H o = some (pv, H')) : frzLeaf H o = some (.p pv, H') := by
  rcases h with ⟨e2, _⟩ | ⟨id, g, e2⟩
  · subst e2
    cases e
    rfl
  · subst e2
    simp only [frzLeaf, e, oms]
theorem frzAll_p (H : Heap) : ∀ xs : List PV, frzAll H (xs.map .p) = some (xs.map .p, H)
  | [] => rfl
  | x :: xs => by simp only [List.map_cons, frzAll, frzA_p, obs, frzAll_p H xs, oms]
theorem leaveOwn (h : Own H fx ls P U R oP oU oR) (lo : List Nat) (rest : List PV) : ∃ t : SD, leave 0 lo (.agg [oP, oU, oR] :: rest.map .p) H = some (avS t :: rest.map .p, []) ∧ t.P = P ∧ t.U = U ∧ t.R = R := by
  have h0 : Cx H fx (lP oP P :: lI oU U :: lR oR R :: ls) := h.cx.perm ((List.Perm.swap _ _ _).trans (.cons _ (.swap _ _ _)))
  obtain ⟨n1, t1, H1, e1, h1, _⟩ := h0.toPV
  obtain ⟨n2, t2, H2, e2, h2, _⟩ := h1.toPV
  obtain ⟨n3, t3, H3, e3, h3, _⟩ := h2.toPV
  refine ⟨⟨n1, t1, P, n2, t2, U, n3, t3, R⟩, ?_, rfl, rfl, rfl⟩
  have ea : frzA H (.agg [oP, oU, oR]) = some (avS ⟨n1, t1, P, n2, t2, U, n3, t3, R⟩, H3) := by
    simp only [frzA, frzLeaves, frz_rn h.p e1, frz_rn h.u e2, frz_rn h.r e3, obs, oms]
    rfl
  have hall : (avS ⟨n1, t1, P, n2, t2, U, n3, t3, R⟩ :: rest.map AV.p).all (AV.ltd 0) = true := by
    rw [List.all_cons]
    have h1 : AV.ltd 0 (avS ⟨n1, t1, P, n2, t2, U, n3, t3, R⟩) = true := rfl
    have h2 : (rest.map AV.p).all (AV.ltd 0) = true := by
      simp only [List.all_eq_true, List.mem_map]
      rintro _ ⟨x, _, rfl⟩
      rfl
    rw [h1, h2]; rfl
  simp only [leave, frzAll, ea, frzAll_p, obs, oms]
  rw [if_pos hall]
end
end Pa
end Go.Proofs.Ytkhbbjfdbbnojaa

set_option linter.unusedVariables false
set_option linter.unusedSimpArgs false
namespace Go.Proofs.Ytkhbbjfdbbnojaa
open Go Go.AM
namespace Pa

/-! ### Counts added -/
def addC (U l : List Int) : List Int := U.mapIdx fun j u => u + ((l.count (j : Int) : Nat) : Int)
theorem addC_len (U l : List Int) : (addC U l).length = U.length := by simp [addC]
theorem addC_get {U l : List Int} {j : Nat} (h : j < U.length) : (addC U l)[j]'(by rw [addC_len]; exact h) = U[j] + ((l.count (j : Int) : Nat) : Int) := by simp [addC]
theorem addC_nil (U : List Int) : addC U [] = U := by
  apply List.ext_getElem (addC_len _ _)
  intro j h1 h2
  rw [addC_get h2]; simp
theorem addC_neg {U l : List Int} {x : Int} (h : x < 0) : addC U (l ++ [x]) = addC U l := by
  apply List.ext_getElem (by rw [addC_len, addC_len])
  intro j h1 h2
  rw [addC_len] at h2
  rw [addC_get h2, addC_get h2, List.count_append, List.count_singleton]
  have : ¬ (x == (j : Int)) = true := by simp; omega
  rw [if_neg this]; simp
theorem addC_at {U l : List Int} {q : Nat} (h : q < U.length) : addC U (l ++ [(q : Int)]) = (addC U l).set q ((addC U l)[q]'(by rw [addC_len]; exact h) + 1) := by
  apply List.ext_getElem (by rw [List.length_set, addC_len, addC_len])
  intro j h1 h2
  rw [addC_len] at h1
  rw [addC_get h1, List.count_append, List.count_singleton, List.getElem_set]
  by_cases e : q = j
  · subst e
    have hg := addC_get (l := l) h
    rw [if_pos rfl, if_pos (by simp), hg]
    omega
  · rw [if_neg e, addC_get h1, if_neg (by simp; omega)]
    simp
theorem take_snoc {r : List Int} {i : Nat} (h : i < r.length) : r.take (i + 1) = r.take i ++ [r[i]] := by
  rw [List.take_add_one, List.getElem?_eq_getElem h]; rfl

section
variable {H : Heap} {fx : List (Nat × AObj)} {ls : List Ll} {P : List Pg} {U : List Int} {R : List Dd} {oP oU oR : AV} {d : Nat}

def eS : SD := ⟨some true, true, [], some true, true, [], some true, true, []⟩
/-- What pages.Set ends with: the store, its version's number, the error. -/
def SetEnd (P : List Pg) (U : List Int) (R : List (List Int)) (r : List Int) (t : SD) (k f : Int) : Prop :=
  if P.length > 400 ∨ (rtR R r).length > 40 then t = eS ∧ k = 0 ∧ f = 2 else t.P = P ∧ t.U = addC U r ∧ ints t.R = rtR R r ∧ k = (rtN R : Nat) ∧ f = 0

theorem loop41 {ix gx : Nat} {r : List Int} (hd : ∀ q ∈ fx, q.1 ≠ d) (hd1 : 1 ≠ d) (h1m : (1, AObj.box [.p nilS, .p nilS, .p nilS]) ∈ fx) (hfx : ∀ q ∈ fx, q.1 = 1 → q.2 = .box [.p nilS, .p nilS, .p nilS]) (hR : R.length ≤ 40)
    (hU : ∀ u ∈ U, 0 ≤ u ∧ u < 2 ^ 40) (hr : r.length ≤ 16) (hx : ∀ x ∈ r, x < U.length) :
    ∀ (c i : Nat) (H : Heap), r.length - i = c → i ≤ r.length → Own H ((d, .box [oP, oU, oR]) :: fx) (lI (.row ix gx 0 r.length) r :: ls) P (addC U (r.take i)) R oP oU oR →
      ∃ t k f, L41_24 [.ptr 1 0, .ptr d 0, .row ix gx 0 r.length, .row ix gx 0 r.length, I r.length, I i] [] H = some ([avS t, I k, I f], []) ∧ SetEnd P U (ints R) r t k f := by
  intro c
  induction c with
  | zero =>
    intro i H hc hi h
    have : i = r.length := by omega
    subst this
    rw [List.take_length] at h
    obtain ⟨oR', R', H2, e106, h2, hR2⟩ := ent106 h hd hR
    have c106 := callA_keep (cfg := cfg) (lo := []) (g := 106) rfl e106
    have hdb2 := h2.cx.box (d, _) (List.mem_cons_self ..)
    have hL : Lst 4 oP H2 P.length (P.flatMap encG) := h2.cx.lst (lP oP P) (by simp)
    have hLR : Lst 1 oR' H2 R'.length (R'.map us) := h2.cx.lst (lR oR' R') (by simp)
    have hLU : Lst 1 oU H2 (addC U r).length ((addC U r).map Ia) := h2.cx.lst (lI oU (addC U r)) (by simp)
    have eP : ld false 1 (.ptr d (0 + 0)) H2 = some oP := ldBoxJ (j := 0) hdb2
    have eR : ld false 1 (.ptr d (0 + 2)) H2 = some oR' := ldBoxJ (j := 2) hdb2
    have lenP : lenA .slice oP H2 = some (I P.length) := hL.len H2
    have lenR : lenA .slice oR' H2 = some (I R'.length) := hLR.len H2
    have hlenR : R'.length = (rtR (ints R) r).length := by rw [← hR2]; simp [ints]
    have h1b : H2[1]? = some (.box [.p nilS, .p nilS, .p nilS]) := h2.cx.box (1, [.p nilS, .p nilS, .p nilS]) (List.mem_cons_of_mem _ h1m)
    have bz : buildA [.p nilS, .p nilS, .p nilS] [] = some (.agg [.p nilS, .p nilS, .p nilS]) := rfl
    have s1 := stBox3 (H := H2) (x := .p nilS) (y := .p nilS) (z := .p nilS) h1b rfl
    have l1 : ld true 3 (.ptr 1 0) (H2.set 1 (.box [.p nilS, .p nilS, .p nilS])) = some (.agg [.p nilS, .p nilS, .p nilS]) := ldBox3 (setAt h1b)
    have no : leave 0 [] [.agg [.p nilS, .p nilS, .p nilS], I 0, I 2] (H2.set 1 (.box [.p nilS, .p nilS, .p nilS])) = some ([avS eS, I 0, I 2], []) := rfl
    by_cases hp : (400 : Int) < P.length
    · refine ⟨eS, 0, 2, ?_, ?_⟩
      · rw [L41_24_eq]
        simp only [Int.lt_irrefl, c106, ret, eP, lenP, hp, bz, s1, l1, obs, oms, bin_add, bin_sub, bin_lss, bin_leq, bin_gtr, bin_geq, bin_eql, bin_neq, bin_eqlB, bin_neqB, un_not, cond_B, gd_B, gd_undef, gdH_B, gdH_undef, pickA_B, extractA_tup, lenA_sl, lenA_row, fldA_fp, fldA_ptr, fldA_rptr, List.getElem?_cons_zero, List.getElem?_cons_succ, decide_true, decide_false, if_true, if_false, Bool.true_eq_false, Bool.false_eq_true, Bool.not_true, Bool.not_false]
        exact no
      · rw [SetEnd, if_pos (.inl (by omega))]
        exact ⟨rfl, rfl, rfl⟩
    · by_cases hr40 : (40 : Int) < R'.length
      · refine ⟨eS, 0, 2, ?_, ?_⟩
        · rw [L41_24_eq]
          simp only [Int.lt_irrefl, c106, ret, eP, lenP, hp, eR, lenR, hr40, bz, s1, l1, obs, oms, bin_add, bin_sub, bin_lss, bin_leq, bin_gtr, bin_geq, bin_eql, bin_neq, bin_eqlB, bin_neqB, un_not, cond_B, gd_B, gd_undef, gdH_B, gdH_undef, pickA_B, extractA_tup, lenA_sl, lenA_row, fldA_fp, fldA_ptr, fldA_rptr, List.getElem?_cons_zero, List.getElem?_cons_succ, decide_true, decide_false, if_true, if_false, Bool.true_eq_false, Bool.false_eq_true, Bool.not_true, Bool.not_false]
          exact no
        · rw [SetEnd, if_pos (.inr (by omega))]
          exact ⟨rfl, rfl, rfl⟩
      · have e3 := ldBox3 hdb2
        have s2 := stBox3 (H := H2) (x := oP) (y := oU) (z := oR') h1b (leaf3 hL hLU hLR)
        have l2 : ld true 3 (.ptr 1 0) (H2.set 1 (.box [oP, oU, oR'])) = some (.agg [oP, oU, oR']) := ldBox3 (setAt h1b)
        have h3 : Own (H2.set 1 (.box [oP, oU, oR'])) [(1, .box [oP, oU, oR'])] ls P (addC U r) R' oP oU oR' :=
          (h2.sub (fx' := [(1, .box [.p nilS, .p nilS, .p nilS])]) (by intro q hq; simp at hq; subst hq; exact List.mem_cons_of_mem _ h1m)).cx.setBox (by simp) _ |> fun c => ⟨c, h2.p, h2.u, h2.r⟩
        obtain ⟨t, el, tP, tU, tR⟩ := leaveOwn h3 [] [.v (.int .i64 ((rtN (ints R) : Nat) : Int)), .v (.int .i64 0)]
        refine ⟨t, (rtN (ints R) : Nat), 0, ?_, ?_⟩
        · rw [L41_24_eq]
          simp only [Int.lt_irrefl, c106, ret, eP, lenP, hp, eR, lenR, hr40, e3, s2, l2, obs, oms, bin_add, bin_sub, bin_lss, bin_leq, bin_gtr, bin_geq, bin_eql, bin_neq, bin_eqlB, bin_neqB, un_not, cond_B, gd_B, gd_undef, gdH_B, gdH_undef, pickA_B, extractA_tup, lenA_sl, lenA_row, fldA_fp, fldA_ptr, fldA_rptr, List.getElem?_cons_zero, List.getElem?_cons_succ, decide_true, decide_false, if_true, if_false, Bool.true_eq_false, Bool.false_eq_true, Bool.not_true, Bool.not_false]
          exact el
        · rw [SetEnd, if_neg (by omega)]
          exact ⟨tP, tU, by rw [tR]; exact hR2, rfl, rfl⟩
  | succ c ih =>
    intro i H hc hi h
    have hi' : i < r.length := by omega
    have hlt : (i : Int) < r.length := by omega
    have w : IntKind.i64.wrap ((i : Int) + 1) = ((i + 1 : Nat) : Int) := by rw [wrap_id (by omega), nxt]
    have hts := take_snoc hi'
    have cX := Cx.cell [lR oR R, lP oP P, lI oU (addC U (r.take i))] h.cx hi'
    have eX : ld false 1 (.rptr ix gx i) H = some (I r[i]) := by rw [cX.2.1]; simp [hi']
    by_cases h0 : 0 ≤ r[i]
    · obtain ⟨q, hq⟩ := Int.eq_ofNat_of_zero_le h0
      have hqU : q < U.length := by have := hx _ (List.getElem_mem hi'); omega
      have hqA : q < (addC U (r.take i)).length := by rw [addC_len]; exact hqU
      obtain ⟨iu, gu, eu⟩ := h.u.row (by omega)
      subst eu
      have hdb := h.cx.box (d, _) (List.mem_cons_self ..)
      have eU : ld false 1 (.ptr d (0 + 1)) H = some (.row iu gu 0 (addC U (r.take i)).length) := ldBoxJ (j := 1) hdb
      have cU := Cx.cell [lR oR R, lP oP P] h.cx hqA
      have eUq : ld false 1 (.rptr iu gu q) H = some (I ((addC U (r.take i))[q])) := by rw [cU.2.1]; simp [hqA]
      have hb := hU _ (List.getElem_mem hqU)
      have hct : (r.take i).count (q : Int) ≤ 16 := Nat.le_trans List.count_le_length (by simp; omega)
      have hg := addC_get (l := r.take i) hqU
      have w2 : IntKind.i64.wrap ((addC U (r.take i))[q] + 1) = (addC U (r.take i))[q] + 1 := wrap_id (by omega)
      obtain ⟨eS2, hS2⟩ := cU.2.2.2 (Ia ((addC U (r.take i))[q] + 1)) []
      have hadd := addC_at (l := r.take i) hqU
      rw [hq] at hts
      rw [← hts] at hadd
      have hlen2 : (addC U (r.take (i + 1))).length = (addC U (r.take i)).length := by rw [addC_len, addC_len]
      have lu : lI (.row iu gu 0 (addC U (r.take i)).length) (addC U (r.take (i + 1))) = (.row iu gu 0 (addC U (r.take i)).length, 1, (addC U (r.take i)).length, ((addC U (r.take i)).map Ia).set q (Ia ((addC U (r.take i))[q] + 1))) := by
        rw [lI, hlen2]
        congr 3
        rw [hadd, List.map_set]
      have h2 : Own _ ((d, .box [oP, .row iu gu 0 (addC U (r.take i)).length, oR]) :: fx) (lI (.row ix gx 0 r.length) r :: ls) P (addC U (r.take (i + 1))) R oP (.row iu gu 0 (addC U (r.take i)).length) oR :=
        ⟨by rw [lu]; exact hS2, h.p, by rw [hlen2]; exact h.u, h.r⟩
      obtain ⟨t, k, f, fin, hfin⟩ := ih (i + 1) _ (by omega) (by omega) h2
      refine ⟨t, k, f, ?_, hfin⟩
      rw [L41_24_eq]
      have hge : (0 : Int) ≤ (q : Int) := by omega
      simp only [hlt, cX.1, eX, hq, hge, eU, cU.1, eUq, w2, eS2, L41_33_eq, w, obs, oms, bin_add, bin_sub, bin_lss, bin_leq, bin_gtr, bin_geq, bin_eql, bin_neq, bin_eqlB, bin_neqB, un_not, cond_B, gd_B, gd_undef, gdH_B, gdH_undef, pickA_B, extractA_tup, lenA_sl, lenA_row, fldA_fp, fldA_ptr, fldA_rptr, List.getElem?_cons_zero, List.getElem?_cons_succ, decide_true, decide_false, if_true, if_false, Bool.true_eq_false, Bool.false_eq_true, Bool.not_true, Bool.not_false]
      exact fin
    · have hneg : r[i] < 0 := by omega
      rw [show addC U (r.take i) = addC U (r.take (i + 1)) by rw [hts, addC_neg hneg]] at h
      obtain ⟨t, k, f, fin, hfin⟩ := ih (i + 1) _ (by omega) (by omega) h
      refine ⟨t, k, f, ?_, hfin⟩
      rw [L41_24_eq]
      simp only [hlt, cX.1, eX, h0, L41_33_eq, w, obs, oms, bin_add, bin_sub, bin_lss, bin_leq, bin_gtr, bin_geq, bin_eql, bin_neq, bin_eqlB, bin_neqB, un_not, cond_B, gd_B, gd_undef, gdH_B, gdH_undef, pickA_B, extractA_tup, lenA_sl, lenA_row, fldA_fp, fldA_ptr, fldA_rptr, List.getElem?_cons_zero, List.getElem?_cons_succ, decide_true, decide_false, if_true, if_false, Bool.true_eq_false, Bool.false_eq_true, Bool.not_true, Bool.not_false]
      exact fin
end
end Pa
end Go.Proofs.Ytkhbbjfdbbnojaa

set_option linter.unusedVariables false
set_option linter.unusedSimpArgs false
namespace Go.Proofs.Ytkhbbjfdbbnojaa
open Go Go.AM
namespace Pa

/-- A page, one of its cells put otherwise. -/
def setC (p : Pg) (j : Nat) (v : Int) : Pg :=
  match j with
  | 0 => (v, p.2.1, p.2.2.1, p.2.2.2)
  | 1 => (p.1, v, p.2.2.1, p.2.2.2)
  | 2 => (p.1, p.2.1, v, p.2.2.2)
  | _ => (p.1, p.2.1, p.2.2.1, v)
theorem encG_set (p : Pg) {j : Nat} (h : j < 4) (v : Int) : (encG p).set j (Ia v) = encG (setC p j v) := by
  obtain ⟨x, y, z, w⟩ := p
  match j, h with
  | 0, _ => rfl
  | 1, _ => rfl
  | 2, _ => rfl
  | 3, _ => rfl
theorem arrI (id : Nat) {j : Nat} (h : j < 4) : idxArr 1 4 (.rptr id 0 0) (I j) = some (.rptr id 0 j) := by
  simp only [idxArr]
  rw [if_pos ⟨by omega, by omega⟩]
  simp
theorem arrLdC (H : Heap) (p : Pg) {j : Nat} (h : j < 4) : ld false 1 (.rptr H.length 0 j) (H ++ [.row 0 1 (encG p)]) = some (I (cG p j)) := by
  rw [ld_row (atE H _), encG_get _ h]
theorem arrStC (H : Heap) (p : Pg) {j : Nat} (h : j < 4) (v : Int) : stA 1 (.rptr H.length 0 j) (I v) [] (H ++ [.row 0 1 (encG p)]) = some (H ++ [.row 0 1 (encG (setC p j v))]) := by
  rw [stA_row (x := Ia v) (atE H _) (by rw [len4]; exact h), encG_set p h]
  simp

section
variable {s : SD}

theorem ent41_no (hl : ∀ d ∈ s.R, d.2.2.length < 2 ^ 63) {r a : Int} (v : Int) (h : ask s r a ≠ 0) : O.ent 41 [avS s, I r, I a, I v] [] [] = some ([avS eS, I 0, I (ask s r a)], []) := by
  have b1 : boxO [] (AV.cells (avS s)) [] = some (.ptr 0 0, [bxS s]) := boxS s []
  have b2 : boxO [] [.p nilS, .p nilS, .p nilS] [bxS s] = some (.ptr 1 0, [bxS s, .box [.p nilS, .p nilS, .p nilS]]) := rfl
  have g0 : ([bxS s, .box [.p nilS, .p nilS, .p nilS]] : Heap)[0]? = some (bxS s) := rfl
  have c := call102 hl r a [] [bxS s, .box [.p nilS, .p nilS, .p nilS]]
  have bz : buildA [.p nilS, .p nilS, .p nilS] [] = some (.agg [.p nilS, .p nilS, .p nilS]) := rfl
  have s1 : stA 3 (.ptr 1 0) (.agg [.p nilS, .p nilS, .p nilS]) [] [bxS s, .box [.p nilS, .p nilS, .p nilS]] = some [bxS s, .box [.p nilS, .p nilS, .p nilS]] := rfl
  have l1 : ld true 3 (.ptr 1 0) [bxS s, .box [.p nilS, .p nilS, .p nilS]] = some (.agg [.p nilS, .p nilS, .p nilS]) := rfl
  rw [f41_eq]
  simp only [b1, b2, ldS0 g0, c, h, bz, s1, l1, obs, oms, bin_add, bin_sub, bin_lss, bin_leq, bin_gtr, bin_geq, bin_eql, bin_neq, bin_eqlB, bin_neqB, un_not, cond_B, gd_B, gd_undef, gdH_B, gdH_undef, pickA_B, extractA_tup, lenA_sl, lenA_row, fldA_fp, fldA_ptr, fldA_rptr, List.getElem?_cons_zero, List.getElem?_cons_succ, decide_true, decide_false, if_true, if_false, Bool.true_eq_false, Bool.false_eq_true, Bool.not_true, Bool.not_false]
  rfl

variable {H : Heap} {fx : List (Nat × AObj)} {ls : List Ll} {P : List Pg} {U : List Int} {R : List Dd} {oP oU oR : AV} {d : Nat}
theorem Own.push (h : Own H fx ls P U R oP oU oR) (os : Heap) : Own (H ++ os) fx ls P U R oP oU oR := ⟨h.cx.push os, h.p, h.u, h.r⟩
theorem Own.newB (h : Own H fx ls P U R oP oU oR) (xs : List AV) : Own (H ++ [.box xs]) ((H.length, .box xs) :: fx) ls P U R oP oU oR := ⟨h.cx.newBox xs, h.p, h.u, h.r⟩

theorem okU_bd (h : chk s = 0) : ∀ u ∈ s.U, 0 ≤ u ∧ u < 2 ^ 40 := by
  obtain ⟨hp, hr, hl, hR, hU⟩ := chk0 h
  intro u hu
  obtain ⟨j, hj, e⟩ := List.getElem_of_mem hu
  have h1 := (hU j (Nat.zero_le _) (by omega)).1
  rw [List.getElem?_eq_getElem hj, e, Option.some.injEq] at h1
  have h2 := cnt_le (ints s.R) (j : Int)
  have h3 := flat_le (m := 40) hR (by simpa [ints] using hr)
  omega

theorem frU_bd {U : List Int} (h : ∀ u ∈ U, 0 ≤ u ∧ u < 2 ^ 40) (p : Pg) : ∀ u ∈ frU U p, 0 ≤ u ∧ u < 2 ^ 40 := by
  unfold frU
  intro u hu
  split at hu
  · exact h u hu
  · split at hu
    · exact h u hu
    · rcases List.mem_append.mp hu with e | e
      · exact h u e
      · simp at e; subst e; omega
theorem frN_lt {U : List Int} (p : Pg) : frN U p < (frU U p).length := by
  unfold frN frU
  split
  · omega
  · split
    · omega
    · have := List.idxOf_le_length (a := (0 : Int)) (l := U)
      simp
      omega
theorem frU_ge (U : List Int) (p : Pg) : U.length ≤ (frU U p).length := by
  unfold frU
  split
  · omega
  · split
    · omega
    · simp

/-- What pages.Set answers where what is asked for is there. -/
def SetRes (P : List Pg) (U : List Int) (R : List (List Int)) (row : List Int) (a : Nat) (x : Int) (t : SD) (k f : Int) : Prop :=
  if cG (pgOf P (row.getD (a / 4) 0)) (a % 4) = x then SetEnd P U R row t k f
  else SetEnd (frP P U (setC (pgOf P (row.getD (a / 4) 0)) (a % 4) x)) (frU U (setC (pgOf P (row.getD (a / 4) 0)) (a % 4) x)) R (row.set (a / 4) (frN U (setC (pgOf P (row.getD (a / 4) 0)) (a % 4) x))) t k f

theorem ent41_yes (hk : Kns s) (hm : Sm s) {v a : Nat} (x : Int) (h : ask s v a = 0) (hc : chk s = 0) (ha64 : a < 64) (hv : v < s.R.length) (h16 : s.R[v].2.2.length = 16) :
    ∃ t k f, O.ent 41 [avS s, I v, I a, I x] [] [] = some ([avS t, I k, I f], []) ∧ SetRes s.P s.U (ints s.R) s.R[v].2.2 a x t k f := by
  obtain ⟨hp, hr, hul, hR, hU⟩ := chk0 hc
  have hil : (ints s.R).length = s.R.length := by simp [ints]
  have hl61 : ∀ d ∈ s.R, d.2.2.length < 2 ^ 63 := fun d hd => by have := hm.l d hd; omega
  have hmem : s.R[v].2.2 ∈ ints s.R := by
    have : (ints s.R)[v]'(by omega) = s.R[v].2.2 := by simp [ints]
    exact this ▸ List.getElem_mem _
  have hrow := (hR _ hmem).2
  have hi : a / 4 < s.R[v].2.2.length := by omega
  have hj : a % 4 < 4 := Nat.mod_lt _ (by omega)
  have hxx : s.R[v].2.2[a / 4] < s.P.length := by have := (hrow _ (List.getElem_mem hi)).2; omega
  have b1 : boxO [] (AV.cells (avS s)) [] = some (.ptr 0 0, [bxS s]) := boxS s []
  have b2 : boxO [] [.p nilS, .p nilS, .p nilS] [bxS s] = some (.ptr 1 0, [bxS s, .box [.p nilS, .p nilS, .p nilS]]) := rfl
  have g0 : ([bxS s, .box [.p nilS, .p nilS, .p nilS]] : Heap)[0]? = some (bxS s) := rfl
  have c2 := call102 hl61 v a [] [bxS s, .box [.p nilS, .p nilS, .p nilS]]
  rw [h] at c2
  obtain ⟨oP, oU, oR, R', H1, e104, hn1, h1, hR'⟩ := ent104 hk hm ((cellsS s).map .p) [.p nilS, .p nilS, .p nilS]
  have c104 := callA_keep (cfg := cfg) (lo := []) (g := 104) rfl e104
  have hR'l : R'.length = s.R.length := by have := congrArg List.length hR'; simpa [ints] using this
  have b3 : boxO [] [.p nilS, .p nilS, .p nilS] H1 = some (.ptr H1.length 0, H1 ++ [.box [.p nilS, .p nilS, .p nilS]]) := boxO_p [nilS, nilS, nilS] H1
  have hleaf : [oP, oU, oR].all AV.leaf = true := leaf3 (h1.cx.lst (lP oP s.P) (by simp)) (h1.cx.lst (lI oU s.U) (by simp)) (h1.cx.lst (lR oR R') (by simp))
  have s3 := stBox3 (H := H1 ++ [.box [.p nilS, .p nilS, .p nilS]]) (id := H1.length) (atE H1 _) hleaf
  have e3 : (H1 ++ [AObj.box [.p nilS, .p nilS, .p nilS]]).set H1.length (.box [oP, oU, oR]) = H1 ++ [.box [oP, oU, oR]] := by simp
  rw [e3] at s3
  have h2 := h1.newB [oP, oU, oR]
  have hd1 : 1 ≠ H1.length := h1.cx.lt (1, .box [.p nilS, .p nilS, .p nilS]) (by simp)
  have hd : ∀ q ∈ [(0, AObj.box ((cellsS s).map .p)), (1, .box [.p nilS, .p nilS, .p nilS])], q.1 ≠ H1.length := h1.cx.lt
  have hn2 : NH (H1 ++ [.box [oP, oU, oR]]) := hn1.push (NH.nil.cons rfl)
  generalize hH2 : H1 ++ [AObj.box [oP, oU, oR]] = H2 at h2 hn2 s3
  have gs2 : H2[0]? = some (bxS s) := h2.cx.box (0, (cellsS s).map .p) (by simp)
  obtain ⟨oX, os, hcl⟩ := clone93 (nl := s.R[v].1) (tg := s.R[v].2.1) (l := s.R[v].2.2) (hk.r _ (List.getElem_mem hv)) (hm.l _ (List.getElem_mem hv)) H2.length
  have c93 := hcl.callN rfl rfl hn2 []
  obtain ⟨ix, gx, eX⟩ := hcl.rn.row (by omega)
  have hx3 := (hcl.cx rfl h2.cx).perm (List.perm_middle (l₁ := [lR oR R', lP oP s.P, lI oU s.U]) (l₂ := [])).symm
  have h3 : Own (H2 ++ os) ((H1.length, .box [oP, oU, oR]) :: [(0, .box ((cellsS s).map .p)), (1, .box [.p nilS, .p nilS, .p nilS])]) [lI oX s.R[v].2.2] s.P s.U R' oP oU oR := ⟨hx3, h2.p, h2.u, h2.r⟩
  subst eX
  generalize hH3 : H2 ++ os = H3 at h3 c93
  have gs3 : H3[0]? = some (bxS s) := h3.cx.box (0, (cellsS s).map .p) (by simp)
  have c103 := call103 (a := a) hl61 hv hi hxx [] H3
  have m1 := arrNewG H3
  have m2 := arrStG H3 [] (pgOf s.P s.R[v].2.2[a / 4])
  have hrm : bin .rem .int (I a) (I 4) = some (I (a % 4 : Nat)) := rem_nat .i64 a 4 (by omega)
  have hq : bin .quo .int (I a) (I 4) = some (I (a / 4 : Nat)) := by
    have := quo_nat .i64 a 4 (by omega)
    rw [wrap_id (by omega)] at this
    exact this
  have m3 := arrI H3.length hj
  have m4 := arrLdC H3 (pgOf s.P s.R[v].2.2[a / 4]) hj
  have hgd : s.R[v].2.2.getD (a / 4) 0 = s.R[v].2.2[a / 4] := by simp [List.getD, hi]
  have hR40 : R'.length ≤ 40 := by omega
  have h1m : (1, AObj.box [.p nilS, .p nilS, .p nilS]) ∈ [(0, AObj.box ((cellsS s).map .p)), (1, .box [.p nilS, .p nilS, .p nilS])] := by simp
  by_cases hc0 : cG (pgOf s.P s.R[v].2.2[a / 4]) (a % 4) = x
  · have h4 := h3.push [.row 0 1 (encG (pgOf s.P s.R[v].2.2[a / 4]))]
    have e0 : s.U = addC s.U (s.R[v].2.2.take 0) := by rw [List.take_zero, addC_nil]
    have h4' : Own (H3 ++ [.row 0 1 (encG (pgOf s.P s.R[v].2.2[a / 4]))]) ((H1.length, .box [oP, oU, oR]) :: [(0, .box ((cellsS s).map .p)), (1, .box [.p nilS, .p nilS, .p nilS])]) [lI (.row ix gx 0 s.R[v].2.2.length) s.R[v].2.2] s.P (addC s.U (s.R[v].2.2.take 0)) R' oP oU oR := by rw [← e0]; exact h4
    obtain ⟨t, k, f, fin, hf⟩ := loop41 hd hd1 h1m (by intro q hq; simp at hq; rcases hq with e | e <;> subst e <;> simp) hR40 (okU_bd hc) (by omega) (fun y hy => by have := (hrow y hy).2; omega) s.R[v].2.2.length 0 _ rfl (by omega) h4'
    refine ⟨t, k, f, ?_, ?_⟩
    · rw [f41_eq]
      simp only [b1, b2, ldS0 g0, c2, c104, ret, b3, s3, ldR0 gs2, idxW hv, ldW hv, c93, ldS0 gs3, c103, m1, m2, hrm, m3, m4, hc0, L41_23_eq, obs, oms, bin_add, bin_sub, bin_lss, bin_leq, bin_gtr, bin_geq, bin_eql, bin_neq, bin_eqlB, bin_neqB, un_not, cond_B, gd_B, gd_undef, gdH_B, gdH_undef, pickA_B, extractA_tup, lenA_sl, lenA_row, fldA_fp, fldA_ptr, fldA_rptr, List.getElem?_cons_zero, List.getElem?_cons_succ, decide_true, decide_false, if_true, if_false, Bool.true_eq_false, Bool.false_eq_true, Bool.not_true, Bool.not_false]
      exact fin
    · unfold SetRes
      rw [hgd, if_pos hc0, ← hR']
      exact hf
  · have m5 := arrStC H3 (pgOf s.P s.R[v].2.2[a / 4]) hj x
    have m6 := arrLdG H3 (setC (pgOf s.P s.R[v].2.2[a / 4]) (a % 4) x)
    have h4 := h3.push [.row 0 1 (encG (setC (pgOf s.P s.R[v].2.2[a / 4]) (a % 4) x))]
    obtain ⟨oP', oU', H5, e105, h5⟩ := ent105 h4 hd hul hp (setC (pgOf s.P s.R[v].2.2[a / 4]) (a % 4) x)
    have c105 := callA_keep (cfg := cfg) (lo := []) (g := 105) rfl e105
    have cX := Cx.cell [lR oR R', lP oP' (frP s.P s.U (setC (pgOf s.P s.R[v].2.2[a / 4]) (a % 4) x)), lI oU' (frU s.U (setC (pgOf s.P s.R[v].2.2[a / 4]) (a % 4) x))] h5.cx hi
    obtain ⟨eS2, hS2⟩ := cX.2.2.2 (Ia (frN s.U (setC (pgOf s.P s.R[v].2.2[a / 4]) (a % 4) x))) []
    generalize hp' : setC (pgOf s.P s.R[v].2.2[a / 4]) (a % 4) x = p' at *
    have hlen : (s.R[v].2.2.set (a / 4) (frN s.U p')).length = s.R[v].2.2.length := List.length_set
    have lx : lI (.row ix gx 0 s.R[v].2.2.length) (s.R[v].2.2.set (a / 4) (frN s.U p')) = (.row ix gx 0 s.R[v].2.2.length, 1, s.R[v].2.2.length, (s.R[v].2.2.map Ia).set (a / 4) (Ia (frN s.U p'))) := by
      rw [lI, hlen, List.map_set]
    have e0 : frU s.U p' = addC (frU s.U p') ((s.R[v].2.2.set (a / 4) (frN s.U p')).take 0) := by rw [List.take_zero, addC_nil]
    have h6 : Own (H5.set ix (.row gx 1 ((s.R[v].2.2.map Ia).set (a / 4) (Ia (frN s.U p'))))) ((H1.length, .box [oP', oU', oR]) :: [(0, .box ((cellsS s).map .p)), (1, .box [.p nilS, .p nilS, .p nilS])]) [lI (.row ix gx 0 (s.R[v].2.2.set (a / 4) (frN s.U p')).length) (s.R[v].2.2.set (a / 4) (frN s.U p'))] (frP s.P s.U p') (addC (frU s.U p') ((s.R[v].2.2.set (a / 4) (frN s.U p')).take 0)) R' oP' oU' oR :=
      ⟨by rw [← e0, hlen, lx]; exact hS2, h5.p, by rw [← e0]; exact h5.u, h5.r⟩
    obtain ⟨t, k, f, fin, hf⟩ := loop41 hd hd1 h1m (by intro q hq; simp at hq; rcases hq with e | e <;> subst e <;> simp) hR40 (frU_bd (okU_bd hc) p') (by omega) (fun y hy => by
      have h7 := frN_lt (U := s.U) p'
      have h8 := frU_ge s.U p'
      rcases List.mem_or_eq_of_mem_set hy with e | e
      · have := (hrow y e).2; omega
      · rw [e]; exact h7) (s.R[v].2.2.set (a / 4) (frN s.U p')).length 0 _ rfl (by omega) h6
    rw [hlen] at fin
    refine ⟨t, k, f, ?_, ?_⟩
    · rw [f41_eq]
      simp only [b1, b2, ldS0 g0, c2, c104, ret, b3, s3, ldR0 gs2, idxW hv, ldW hv, c93, ldS0 gs3, c103, m1, m2, hrm, m3, m4, hc0, m5, hq, m6, hp', c105, cX.1, eS2, L41_23_eq, obs, oms, bin_add, bin_sub, bin_lss, bin_leq, bin_gtr, bin_geq, bin_eql, bin_neq, bin_eqlB, bin_neqB, un_not, cond_B, gd_B, gd_undef, gdH_B, gdH_undef, pickA_B, extractA_tup, lenA_sl, lenA_row, fldA_fp, fldA_ptr, fldA_rptr, List.getElem?_cons_zero, List.getElem?_cons_succ, decide_true, decide_false, if_true, if_false, Bool.true_eq_false, Bool.false_eq_true, Bool.not_true, Bool.not_false]
      exact fin
    · unfold SetRes
      rw [hgd, if_neg hc0, hp', ← hR']
      exact hf
end
end Pa
end Go.Proofs.Ytkhbbjfdbbnojaa
