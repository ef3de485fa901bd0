import Derived.Test.YtangmjeafnkfaaaLinS
set_option linter.unusedVariables false
set_option linter.unusedSimpArgs false
namespace Go.Proofs.Ytangmjeafnkfaaa
open Go Go.AM
namespace Lin
section
variable {nl : Option Bool} {tg : Bool} {l : List Dl}

/-- What a line reads: who put it last. -/
def oN : Option Nat → List Int
  | none => []
  | some k => [(k : Int)]
def uses (l : List Dl) (i : Nat) : List Int := if (l.getD i dd).2.1 < 3 then oN (lastI l i (l.getD i dd).2.2.1) ++ oN (lastI l i (l.getD i dd).2.2.2) else []
theorem uses_eq {i : Nat} (h : i < l.length) : uses l i = if l[i].2.1 < 3 then oN (lastI l i l[i].2.2.1) ++ oN (lastI l i l[i].2.2.2) else [] := by
  have : l.getD i dd = l[i] := by simp [List.getD, h]
  unfold uses
  rw [this]
theorem oN_lt {i : Nat} {n : Int} : ∀ x ∈ oN (lastI l i n), ∃ k : Nat, x = k ∧ k < i := by
  intro x hx
  cases h : lastI l i n with
  | none => rw [h] at hx; cases hx
  | some k =>
    rw [h] at hx
    simp only [oN, List.mem_singleton] at hx
    exact ⟨k, hx, lastI_lt i n k h⟩
theorem uses_lt {i : Nat} : ∀ x ∈ uses l i, ∃ k : Nat, x = k ∧ k < i := by
  intro x hx
  unfold uses at hx
  split at hx
  · rcases List.mem_append.mp hx with h | h <;> exact oN_lt x h
  · cases hx

/-- Which lines are hung on, from a place down. -/
def mk (us : Nat → List Int) (a : Nat) : Nat → Nat → Bool
  | 0, j => decide (j = a)
  | c + 1, j => mk us a c j || (mk us a c (a - c) && (us (a - c)).contains (j : Int))

def low (us : Nat → List Int) : Prop := ∀ i, ∀ x ∈ us i, ∃ k : Nat, x = k ∧ k < i

theorem mk_keep {us : Nat → List Int} (hus : low us) {a c j : Nat} (hj : a - c ≤ j) : mk us a (c + 1) j = mk us a c j := by
  rw [mk]
  have : (us (a - c)).contains (j : Int) = false := by
    rw [List.contains_eq_any_beq]
    rw [List.any_eq_false]
    intro x hx
    obtain ⟨k, rfl, hk⟩ := hus _ x hx
    simp
    omega
  rw [this]
  simp

theorem mk_high {us : Nat → List Int} (hus : low us) {a : Nat} : ∀ (c j : Nat), a < j → mk us a c j = false := by
  intro c
  induction c with
  | zero => intro j hj; simp [mk]; omega
  | succ c ih => intro j hj; rw [mk_keep hus (by omega), ih j hj]

/-! ### The rows of truths -/
def bl (us : Nat → List Int) (a n c : Nat) : List Bool := (List.range n).map fun j => mk us a c j
theorem bl_len (us : Nat → List Int) (a n c : Nat) : (bl us a n c).length = n := by simp [bl]
theorem bl_get (us : Nat → List Int) (a : Nat) {n c j : Nat} (h : j < n) : ((bl us a n c).map Bc)[j]? = some (Bc (mk us a c j)) := by simp [bl, h]

/-- Truths, and so many of the places of a list beside. -/
def blp (us : Nat → List Int) (a n c : Nat) (xs : List Int) : List Bool := (List.range n).map fun j => mk us a c j || xs.contains (j : Int)
theorem blp_nil (us : Nat → List Int) (a n c : Nat) : blp us a n c [] = bl us a n c := by simp [blp, bl]
theorem blp_get (us : Nat → List Int) (a : Nat) {n c j : Nat} (xs : List Int) (h : j < n) : ((blp us a n c xs).map Bc)[j]? = some (Bc (mk us a c j || xs.contains (j : Int))) := by simp [blp, h]
theorem blp_set (us : Nat → List Int) (a : Nat) {n c k : Nat} (xs : List Int) : ((blp us a n c xs).map Bc).set k (Bc true) = (blp us a n c (xs ++ [(k : Int)])).map Bc := by
  rw [← List.map_set]
  congr 1
  refine List.ext_getElem (by simp [blp]) fun j h1 h2 => ?_
  simp only [List.getElem_set, blp, List.getElem_map, List.getElem_range, List.contains_eq_any_beq, List.any_append, List.any_cons, List.any_nil, Bool.or_false]
  by_cases e : k = j
  · subst e; simp
  · have : ((j : Int) == (k : Int)) = false := by simp; omega
    simp [e, this]
theorem blp_next (us : Nat → List Int) {a n c : Nat} (h : mk us a c (a - c) = true) : blp us a n c (us (a - c)) = bl us a n (c + 1) := by
  unfold blp bl
  refine List.map_congr_left fun j _ => ?_
  rw [mk, h, Bool.true_and]
theorem bl_skip (us : Nat → List Int) {a n c : Nat} (h : mk us a c (a - c) = false) : bl us a n c = bl us a n (c + 1) := by
  unfold bl
  refine List.map_congr_left fun j _ => ?_
  rw [mk, h, Bool.false_and, Bool.or_false]
theorem bl_first (us : Nat → List Int) {a n : Nat} : ((List.replicate n (Bc false)).set a (Bc true)) = (bl us a n 0).map Bc := by
  refine List.ext_getElem (by simp [bl]) fun j h1 h2 => ?_
  simp only [List.getElem_set, bl, List.getElem_map, List.getElem_range, mk, List.getElem_replicate]
  by_cases e : a = j
  · subst e; simp
  · have : ¬ j = a := fun h => e h.symm
    simp [e, this]

/-! ### The lines that are left -/
def sel (l : List Dl) (is : List Nat) : List PV := is.flatMap fun i => enc_DLet (l.getD i dd)
theorem sel_len (is : List Nat) : (sel l is).length = is.length * 4 := rows_length (fun i => len_DLet _) is

/-! ### Back -/
variable {us : Nat → List Int} {ds : List Dd} {n1 : Option Bool} {t1 : Bool}

theorem ints_len (ds : List Dd) : (ints ds).length = ds.length := by simp [ints]

theorem loop18 (hus : low us) (hd : ints ds = (List.range ds.length).map us) (hn : ds.length ≤ 200) (hs : ∀ i, (us i).length ≤ 2) {a c : Nat} (hc : c ≤ a) (ha : a < ds.length) {id g : Nat} {n2 : Option Bool} {t2 : Bool} (lo : List Nat) : ∀ (r j : Nat) (H : Heap), (us (a - c)).length - j = r → j ≤ (us (a - c)).length →
    Cx H [] [(.row id g 0 ds.length, 1, ds.length, (blp us a ds.length c ((us (a - c)).take j)).map Bc)] →
    ∃ H', L99_18 [W n1 t1 ds, .row id g 0 ds.length, I ((a : Int) - c), V n2 t2 (us (a - c)), I (us (a - c)).length, I j] lo H = L99_10 [W n1 t1 ds, .row id g 0 ds.length, I ((a : Int) - c - 1)] lo H' ∧
      Cx H' [] [(.row id g 0 ds.length, 1, ds.length, (blp us a ds.length c (us (a - c))).map Bc)] := by
  intro r
  have h2 := hs (a - c)
  induction r with
  | zero =>
    intro j H hr hj h
    have : j = (us (a - c)).length := by omega
    subst this
    rw [List.take_length] at h
    refine ⟨H, ?_, h⟩
    rw [L99_18_eq]
    simp only [bin_lss, Int.lt_irrefl, obs, oms, bin_add, bin_sub, bin_lss, bin_leq, bin_gtr, bin_geq, bin_eql, bin_neq, bin_eqlB, bin_neqB, un_not, cond_B, gd_B, gd_undef, gdH_B, gdH_undef, pickA_B, extractA_tup, lenA_sl, lenA_row, fldA_fp, fldA_ptr, fldA_rptr, List.getElem?_cons_zero, List.getElem?_cons_succ, decide_true, decide_false, if_true, if_false, Bool.true_eq_false, Bool.false_eq_true, Bool.not_true, Bool.not_false]
    rw [L99_13_eq]
    simp only [bin_sub, obs]
    rw [wrap_id (by omega)]
  | succ r ih =>
    intro j H hr hj h
    have hj' : j < (us (a - c)).length := by omega
    have hlt : (j : Int) < (us (a - c)).length := by omega
    obtain ⟨k, hk, hk2⟩ := hus _ _ (List.getElem_mem hj')
    obtain ⟨e1, e2, _, e4⟩ := Cx.cell [] h (j := k) (by omega)
    obtain ⟨s1, s2⟩ := e4 (Bc true) lo
    have ht : (us (a - c)).take (j + 1) = (us (a - c)).take j ++ [(k : Int)] := by rw [← hk, List.take_append_getElem hj']
    rw [blp_set, ← ht] at s1 s2
    obtain ⟨H', e, c'⟩ := ih (j + 1) _ (by omega) (by omega) s2
    refine ⟨H', ?_, c'⟩
    rw [L99_18_eq]
    simp only [bin_lss, hlt, idxV hj', ldV hj', hk, e1, s1, bin_add, obs, oms, bin_add, bin_sub, bin_lss, bin_leq, bin_gtr, bin_geq, bin_eql, bin_neq, bin_eqlB, bin_neqB, un_not, cond_B, gd_B, gd_undef, gdH_B, gdH_undef, pickA_B, extractA_tup, lenA_sl, lenA_row, fldA_fp, fldA_ptr, fldA_rptr, List.getElem?_cons_zero, List.getElem?_cons_succ, decide_true, decide_false, if_true, if_false, Bool.true_eq_false, Bool.false_eq_true, Bool.not_true, Bool.not_false]
    rw [wrap_id (by omega), nxt]
    exact e

theorem loop10 (hus : low us) (hd : ints ds = (List.range ds.length).map us) (hn : ds.length ≤ 200) (hs : ∀ i, (us i).length ≤ 2) {a : Nat} (ha : a < ds.length) {id g : Nat} (lo : List Nat) : ∀ (r c : Nat) (H : Heap), a + 1 - c = r → c ≤ a + 1 →
    Cx H [] [(.row id g 0 ds.length, 1, ds.length, (bl us a ds.length c).map Bc)] →
    ∃ n t H', L99_10 [W n1 t1 ds, .row id g 0 ds.length, I ((a : Int) - c)] lo H = some ([.p (.sl n t ds.length ((bl us a ds.length (a + 1)).map Bc))], H') := by
  intro r
  induction r with
  | zero =>
    intro c H hr hc h
    have : c = a + 1 := by omega
    subst this
    obtain ⟨n, t, H', e⟩ := h.hd.leave1 lo
    refine ⟨n, t, H', ?_⟩
    have g1 : ¬ (0 : Int) ≤ (a : Int) - (a + 1 : Nat) := by omega
    rw [L99_10_eq]
    simp only [bin_geq, g1, obs, oms, bin_add, bin_sub, bin_lss, bin_leq, bin_gtr, bin_geq, bin_eql, bin_neq, bin_eqlB, bin_neqB, un_not, cond_B, gd_B, gd_undef, gdH_B, gdH_undef, pickA_B, extractA_tup, lenA_sl, lenA_row, fldA_fp, fldA_ptr, fldA_rptr, List.getElem?_cons_zero, List.getElem?_cons_succ, decide_true, decide_false, if_true, if_false, Bool.true_eq_false, Bool.false_eq_true, Bool.not_true, Bool.not_false]
    exact e
  | succ r ih =>
    intro c H hr hc h
    have hac : a - c < ds.length := by omega
    have g1 : (0 : Int) ≤ (a : Int) - c := by omega
    have gi : (a : Int) - c = ((a - c : Nat) : Int) := by omega
    obtain ⟨e1, e2, _, _⟩ := Cx.cell [] h hac
    rw [bl_get us a hac] at e2
    have e2' : ld false 1 (.rptr id g (a - c)) H = some (B (mk us a c (a - c))) := e2
    rw [L99_10_eq]
    simp only [bin_geq, g1, gi, e1, e2', un_not, obs, oms, bin_add, bin_sub, bin_lss, bin_leq, bin_gtr, bin_geq, bin_eql, bin_neq, bin_eqlB, bin_neqB, un_not, cond_B, gd_B, gd_undef, gdH_B, gdH_undef, pickA_B, extractA_tup, lenA_sl, lenA_row, fldA_fp, fldA_ptr, fldA_rptr, List.getElem?_cons_zero, List.getElem?_cons_succ, decide_true, decide_false, if_true, if_false, Bool.true_eq_false, Bool.false_eq_true, Bool.not_true, Bool.not_false]
    cases hm : mk us a c (a - c) with
    | false =>
      rw [bl_skip us hm] at h
      obtain ⟨n, t, H', e⟩ := ih (c + 1) H (by omega) (by omega) h
      refine ⟨n, t, H', ?_⟩
      simp only [obs, oms, bin_add, bin_sub, bin_lss, bin_leq, bin_gtr, bin_geq, bin_eql, bin_neq, bin_eqlB, bin_neqB, un_not, cond_B, gd_B, gd_undef, gdH_B, gdH_undef, pickA_B, extractA_tup, lenA_sl, lenA_row, fldA_fp, fldA_ptr, fldA_rptr, List.getElem?_cons_zero, List.getElem?_cons_succ, decide_true, decide_false, if_true, if_false, Bool.true_eq_false, Bool.false_eq_true, Bool.not_true, Bool.not_false]
      rw [L99_13_eq]
      simp only [bin_sub, obs]
      rw [wrap_id (by omega), show ((a - c : Nat) : Int) - 1 = (a : Int) - (c + 1 : Nat) by omega]
      exact e
    | true =>
      rw [← blp_nil] at h
      have hint : ds[a - c].2.2 = us (a - c) := by
        have : (ints ds)[a - c]? = ((List.range ds.length).map us)[a - c]? := by rw [hd]
        simpa [ints, hac] using this
      obtain ⟨H1, e, c1⟩ := loop18 (n1 := n1) (t1 := t1) (n2 := ds[a - c].1) (t2 := ds[a - c].2.1) hus hd hn hs (c := c) (by omega) ha lo _ 0 H rfl (by omega) h
      rw [blp_next us hm] at c1
      obtain ⟨n, t, H', e3⟩ := ih (c + 1) H1 (by omega) (by omega) c1
      refine ⟨n, t, H', ?_⟩
      simp only [idxW hac, fldA_fp, Nat.add_zero, ldW hac, hint, obs, oms, bin_add, bin_sub, bin_lss, bin_leq, bin_gtr, bin_geq, bin_eql, bin_neq, bin_eqlB, bin_neqB, un_not, cond_B, gd_B, gd_undef, gdH_B, gdH_undef, pickA_B, extractA_tup, lenA_sl, lenA_row, fldA_fp, fldA_ptr, fldA_rptr, List.getElem?_cons_zero, List.getElem?_cons_succ, decide_true, decide_false, if_true, if_false, Bool.true_eq_false, Bool.false_eq_true, Bool.not_true, Bool.not_false]
      rw [show (a : Int) - c - 1 = (a : Int) - (c + 1 : Nat) by omega, gi] at e
      rw [show (I 0) = I (0 : Nat) from rfl, e]
      exact e3

theorem call99 (hus : low us) (hd : ints ds = (List.range ds.length).map us) (hn : ds.length ≤ 200) (hs : ∀ i, (us i).length ≤ 2) {a : Nat} (ha : a < ds.length) (lo : List Nat) (H : Heap) :
    ∃ n t, callA cfg O 99 [W n1 t1 ds, I a] lo H = some (.p (.sl n t ds.length ((bl us a ds.length (a + 1)).map Bc)), H) := by
  have hC : Cx ([] ++ [.row 0 1 (List.replicate ds.length (Bc false))]) [] [(.row 0 0 0 ds.length, 1, ds.length, List.replicate ds.length (Bc false))] := (Cx.nil []).newRow (sz := 1) (m := ds.length) (by simp)
  obtain ⟨e1, e2, _, e4⟩ := Cx.cell [] hC ha
  obtain ⟨s1, s2⟩ := e4 (Bc true) []
  rw [bl_first us] at s1 s2
  obtain ⟨n, t, H', e⟩ := loop10 (n1 := n1) (t1 := t1) hus hd hn hs ha [] _ 0 _ rfl (by omega) s2
  refine ⟨n, t, callA_args (H' := H') (rs := [_]) rfl rfl ?_ rfl⟩
  rw [f99_eq]
  have hm : mkRow 1 1 [(.v (.bool false))] (I ds.length) (I ds.length) [] = some (.row 0 0 0 ds.length, [] ++ [.row 0 1 (List.replicate ds.length (Bc false))]) := by
    simp only [mkRow, asI, obs]
    rw [if_pos ⟨by omega, by omega, by simp only [room]; omega⟩]
    simp [zeros_one]
  simp only [lenA_sl, hm, e1, s1, oms, obs]
  rw [show ((a : Int) - (0 : Nat)) = a by omega] at e
  exact e

/-! ### The list of uses -/
theorem look2 {i : Nat} {id c : Nat} {kvs : List (Kv Int)} {H : Heap} (hm : H[id]? = some (mI kvs c)) (hf : ∀ n, aget kvs n = (lastI l i n).map fun k => I k) (n : Int) :
    lookA .int (I 0) true (.mp id) (I n) H = some (.tup [I (match lastI l i n with | some k => (k : Int) | none => 0), B (lastI l i n).isSome]) := by
  have := map_look2 key_int (z := I 0) hm n
  rw [this, hf]
  cases lastI l i n <;> rfl

theorem step16 {i : Nat} (hi : i < l.length) (hl : l.length ≤ 200) {id mid vid c j : Nat} {zs : List Int} (hj : j < zs.length) (hzs : zs.length ≤ 2) {kvs : List (Kv Int)} {H : Heap} {ps : List (AV × List Int)} {n2 : Option Bool} {t2 : Bool} (hps : ps.length = l.length) (hpl : (ps[i]'(by omega)).2.length ≤ 2)
    (h : Cx H [(id, .box (ps.map Prod.fst)), (mid, mI kvs c), (vid, bx l[i])] (ps.map gLl)) (hne : id ≠ mid ∧ id ≠ vid) (hf : ∀ n, aget kvs n = (lastI l i n).map fun k => I k) :
    ∃ (ps' : List (AV × List Int)) (H' : Heap), L120_16 [.mp mid, .bsl id l.length, I i, .ptr vid 0, L nl tg l, I l.length, I i, V n2 t2 zs, I zs.length, I j] [] H = L120_16 [.mp mid, .bsl id l.length, I i, .ptr vid 0, L nl tg l, I l.length, I i, V n2 t2 zs, I zs.length, I (j + 1 : Nat)] [] H' ∧
      Cx H' [(id, .box (ps'.map Prod.fst)), (mid, mI kvs c), (vid, bx l[i])] (ps'.map gLl) ∧ ps'.length = ps.length ∧
      ∀ m, (ps'.map Prod.snd)[m]? = if m = i then some ((ps[i]'(by omega)).2 ++ if l[i].2.1 < 3 then oN (lastI l i zs[j]) else []) else (ps.map Prod.snd)[m]? := by
  have hip : i < ps.length := by omega
  have hlt : (j : Int) < zs.length := by omega
  have hb : H[vid]? = some (bx l[i]) := h.at (by simp)
  have hm : H[mid]? = some (mI kvs c) := h.at (by simp)
  have nx : ∀ H, L120_27 [.mp mid, .bsl id l.length, I i, .ptr vid 0, L nl tg l, I l.length, I i, V n2 t2 zs, I zs.length, I j] [] H = L120_16 [.mp mid, .bsl id l.length, I i, .ptr vid 0, L nl tg l, I l.length, I i, V n2 t2 zs, I zs.length, I (j + 1 : Nat)] [] H := by
    intro H
    rw [L120_27_eq]
    simp only [bin_add, obs]
    rw [wrap_id (by omega), nxt]
  have same : ∀ m, (ps.map Prod.snd)[m]? = if m = i then some (ps[i].2 ++ []) else (ps.map Prod.snd)[m]? := by
    intro m
    split
    · rename_i e; subst e; simp [hip]
    · rfl
  rw [L120_16_eq]
  simp only [bin_lss, hlt, idxV hj, ldV hj, look2 hm hf, obs, oms, bin_add, bin_sub, bin_lss, bin_leq, bin_gtr, bin_geq, bin_eql, bin_neq, bin_eqlB, bin_neqB, un_not, cond_B, gd_B, gd_undef, gdH_B, gdH_undef, pickA_B, extractA_tup, lenA_sl, lenA_row, fldA_fp, fldA_ptr, fldA_rptr, List.getElem?_cons_zero, List.getElem?_cons_succ, decide_true, decide_false, if_true, if_false, Bool.true_eq_false, Bool.false_eq_true, Bool.not_true, Bool.not_false]
  cases hk : lastI l i zs[j] with
  | none =>
    simp only [Option.isSome_none, obs, oms, bin_add, bin_sub, bin_lss, bin_leq, bin_gtr, bin_geq, bin_eql, bin_neq, bin_eqlB, bin_neqB, un_not, cond_B, gd_B, gd_undef, gdH_B, gdH_undef, pickA_B, extractA_tup, lenA_sl, lenA_row, fldA_fp, fldA_ptr, fldA_rptr, List.getElem?_cons_zero, List.getElem?_cons_succ, decide_true, decide_false, if_true, if_false, Bool.true_eq_false, Bool.false_eq_true, Bool.not_true, Bool.not_false, nx]
    refine ⟨ps, H, rfl, h, rfl, ?_⟩
    have : (if l[i].2.1 < 3 then oN none else ([] : List Int)) = [] := by split <;> rfl
    rw [this]
    exact same
  | some k =>
    simp only [Option.isSome_some, ldB1 hb, obs, oms, bin_add, bin_sub, bin_lss, bin_leq, bin_gtr, bin_geq, bin_eql, bin_neq, bin_eqlB, bin_neqB, un_not, cond_B, gd_B, gd_undef, gdH_B, gdH_undef, pickA_B, extractA_tup, lenA_sl, lenA_row, fldA_fp, fldA_ptr, fldA_rptr, List.getElem?_cons_zero, List.getElem?_cons_succ, decide_true, decide_false, if_true, if_false, Bool.true_eq_false, Bool.false_eq_true, Bool.not_true, Bool.not_false]
    by_cases g : l[i].2.1 < 3
    · obtain ⟨o', H1, H2, q1, q2, q3⟩ := rr_app (x := (k : Int)) (lo := []) (l2 := []) (by simpa using h) (by simp; omega) (by simp) hip (by omega)
      rw [List.append_nil] at q3
      simp only [g, rr_idx hi, fldA_ptr, Nat.add_zero, rr_ld h hip, lit1, q1, q2, obs, oms, bin_add, bin_sub, bin_lss, bin_leq, bin_gtr, bin_geq, bin_eql, bin_neq, bin_eqlB, bin_neqB, un_not, cond_B, gd_B, gd_undef, gdH_B, gdH_undef, pickA_B, extractA_tup, lenA_sl, lenA_row, fldA_fp, fldA_ptr, fldA_rptr, List.getElem?_cons_zero, List.getElem?_cons_succ, decide_true, decide_false, if_true, if_false, Bool.true_eq_false, Bool.false_eq_true, Bool.not_true, Bool.not_false, nx]
      refine ⟨_, H2, rfl, q3, by simp, fun m => ?_⟩
      rw [List.map_set, List.getElem?_set]
      simp only [List.length_map, hip, oN]
      by_cases e : m = i
      · subst e; simp [hip]
      · have : ¬ i = m := fun h => e h.symm
        simp [e, this]
    · simp only [g, obs, oms, bin_add, bin_sub, bin_lss, bin_leq, bin_gtr, bin_geq, bin_eql, bin_neq, bin_eqlB, bin_neqB, un_not, cond_B, gd_B, gd_undef, gdH_B, gdH_undef, pickA_B, extractA_tup, lenA_sl, lenA_row, fldA_fp, fldA_ptr, fldA_rptr, List.getElem?_cons_zero, List.getElem?_cons_succ, decide_true, decide_false, if_true, if_false, Bool.true_eq_false, Bool.false_eq_true, Bool.not_true, Bool.not_false, nx]
      exact ⟨ps, H, rfl, h, rfl, same⟩

theorem loop120 (hl : l.length ≤ 200) {id mid : Nat} (hne : id ≠ mid) : ∀ (r i : Nat) (H : Heap) (kvs : List (Kv Int)) (c : Nat) (ps : List (AV × List Int)), l.length - i = r → i ≤ l.length → 0 < l.length →
    Cx H [(id, .box (ps.map Prod.fst)), (mid, mI kvs c)] (ps.map gLl) → WfM kvs c → (∀ n, aget kvs n = (lastI l i n).map fun k => I k) → ps.map Prod.snd = (List.range l.length).map (fun n => if n < i then uses l n else []) →
    ∃ t ds H', L120_10 [.mp mid, .bsl id l.length, L nl tg l, I l.length, I i] [] H = some ([W (some false) t ds], H') ∧ ints ds = (List.range l.length).map (uses l) := by
  intro r
  induction r with
  | zero =>
    intro i H kvs c ps hr hi h0 h hw hf hp
    have : i = l.length := by omega
    subst this
    have hlen : ps.length = l.length := by have := congrArg List.length hp; simpa using this
    obtain ⟨ds, H', e, e2⟩ := rr_frz h (by omega)
    have hd : ds.length = ps.length := by have := congrArg List.length e2; simpa [ints] using this
    refine ⟨false, ds, H', ?_, ?_⟩
    · rw [L120_10_eq]
      simp only [bin_lss, Int.lt_irrefl, obs, oms, bin_add, bin_sub, bin_lss, bin_leq, bin_gtr, bin_geq, bin_eql, bin_neq, bin_eqlB, bin_neqB, un_not, cond_B, gd_B, gd_undef, gdH_B, gdH_undef, pickA_B, extractA_tup, lenA_sl, lenA_row, fldA_fp, fldA_ptr, fldA_rptr, List.getElem?_cons_zero, List.getElem?_cons_succ, decide_true, decide_false, if_true, if_false, Bool.true_eq_false, Bool.false_eq_true, Bool.not_true, Bool.not_false]
      rw [hlen] at e hd
      simp only [leave, frzAll, e, obs, oms, W, hd]
    · rw [e2, hp]
      refine List.map_congr_left fun n hn => ?_
      rw [if_pos (List.mem_range.mp hn)]
  | succ r ih =>
    intro i H kvs c ps hr hi h0 h hw hf hp
    have hi' : i < l.length := by omega
    have hlen : ps.length = l.length := by have := congrArg List.length hp; simpa using this
    have hip : i < ps.length := by omega
    have hlt : (i : Int) < l.length := by omega
    have hb := new_at H (bx l[i])
    have c1 : Cx (H ++ [bx l[i]]) [(id, .box (ps.map Prod.fst)), (mid, mI kvs c), (H.length, bx l[i])] (ps.map gLl) := (h.newObj (bx l[i]) rfl).mono (fun q hq => by simp only [List.mem_cons, List.not_mem_nil, or_false] at hq ⊢; rcases hq with rfl | rfl | rfl <;> simp) (List.Sublist.refl _)
    have hne2 : id ≠ mid ∧ id ≠ H.length := ⟨hne, h.lt (id, .box (ps.map Prod.fst)) (by simp)⟩
    have hmid2 : mid ≠ H.length := h.lt (mid, mI kvs c) (by simp)
    have hpi : ∀ m, m < l.length → (ps.map Prod.snd)[m]? = some (if m < i then uses l m else []) := by
      intro m hm
      rw [hp]; simp [hm]
    have hpi0 : ps[i].2 = [] := by
      have := hpi i hi'
      simpa [hip] using this
    obtain ⟨ps1, H1, q1, c2, hl1, g1⟩ := step16 (nl := nl) (tg := tg) (j := 0) (zs := [l[i].2.2.1, l[i].2.2.2]) (n2 := some false) (t2 := true) hi' hl (by simp) (by simp) hlen (by rw [hpi0]; simp) c1 hne2 hf
    have hip1 : i < ps1.length := by omega
    have hpi1 : ps1[i].2 = if l[i].2.1 < 3 then oN (lastI l i l[i].2.2.1) else [] := by
      have := g1 i
      rw [if_pos rfl, hpi0] at this
      simpa [hip1] using this
    have hoN : ∀ n, (oN (lastI l i n)).length ≤ 1 := by intro n; cases lastI l i n <;> simp [oN]
    obtain ⟨ps2, H2, q2, c3, hl2, g2⟩ := step16 (nl := nl) (tg := tg) (j := 1) (zs := [l[i].2.2.1, l[i].2.2.2]) (n2 := some false) (t2 := true) hi' hl (by simp) (by simp) (by omega) (by rw [hpi1]; have := hoN l[i].2.2.1; split <;> simp <;> omega) c2 hne2 hf
    have hb2 : H2[H.length]? = some (bx l[i]) := c3.at (by simp)
    have hm2 : H2[mid]? = some (mI kvs c) := c3.at (by simp)
    have e5 := map_put key_int hm2 hw l[i].1 (v := I i) (lo := []) (ok_ints [] mid _ _)
    have c4 : Cx H2 [(mid, mI kvs c), (id, .box (ps2.map Prod.fst))] (ps2.map gLl) := c3.mono (fun q hq => by simp only [List.mem_cons, List.not_mem_nil, or_false] at hq ⊢; rcases hq with rfl | rfl <;> simp) (List.Sublist.refl _)
    have c5 := c4.setObj (o' := mI (aput kvs l[i].1 (I i) c) (if (aget kvs l[i].1).isSome then c else c + 1)) (by simp <;> omega) rfl
    have c6 : Cx (H2.set mid (mI (aput kvs l[i].1 (I i) c) (if (aget kvs l[i].1).isSome then c else c + 1))) [(id, .box (ps2.map Prod.fst)), (mid, mI (aput kvs l[i].1 (I i) c) (if (aget kvs l[i].1).isSome then c else c + 1))] (ps2.map gLl) := c5.mono (fun q hq => by simp only [List.mem_cons, List.not_mem_nil, or_false] at hq ⊢; rcases hq with rfl | rfl <;> simp) (List.Sublist.refl _)
    obtain ⟨t, ds, H', e, e2⟩ := ih (i + 1) _ _ _ ps2 (by omega) (by omega) h0 c6 (hw.put l[i].1 (I i)) (fun n => by
      rw [aget_put, hf, lastI, toAt_eq hi']
      by_cases hn : l[i].1 = n
      · subst hn; simp
      · have : ¬ n = l[i].1 := fun h => hn h.symm
        simp [hn, this]) (by
      refine List.ext_getElem? fun m => ?_
      rw [g2, g1]
      by_cases hm : m = i
      · subst hm
        rw [if_pos rfl, hpi1]
        simp only [List.getElem?_map, List.getElem?_range hi', Option.map_some, Nat.lt_succ_self, if_true, uses_eq hi', Option.some.injEq]
        split <;> simp
      · rw [if_neg hm, if_neg hm]
        by_cases hml : m < l.length
        · rw [hpi m hml]
          simp only [List.getElem?_map, List.getElem?_range hml, Option.map_some]
          have : (m < i + 1) ↔ (m < i) := by omega
          simp [this]
        · rw [List.getElem?_eq_none (by simp; omega), List.getElem?_eq_none (by simp; omega)])
    refine ⟨t, ds, H', ?_, e2⟩
    rw [L120_10_eq]
    have hlit : ∀ a b H, litA false 1 [I a, I b] H = some (V (some false) true [a, b], H) := fun a b H => rfl
    simp only [bin_lss, hlt, idxD hi', ldE hi', boxE, stE, ldB2 hb, ldB3 hb, hlit, obs, oms, bin_add, bin_sub, bin_lss, bin_leq, bin_gtr, bin_geq, bin_eql, bin_neq, bin_eqlB, bin_neqB, un_not, cond_B, gd_B, gd_undef, gdH_B, gdH_undef, pickA_B, extractA_tup, lenA_sl, lenA_row, fldA_fp, fldA_ptr, fldA_rptr, List.getElem?_cons_zero, List.getElem?_cons_succ, decide_true, decide_false, if_true, if_false, Bool.true_eq_false, Bool.false_eq_true, Bool.not_true, Bool.not_false]
    have q1' : L120_16 [.mp mid, .bsl id l.length, I i, .ptr H.length 0, L nl tg l, I l.length, I i, V (some false) true [l[i].2.2.1, l[i].2.2.2], I ([l[i].2.2.1, l[i].2.2.2].length : Nat), I 0] [] (H ++ [bx l[i]]) = _ := q1
    rw [q1']
    have q2' : L120_16 [.mp mid, .bsl id l.length, I i, .ptr H.length 0, L nl tg l, I l.length, I i, V (some false) true [l[i].2.2.1, l[i].2.2.2], I ([l[i].2.2.1, l[i].2.2.2].length : Nat), I (0 + 1 : Nat)] [] H1 = _ := q2
    rw [q2', L120_16_eq]
    have z : ¬ (((1 + 1 : Nat) : Int) < ([l[i].2.2.1, l[i].2.2.2].length : Nat)) := by simp
    simp only [bin_lss, z, ldB0 hb2, e5, bin_add, obs, oms, bin_add, bin_sub, bin_lss, bin_leq, bin_gtr, bin_geq, bin_eql, bin_neq, bin_eqlB, bin_neqB, un_not, cond_B, gd_B, gd_undef, gdH_B, gdH_undef, pickA_B, extractA_tup, lenA_sl, lenA_row, fldA_fp, fldA_ptr, fldA_rptr, List.getElem?_cons_zero, List.getElem?_cons_succ, decide_true, decide_false, if_true, if_false, Bool.true_eq_false, Bool.false_eq_true, Bool.not_true, Bool.not_false]
    rw [wrap_id (by omega), nxt]
    exact e

theorem call120 (hl : l.length ≤ 200) (h0 : 0 < l.length) (lo : List Nat) (H : Heap) : ∃ t ds, callA cfg O 120 [L nl tg l] lo H = some (W (some false) t ds, H) ∧ ints ds = (List.range l.length).map (uses l) := by
  have hC : Cx ([] ++ [mI [] 0]) [(0, mI [] 0)] [] := (Cx.nil []).newObj (mI [] 0) rfl
  obtain ⟨H1, e1, c1⟩ := rr_make (n := l.length) hC (by omega) h0
  rw [List.append_nil] at c1
  obtain ⟨t, ds, H', e, e2⟩ := loop120 (nl := nl) (tg := tg) (l := l) (id := 1) (mid := 0) hl (by omega) _ 0 H1 [] 0 (List.replicate l.length (.p nilS, [])) rfl (by omega) h0 c1 WfM.nil (fun n => by simp [aget_nil, lastI]) (by
    refine List.ext_getElem (by simp) fun m h1 h2 => ?_
    simp)
  refine ⟨t, ds, callA_args (H' := H') (rs := [_]) rfl rfl ?_ rfl, e2⟩
  rw [f120_eq]
  have hm : mkMap [] = (.mp 0, [] ++ [mI [] 0]) := rfl
  simp only [hm, lenA_sl, obs, e1]
  exact e

end
end Lin
end Go.Proofs.Ytangmjeafnkfaaa
