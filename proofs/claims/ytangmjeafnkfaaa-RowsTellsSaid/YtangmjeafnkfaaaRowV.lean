import Derived.Test.YtangmjeafnkfaaaRowU
set_option linter.unusedVariables false
set_option linter.unusedSimpArgs false
namespace Go.Proofs.Ytangmjeafnkfaaa
open Go Go.AM
namespace Row
section
variable {nl : Option Bool} {tg : Bool} {l : List Ev} {v4 v11 v12 v13 v14 v15 v16 v17 v18 v19 v20 v21 v22 v23 : AV}

abbrev p1 (kind : Int) (e : Ev) : Bool := decide (e.1 = kind)
abbrev p2 (a b : Int) (e : Ev) : Bool := decide (a ≤ e.2.1) && decide (e.2.1 < b)
abbrev ent (o : AV) (p : Ev → Bool) (l : List Ev) (i : Nat) : Ll := (o, 1, (flt (pat l p) i).length, (flt (pat l p) i).map Ia)

theorem lp35 (hl : l.length ≤ 200) {kind a b : Int} {i : Nat} (hi : i < l.length) {o1 o2 : AV} {H : Heap} (lo : List Nat) (h : Cx H [] [ent o1 (p1 kind) l (i + 1), ent o2 (p2 a b) l i]) :
    ∃ o2' H', L5_35 [L nl tg l, I kind, I a, I b, v4, v11, v12, v13, v14, v15, v16, v17, v18, I 0, v20, o1, o2, v23, I i] lo H = L5_26 [L nl tg l, I kind, I a, I b, v4, v11, v12, v13, v14, v15, v16, v17, v18, I 0, v20, o1, o2', v23, I (i + 1 : Nat)] lo H' ∧ Cx H' [] [ent o1 (p1 kind) l (i + 1), ent o2' (p2 a b) l (i + 1)] := by
  have nx : ∀ o2 H, L5_29 [L nl tg l, I kind, I a, I b, v4, v11, v12, v13, v14, v15, v16, v17, v18, I 0, v20, o1, o2, v23, I i] lo H = L5_26 [L nl tg l, I kind, I a, I b, v4, v11, v12, v13, v14, v15, v16, v17, v18, I 0, v20, o1, o2, v23, I (i + 1 : Nat)] lo H := by
    intro o2 H
    rw [L5_29_eq]
    simp only [bin_add, obs]
    rw [wrap_id (by omega), nxt]
  rw [L5_35_eq]
  simp only [idxL hi, obs, fldA_fp, fld1 hi, bin_geq]
  by_cases h1 : a ≤ l[i].2.1
  · simp only [h1, decide_true, gd_B, if_true, obs, idxL hi, fldA_fp, fld1 hi, bin_lss, pickA_B, cond_B]
    by_cases h2 : l[i].2.1 < b
    · obtain ⟨o', H', e, c⟩ := plc [ent o1 (p1 kind) l (i + 1)] (by omega) h (by rw [pat_at hi]; simp [h1, h2])
      simp only [h2, decide_true, if_true, lit1, obs, e, nx]
      exact ⟨o', H', rfl, c⟩
    · have c := plc0 [ent o1 (p1 kind) l (i + 1)] h (by rw [pat_at hi]; simp [h1, h2])
      simp only [h2, decide_false, Bool.false_eq_true, if_false, nx]
      exact ⟨o2, H, rfl, c⟩
  · have c := plc0 [ent o1 (p1 kind) l (i + 1)] h (by rw [pat_at hi]; simp [h1])
    simp only [h1, decide_false, gd_B, Bool.false_eq_true, if_false, obs, gd_undef, pickA_B, cond_B, nx]
    exact ⟨o2, H, rfl, c⟩

theorem lp26 (hl : l.length ≤ 200) {kind a b : Int} (lo : List Nat) : ∀ (c i : Nat) (o1 o2 : AV) (H : Heap), l.length - i = c → i ≤ l.length → Cx H [] [ent o1 (p1 kind) l i, ent o2 (p2 a b) l i] →
    ∃ o1' o2' H', L5_26 [L nl tg l, I kind, I a, I b, v4, v11, v12, v13, v14, v15, v16, v17, v18, I 0, v20, o1, o2, v23, I i] lo H = L5_40 [L nl tg l, v4, v11, v12, v13, v14, v15, v16, v17, v18, I 0, v20, o1', o2', v23, I 0] lo H' ∧
      Cx H' [] [ent o1' (p1 kind) l l.length, ent o2' (p2 a b) l l.length] := by
  intro c
  induction c with
  | zero =>
    intro i o1 o2 H hc hi h
    have : i = l.length := by omega
    subst this
    refine ⟨o1, o2, H, ?_, h⟩
    rw [L5_26_eq]
    simp only [lenA_sl, bin_lss, obs, Int.lt_irrefl, decide_false, gd_B, Bool.false_eq_true, if_false, gd_undef, pickA_B, cond_B]
  | succ c ih =>
    intro i o1 o2 H hc hi h
    have hi' : i < l.length := by omega
    have hlt : (i : Int) < l.length := by omega
    rw [L5_26_eq]
    simp only [lenA_sl, bin_lss, obs, hlt, decide_true, gd_B, if_true, bin_eql, pickA_B, cond_B, idxL hi', fldA_fp, fld0 hi']
    by_cases h1 : l[i].1 = kind
    · obtain ⟨o', H', e, c⟩ := plc [] (by omega) h (by rw [pat_at hi']; simp [h1])
      simp only [h1, decide_true, if_true, lit1, obs, e]
      obtain ⟨o2', H2, e2, c2⟩ := lp35 (nl := nl) (tg := tg) (v4 := v4) (v11 := v11) (v12 := v12) (v13 := v13) (v14 := v14) (v15 := v15) (v16 := v16) (v17 := v17) (v18 := v18) (v20 := v20) (v23 := v23) hl hi' lo c
      rw [e2]
      exact ih (i + 1) _ _ _ (by omega) (by omega) c2
    · have c := plc0 [] h (by rw [pat_at hi']; simp [h1])
      simp only [h1, decide_false, Bool.false_eq_true, if_false]
      obtain ⟨o2', H2, e2, c2⟩ := lp35 (nl := nl) (tg := tg) (v4 := v4) (v11 := v11) (v12 := v12) (v13 := v13) (v14 := v14) (v15 := v15) (v16 := v16) (v17 := v17) (v18 := v18) (v20 := v20) (v23 := v23) hl hi' lo c
      rw [e2]
      exact ih (i + 1) _ _ _ (by omega) (by omega) c2

/-- One thread's own list; then it is put behind the others. -/
theorem lp48 (hl : l.length ≤ 200) {n : Nat} (hn : n < 8) {a1 a2 : Ll} {o3 : AV} {ds : List Dd} (hd : ds.length ≤ 8) (lo : List Nat) : ∀ (c i : Nat) (o : AV) (H : Heap), l.length - i = c → i ≤ l.length → Cx H [] [(o, 1, (own l n i).length, (own l n i).map Ia), a1, a2, (o3, 1, ds.length, ds.map us)] →
    ∃ o3' d H', L5_48 [L nl tg l, v4, v11, v12, v13, v14, v15, v16, v17, v18, v19, v20, v21, v22, o3, I n, o, I i] lo H = L5_40 [L nl tg l, v4, v11, v12, v13, v14, v15, v16, v17, v18, v19, v20, v21, v22, o3', I (n + 1 : Nat)] lo H' ∧
      Cx H' [] [a1, a2, (o3', 1, (ds ++ [d]).length, (ds ++ [d]).map us)] ∧ d.2.2 = own l n l.length := by
  intro c
  induction c with
  | zero =>
    intro i o H hc hi h
    have : i = l.length := by omega
    subst this
    obtain ⟨n1, t1, H1, e1, c1⟩ := Cx.lit (o := o) (d := own l n l.length) h
    obtain ⟨o', H2, e2, c2, _⟩ := Cx.app (bytes := 24) (y := .p (.sl (some false) true 1 [us (n1, t1, own l n l.length)])) [a1, a2] c1 (cells1 _ _) rfl (by omega) (by simp only [room]; omega)
    refine ⟨o', (n1, t1, own l n l.length), H2, ?_, by simpa using c2, rfl⟩
    rw [L5_48_eq]
    simp only [lenA_sl, bin_lss, obs, Int.lt_irrefl, decide_false, cond_B, Bool.false_eq_true, if_false, e1, e2, bin_add]
    rw [wrap_id (by omega), nxt]
  | succ c ih =>
    intro i o H hc hi h
    have hi' : i < l.length := by omega
    have hlt : (i : Int) < l.length := by omega
    have nx : ∀ o H, L5_51 [L nl tg l, v4, v11, v12, v13, v14, v15, v16, v17, v18, v19, v20, v21, v22, o3, I n, o, I i] lo H = L5_48 [L nl tg l, v4, v11, v12, v13, v14, v15, v16, v17, v18, v19, v20, v21, v22, o3, I n, o, I (i + 1 : Nat)] lo H := by
      intro o H
      rw [L5_51_eq]
      simp only [bin_add, obs]
      rw [wrap_id (by omega), nxt]
    rw [L5_48_eq]
    simp only [lenA_sl, bin_lss, obs, hlt, decide_true, if_true, cond_B, idxL hi', fldA_fp, fld2 hi', bin_eql]
    by_cases h1 : l[i].2.2.1 = n
    · obtain ⟨o', H', e, c⟩ := plc [] (by omega) h (by rw [pat_at hi']; simp [thr, h1])
      simp only [h1, decide_true, if_true, lit1, obs, e, nx]
      exact ih (i + 1) _ _ (by omega) (by omega) c
    · have c := plc0 [] h (by rw [pat_at hi']; simp [thr, h1])
      simp only [h1, decide_false, Bool.false_eq_true, if_false, nx]
      exact ih (i + 1) _ _ (by omega) (by omega) c

/-- What is behind the lists. -/
theorem out40 {w k : Int} {c : List Int} {n2 : Option Bool} {t2 : Bool} {n : Nat} {v : Int} (h1 : ¬ ((n : Int) < k ∧ v = 0)) (h2 : if w = 0 then c.length = 18 else c.length = 0) (lo : List Nat) (H : Heap) :
    L5_40 [L nl tg l, I k, v11, v12, v13, v14, V n2 t2 c, v16, v17, v18, I w, I v, v21, v22, v23, I n] lo H = L5_64 [L nl tg l, v11, v12, v13, v14, V n2 t2 c, v16, v17, v18, I w, I v, v21, v22, v23, I 0] lo H := by
  rw [L5_40_eq]
  simp only [bin_lss, obs]
  have hx : ∀ K : AV → Res, ((gd (B (decide ((n : Int) < k))) true (some (I v))).bind fun x3 =>
      (gd (B (decide ((n : Int) < k))) true (bin .eql .int x3 (I 0))).bind fun x4 =>
      (pickA (B (decide ((n : Int) < k))) x4 (B false)).bind K) = K (B false) := by
    intro K
    by_cases h : (n : Int) < k
    · have hw : ¬ v = 0 := fun e => h1 ⟨h, e⟩
      simp only [h, decide_true, gd_B, if_true, obs, bin_eql, hw, decide_false, pickA_B]
    · simp only [h, decide_false, gd_B, Bool.false_eq_true, if_false, obs, gd_undef, pickA_B]
  have hx2 : ∀ K : AV → Res, ((gd (B (decide ((n : Int) < k))) true (some (I v))).bind fun x2 =>
      (gd (B (decide ((n : Int) < k))) true (bin .eql .int x2 (I 0))).bind fun x3 =>
      (pickA (B (decide ((n : Int) < k))) x3 (B false)).bind K) = K (B false) := hx
  rw [hx]
  by_cases hw : w = 0
  · rw [if_pos hw] at h2
    simp only [hw, bin_neq, lenA_sl, h2, obs, oms, bin_add, bin_sub, bin_lss, bin_leq, bin_gtr, bin_geq, bin_eql, bin_neq, bin_eqlB, bin_neqB, un_not, cond_B, gd_B, gd_undef, gdH_B, gdH_undef, pickA_B, extractA_tup, lenA_sl, lenA_row, fldA_fp, fldA_ptr, fldA_rptr, List.getElem?_cons_zero, List.getElem?_cons_succ, decide_true, decide_false, if_true, if_false, Bool.true_eq_false, Bool.false_eq_true, Bool.not_true, Bool.not_false, bin_gtr]
    simp
  · rw [if_neg hw] at h2
    simp only [hw, bin_neq, lenA_sl, h2, obs, oms, bin_add, bin_sub, bin_lss, bin_leq, bin_gtr, bin_geq, bin_eql, bin_neq, bin_eqlB, bin_neqB, un_not, cond_B, gd_B, gd_undef, gdH_B, gdH_undef, pickA_B, extractA_tup, lenA_sl, lenA_row, fldA_fp, fldA_ptr, fldA_rptr, List.getElem?_cons_zero, List.getElem?_cons_succ, decide_true, decide_false, if_true, if_false, Bool.true_eq_false, Bool.false_eq_true, Bool.not_true, Bool.not_false, bin_gtr]
    simp [hw, -Option.bind_some, obs]

theorem lp40 (hl : l.length ≤ 200) {k : Nat} (hk : k ≤ 8) {c : List Int} {n2 : Option Bool} {t2 : Bool} (h18 : c.length = 18) {a1 a2 : Ll} (lo : List Nat) : ∀ (r n : Nat) (o3 : AV) (ds : List Dd) (H : Heap), k - n = r → n ≤ k → ints ds = (List.range n).map (fun n => own l n l.length) → Cx H [] [a1, a2, (o3, 1, ds.length, ds.map us)] →
    ∃ o3' ds' H', L5_40 [L nl tg l, I k, v11, v12, v13, v14, V n2 t2 c, v16, v17, v18, I 0, I 0, v21, v22, o3, I n] lo H = L5_64 [L nl tg l, v11, v12, v13, v14, V n2 t2 c, v16, v17, v18, I 0, I 0, v21, v22, o3', I 0] lo H' ∧
      Cx H' [] [a1, a2, (o3', 1, ds'.length, ds'.map us)] ∧ ints ds' = (List.range k).map (fun n => own l n l.length) := by
  intro r
  induction r with
  | zero =>
    intro n o3 ds H hr hn hd h
    have : n = k := by omega
    subst this
    exact ⟨o3, ds, H, out40 (by omega) (by simp [h18]) lo H, h, hd⟩
  | succ r ih =>
    intro n o3 ds H hr hn hd h
    have hlen : ds.length = n := by have := congrArg List.length hd; simpa [ints] using this
    obtain ⟨o3', d, H', e, c1, e2⟩ := lp48 (nl := nl) (tg := tg) (l := l) (v4 := I k) (v11 := v11) (v12 := v12) (v13 := v13) (v14 := v14) (v15 := V n2 t2 c) (v16 := v16) (v17 := v17) (v18 := v18) (v19 := I 0) (v20 := I 0) (v21 := v21) (v22 := v22) hl (n := n) (by omega) (ds := ds) (by omega) lo _ 0 (.p nilS) H rfl (by omega) (h.newNil 1)
    have hlt : (n : Int) < k := by omega
    rw [L5_40_eq]
    simp only [bin_lss, obs, hlt, obs, oms, bin_add, bin_sub, bin_lss, bin_leq, bin_gtr, bin_geq, bin_eql, bin_neq, bin_eqlB, bin_neqB, un_not, cond_B, gd_B, gd_undef, gdH_B, gdH_undef, pickA_B, extractA_tup, lenA_sl, lenA_row, fldA_fp, fldA_ptr, fldA_rptr, List.getElem?_cons_zero, List.getElem?_cons_succ, decide_true, decide_false, if_true, if_false, Bool.true_eq_false, Bool.false_eq_true, Bool.not_true, Bool.not_false]
    rw [show (I 0) = I (0 : Nat) from rfl] at *
    rw [e]
    refine ih (n + 1) _ _ _ (by omega) (by omega) ?_ c1
    rw [List.range_succ, List.map_append, ← hd]
    simp [ints, e2]

end
end Row
end Go.Proofs.Ytangmjeafnkfaaa
