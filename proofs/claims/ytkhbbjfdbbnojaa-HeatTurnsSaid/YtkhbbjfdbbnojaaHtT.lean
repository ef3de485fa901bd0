import Derived.Test.YtkhbbjfdbbnojaaHtS
set_option linter.unusedVariables false
set_option linter.unusedSimpArgs false
namespace Go.Proofs.Ytkhbbjfdbbnojaa
open Go Go.AM
namespace Ht

abbrev C3 := Int × Int × Int
def enc3 (c : C3) : List PV := [Ia c.1, Ia c.2.1, Ia c.2.2]
theorem len3 (c : C3) : (enc3 c).length = 3 := rfl
def kc (c : C3) : K2 := (c.1, c.2.1)

def hstep (hot : Int) (l : List Hd) (c : C3) : List Hd × Int :=
  if c.2.2 = 0 then ((turn hot l (kc c)).1, if (turn hot l (kc c)).2.2 = 0 then (turn hot l (kc c)).2.1 else - (turn hot l (kc c)).2.2)
  else taken l (kc c) (decide (c.2.2 = 1))

/-! ### Lists in order -/
def Srt (l : List Hd) : Prop := l.Pairwise fun x y => klt (ky x) (ky y)
theorem klt_ne {a b : K2} (h : klt a b) : a ≠ b := by
  rintro rfl
  unfold klt at h
  omega
theorem klt_trans {a b c : K2} (h : klt a b) (k : klt b c) : klt a c := by unfold klt at *; omega
theorem klt_tri {a b : K2} (h : ¬ klt a b) (hn : a ≠ b) : klt b a := by
  unfold klt at *
  have : ¬ (a.1 = b.1 ∧ a.2 = b.2) := fun e => hn (Prod.ext e.1 e.2)
  omega

theorem put_keys (l : List Hd) (x : Hd) : (putH l x).map ky = l.map ky := by
  unfold putH
  rw [List.map_map]
  refine List.map_congr_left fun y _ => ?_
  simp only [Function.comp]
  split
  · rename_i e; exact e.symm
  · rfl
theorem srt_keys {l m : List Hd} (h : l.map ky = m.map ky) (hs : Srt l) : Srt m := by
  unfold Srt at *
  rw [← List.pairwise_map (f := ky) (R := klt)] at hs ⊢
  rw [← h]
  exact hs
theorem srt_put {l : List Hd} (h : Srt l) (x : Hd) : Srt (putH l x) := srt_keys (put_keys l x).symm h

theorem tw_mem {α : Type} {p : α → Bool} {x : α} : ∀ {l : List α}, x ∈ l.takeWhile p → p x = true := by
  intro l
  induction l with
  | nil => intro h; cases h
  | cons y l ih =>
    intro h
    rw [List.takeWhile_cons] at h
    split at h
    · rename_i hy
      rcases List.mem_cons.mp h with e | e
      · rw [e]; exact hy
      · exact ih e
    · cases h
theorem srt_ins {l : List Hd} (h : Srt l) {x : Hd} (hx : fnd l (ky x) = none) : Srt (insH l x) := by
  unfold insH
  have hne : ∀ y ∈ l, ky y ≠ ky x := fun y hy e => by
    have := List.find?_eq_none.mp hx y hy
    simp [e] at this
  have hT : ∀ y ∈ l.takeWhile (fun y => decide (klt (ky y) (ky x))), klt (ky y) (ky x) := by
    intro y hy
    simpa using tw_mem hy
  have hD : ∀ y ∈ l.dropWhile (fun y => decide (klt (ky y) (ky x))), klt (ky x) (ky y) := by
    have key : ∀ (m : List Hd), Srt m → (∀ y ∈ m, ky y ≠ ky x) → ∀ y ∈ m.dropWhile (fun y => decide (klt (ky y) (ky x))), klt (ky x) (ky y) := by
      intro m
      induction m with
      | nil => intro _ _ y hy; cases hy
      | cons z m ih =>
        intro hs hn y hy
        rw [List.dropWhile_cons] at hy
        split at hy
        · exact ih (List.pairwise_cons.mp hs).2 (fun q hq => hn q (by simp [hq])) y hy
        · rename_i hz
          have hz' : klt (ky x) (ky z) := klt_tri (by simpa using hz) (hn z (by simp))
          rcases List.mem_cons.mp hy with e | e
          · rw [e]; exact hz'
          · exact klt_trans hz' ((List.pairwise_cons.mp hs).1 y e)
    exact key l h hne
  unfold Srt at *
  have hall := h
  rw [← List.takeWhile_append_dropWhile (p := fun y => decide (klt (ky y) (ky x))) (l := l), List.pairwise_append] at hall
  rw [List.pairwise_append]
  refine ⟨hall.1, List.pairwise_cons.mpr ⟨hD, hall.2.1⟩, fun a ha b hb => ?_⟩
  rcases List.mem_cons.mp hb with e | e
  · rw [e]; exact hT a ha
  · exact hall.2.2 a ha b e

theorem step_srt {hot : Int} {l : List Hd} (h : Srt l) (c : C3) : Srt (hstep hot l c).1 := by
  unfold hstep
  split
  · unfold turn
    split
    · exact h
    · split
      · split
        · exact h
        · rename_i hf _
          refine srt_ins h ?_
          rw [ky_turn]; exact hf
      · exact srt_put h _
  · unfold taken
    split
    · exact h
    · split
      · exact srt_put h _
      · exact h
theorem step_good {hot : Int} (h0 : 1 ≤ hot ∧ hot ≤ 1000) {l : List Hd} (h : ∀ y ∈ l, GH y) (c : C3) : ∀ y ∈ (hstep hot l c).1, GH y := by
  unfold hstep
  split
  · exact turn_good h0 h _
  · exact taken_good h _ _
theorem put_len (l : List Hd) (x : Hd) : (putH l x).length = l.length := by simp [putH]
theorem ins_len (l : List Hd) (x : Hd) : (insH l x).length = l.length + 1 := by
  unfold insH
  have := congrArg List.length (List.takeWhile_append_dropWhile (p := fun y => decide (klt (ky y) (ky x))) (l := l))
  rw [List.length_append] at this
  rw [List.length_append, List.length_cons]
  omega
theorem step_len {hot : Int} {l : List Hd} (h : l.length ≤ 100) (c : C3) : (hstep hot l c).1.length ≤ 100 := by
  unfold hstep
  split
  · unfold turn
    split
    · exact h
    · split
      · split
        · exact h
        · rw [ins_len]; omega
      · rw [put_len]; exact h
  · unfold taken
    split
    · exact h
    · split
      · rw [put_len]; exact h
      · exact h

/-- Where a key stands, from a place on not yet looked at. -/
def PA (l : List Hd) (k : K2) (a : Int) (n : Nat) : Prop := (a = -1 ∧ ∀ j (h : j < l.length), j < n → ky l[j] ≠ k) ∨ ∃ j, ∃ h : j < l.length, j < n ∧ a = j ∧ ky l[j] = k

theorem PA.none {l : List Hd} {k : K2} {a : Int} (h : PA l k a l.length) (hf : fnd l k = none) : a = -1 := by
  rcases h with ⟨h, _⟩ | ⟨j, hj, _, _, e⟩
  · exact h
  · have := List.find?_eq_none.mp hf l[j] (List.getElem_mem hj)
    simp [e] at this
theorem PA.some {l : List Hd} {k : K2} {x : Hd} {a : Int} (hs : Srt l) (h : PA l k a l.length) (hf : fnd l k = some x) : ∃ j, ∃ h : j < l.length, a = j ∧ l[j] = x := by
  obtain ⟨hx, hk⟩ := fnd_some hf
  rcases h with ⟨_, h⟩ | ⟨j, hj, _, h, e⟩
  · obtain ⟨i, hi, e⟩ := List.getElem_of_mem hx
    exact (h i hi hi (by rw [e, hk])).elim
  · refine ⟨j, hj, h, ?_⟩
    obtain ⟨i, hi, e2⟩ := List.getElem_of_mem hx
    have hp := List.pairwise_iff_getElem.mp hs
    rcases Nat.lt_trichotomy i j with q | q | q
    · have := klt_ne (hp i j hi hj q)
      rw [e2, hk, e] at this
      exact (this rfl).elim
    · subst q; exact e2
    · have := klt_ne (hp j i hj hi q)
      rw [e2, hk, e] at this
      exact (this rfl).elim

theorem put_set {l : List Hd} (hs : Srt l) {j : Nat} (hj : j < l.length) {y : Hd} (hy : ky y = ky l[j]) : putH l y = l.set j y := by
  unfold putH
  refine List.ext_getElem (by simp) fun i h1 h2 => ?_
  have hi : i < l.length := by simpa using h1
  rw [List.getElem_map, List.getElem_set]
  have hp := List.pairwise_iff_getElem.mp hs
  by_cases e : j = i
  · subst e; rw [if_pos hy.symm, if_pos rfl]
  · rw [if_neg e, if_neg]
    intro e2
    have e2 := e2.trans hy
    rcases Nat.lt_or_gt_of_ne e with q | q
    · exact klt_ne (hp j i hj hi q) e2.symm
    · exact klt_ne (hp i j hi hj q) e2

/-! ### The reference's lists -/
theorem arrI (id : Nat) (j : Nat) (h : j < 3) : idxArr 1 3 (.rptr id 0 0) (I j) = some (.rptr id 0 j) := by
  simp only [idxArr]
  rw [if_pos (by omega)]
  simp
theorem arrI0 (id : Nat) : idxArr 1 3 (.rptr id 0 0) (I 0) = some (.rptr id 0 0) := arrI id 0 (by omega)
theorem arrI1 (id : Nat) : idxArr 1 3 (.rptr id 0 0) (I 1) = some (.rptr id 0 1) := arrI id 1 (by omega)
theorem arrI2 (id : Nat) : idxArr 1 3 (.rptr id 0 0) (I 2) = some (.rptr id 0 2) := arrI id 2 (by omega)
theorem arrNew (H : Heap) : mkArr 1 [(.v (.int .i64 0)), (.v (.int .i64 0)), (.v (.int .i64 0))] H = (.rptr H.length 0 0, H ++ [.row 0 1 [Ia 0, Ia 0, Ia 0]]) := _root_.id rfl
theorem toPVs_p (H : Heap) : ∀ xs : List PV, toPVs H (xs.map .p) = some (xs, H) := by
  intro xs
  induction xs with
  | nil => rfl
  | cons x xs ih => simp [toPVs, toPV, ih]
theorem arrSt (H : Heap) (lo : List Nat) (c : C3) : stA 3 (.rptr H.length 0 0) (.agg ((enc3 c).map .p)) lo (H ++ [.row 0 1 [Ia 0, Ia 0, Ia 0]]) = some (H ++ [.row 0 1 (enc3 c)]) := by
  simp only [stA, atE]
  rw [if_pos (by simp [AV.cells, enc3])]
  simp only [AV.cells, toPVs_p, obs, atE]
  rw [if_pos (by simp)]
  simp [splice, enc3]
abbrev cL (idc : Nat) (c : C3) : Ll := (.row idc 0 0 3, 1, 3, enc3 c)
section
variable {H : Heap} {ls : List Ll} {idc : Nat} {c : C3}
theorem cLd (h : cL idc c ∈ ls) (hC : Cx H [] ls) : ld false 1 (.rptr idc 0 0) H = some (I c.1) ∧ ld false 1 (.rptr idc 0 1) H = some (I c.2.1) ∧ ld false 1 (.rptr idc 0 2) H = some (I c.2.2) := by
  have ho : H[idc]? = some (.row 0 1 (enc3 c)) := (hC.lst _ h).at
  exact ⟨ld_row ho, ld_row ho, ld_row ho⟩
end

/-- A list of heads: nothing, or a row. -/
def Rh (o : AV) (l : List Hd) : Prop := (o = .p nilS ∧ l = []) ∨ ∃ id g, o = .row id g 0 l.length
abbrev hL (o : AV) (l : List Hd) : Ll := (o, 6, l.length, l.flatMap encH)
abbrev oL (o : AV) (z : List Int) : Ll := (o, 1, z.length, z.map Ia)

section
variable {hot : Int} {nl : Option Bool} {tg : Bool} {cs : List C3} {v16 v17 v18 : AV} {lo : List Nat}

/-- The search for a key. -/
theorem loop18 {l : List Hd} {o6 o7 : AV} {out : List Int} {idc : Nat} {c : C3} (hR : Rh o6 l) : ∀ (t i : Nat) (H : Heap) (a : Int), l.length - i = t → i ≤ l.length → l.length ≤ 100 → Cx H [] [oL o7 out, hL o6 l, cL idc c] → PA l (kc c) a i →
    ∃ a' H', L60_18 [I hot, o6, o7, .rptr idc 0 0, I a, v16, v17, v18, o6, I l.length, I i] lo H = L60_18 [I hot, o6, o7, .rptr idc 0 0, I a', v16, v17, v18, o6, I l.length, I l.length] lo H' ∧ Cx H' [] [oL o7 out, hL o6 l, cL idc c] ∧ PA l (kc c) a' l.length := by
  intro t
  induction t with
  | zero =>
    intro i H a ht hi _ hC hP
    have : i = l.length := by omega
    subst this
    exact ⟨a, H, rfl, hC, hP⟩
  | succ t ih =>
    intro i H a ht hi hl hC hP
    have hi' : i < l.length := by omega
    obtain ⟨rfl, e⟩ | ⟨id, g, rfl⟩ := hR
    · subst e; cases hi'
    have ho : H[id]? = some (.row g 6 (l.flatMap encH)) := (hC.lst (hL (.row id g 0 l.length) l) (by simp)).at
    have hlt : (i : Int) < l.length := by omega
    have hC2 : Cx (H ++ [bxH l[i]]) [] [oL o7 out, hL (.row id g 0 l.length) l, cL idc c] := hC.push _
    obtain ⟨d0, d1, d2⟩ := cLd (idc := idc) (c := c) (by simp) hC2
    have hf0 : ld false 1 (.ptr H.length (0 + 0)) (H ++ [bxH l[i]]) = some (I l[i].1) := ldE H _ 1 0
    have hf1 : ld false 1 (.ptr H.length (0 + 1)) (H ++ [bxH l[i]]) = some (I l[i].2.1) := ldE H _ 1 1
    have hA : ld true 6 (.rptr id g (i * 6)) H = some (avH l[i]) := rowA lenH ho hi'
    have key : ∃ a' H', L60_18 [I hot, .row id g 0 l.length, o7, .rptr idc 0 0, I (if ky l[i] = kc c then (i : Int) else a), v16, v17, v18, .row id g 0 l.length, I l.length, I ((i + 1 : Nat) : Int)] lo (H ++ [bxH l[i]]) = L60_18 [I hot, .row id g 0 l.length, o7, .rptr idc 0 0, I a', v16, v17, v18, .row id g 0 l.length, I l.length, I l.length] lo H' ∧ Cx H' [] [oL o7 out, hL (.row id g 0 l.length) l, cL idc c] ∧ PA l (kc c) a' l.length := by
      refine ih (i + 1) _ _ (by omega) (by omega) hl hC2 ?_
      by_cases e : ky l[i] = kc c
      · rw [if_pos e]; exact .inr ⟨i, hi', by omega, rfl, e⟩
      · rw [if_neg e]
        rcases hP with ⟨p1, p2⟩ | ⟨j, hj, p1, p2, p3⟩
        · refine .inl ⟨p1, fun j hj hji => ?_⟩
          by_cases q : j = i
          · subst q; exact e
          · exact p2 j hj (by omega)
        · exact .inr ⟨j, hj, by omega, p2, p3⟩
    obtain ⟨a', H', q1, q2, q3⟩ := key
    refine ⟨a', H', ?_, q2, q3⟩
    rw [← q1, L60_18_eq]
    have e0 : ky l[i] = (l[i].1, l[i].2.1) := rfl
    have e1 : kc c = (c.1, c.2.1) := rfl
    simp only [hlt, rowI hi', hA, box6, st6, fldA_ptr, hf0, hf1, arrI0, arrI1, d0, d1, obs, oms, bin_add, bin_sub, bin_lss, bin_leq, bin_gtr, bin_geq, bin_eql, bin_neq, bin_eqlB, bin_neqB, un_not, cond_B, gd_B, gd_undef, gdH_B, gdH_undef, pickA_B, extractA_tup, lenA_sl, lenA_row, fldA_fp, fldA_ptr, fldA_rptr, List.getElem?_cons_zero, List.getElem?_cons_succ, decide_true, decide_false, if_true, if_false, Bool.true_eq_false, Bool.false_eq_true, Bool.not_true, Bool.not_false, e0, e1]
    by_cases k1 : l[i].1 = c.1
    · by_cases k2 : l[i].2.1 = c.2.1
      · simp only [k1, k2, hf1, d1, L60_27_eq, obs, oms, bin_add, bin_sub, bin_lss, bin_leq, bin_gtr, bin_geq, bin_eql, bin_neq, bin_eqlB, bin_neqB, un_not, cond_B, gd_B, gd_undef, gdH_B, gdH_undef, pickA_B, extractA_tup, lenA_sl, lenA_row, fldA_fp, fldA_ptr, fldA_rptr, List.getElem?_cons_zero, List.getElem?_cons_succ, decide_true, decide_false, if_true, if_false, Bool.true_eq_false, Bool.false_eq_true, Bool.not_true, Bool.not_false]
        rw [wrap_id (by omega), nxt]
      · have : ¬ (c.1, l[i].2.1) = (c.1, c.2.1) := fun e => k2 (congrArg Prod.snd e)
        simp only [k1, k2, this, hf1, d1, L60_27_eq, obs, oms, bin_add, bin_sub, bin_lss, bin_leq, bin_gtr, bin_geq, bin_eql, bin_neq, bin_eqlB, bin_neqB, un_not, cond_B, gd_B, gd_undef, gdH_B, gdH_undef, pickA_B, extractA_tup, lenA_sl, lenA_row, fldA_fp, fldA_ptr, fldA_rptr, List.getElem?_cons_zero, List.getElem?_cons_succ, decide_true, decide_false, if_true, if_false, Bool.true_eq_false, Bool.false_eq_true, Bool.not_true, Bool.not_false]
        rw [wrap_id (by omega), nxt]
    · have : ¬ (l[i].1, l[i].2.1) = (c.1, c.2.1) := fun e => k1 (congrArg Prod.fst e)
      simp only [k1, this, hf1, d1, L60_27_eq, obs, oms, bin_add, bin_sub, bin_lss, bin_leq, bin_gtr, bin_geq, bin_eql, bin_neq, bin_eqlB, bin_neqB, un_not, cond_B, gd_B, gd_undef, gdH_B, gdH_undef, pickA_B, extractA_tup, lenA_sl, lenA_row, fldA_fp, fldA_ptr, fldA_rptr, List.getElem?_cons_zero, List.getElem?_cons_succ, decide_true, decide_false, if_true, if_false, Bool.true_eq_false, Bool.false_eq_true, Bool.not_true, Bool.not_false]
      rw [wrap_id (by omega), nxt]

/-- The place where a new key goes. -/
theorem loop64 {l : List Hd} {o6 o7 : AV} {out : List Int} {idc : Nat} {c : C3} {H : Heap} (hR : Rh o6 l) (hl : l.length ≤ 100) (hC : Cx H [] [oL o7 out, hL o6 l, cL idc c]) : ∀ (t i : Nat), (l.takeWhile (fun y => decide (klt (ky y) (kc c)))).length - i = t → i ≤ (l.takeWhile (fun y => decide (klt (ky y) (kc c)))).length →
    L60_64 [I hot, o6, o7, .rptr idc 0 0, I i, v16, v17, v18] lo H = L60_64 [I hot, o6, o7, .rptr idc 0 0, I (l.takeWhile (fun y => decide (klt (ky y) (kc c)))).length, v16, v17, v18] lo H := by
  intro t
  induction t with
  | zero => intro i ht hi; rw [show i = (l.takeWhile (fun y => decide (klt (ky y) (kc c)))).length by omega]
  | succ t ih =>
    intro i ht hi
    have hi' : i < (l.takeWhile (fun y => decide (klt (ky y) (kc c)))).length := by omega
    have hle := (List.takeWhile_sublist (fun y => decide (klt (ky y) (kc c))) (l := l)).length_le
    have hil : i < l.length := by omega
    rw [← ih (i + 1) (by omega) (by omega), L60_64_eq]
    obtain ⟨rfl, e⟩ | ⟨id, g, rfl⟩ := hR
    · subst e; cases hil
    have ho : H[id]? = some (.row g 6 (l.flatMap encH)) := (hC.lst (hL (.row id g 0 l.length) l) (by simp)).at
    have hlt : (i : Int) < l.length := by omega
    obtain ⟨d0, d1, d2⟩ := cLd (idc := idc) (c := c) (by simp) hC
    have hk : klt (ky l[i]) (kc c) := by
      have h1 : (l.takeWhile (fun y => decide (klt (ky y) (kc c))))[i] = l[i] := (List.takeWhile_prefix (fun y => decide (klt (ky y) (kc c)))).getElem hi'
      have := tw_mem (List.getElem_mem hi')
      rw [h1] at this
      simpa using this
    have hf0 : ld false 1 (.rptr id g (i * 6 + 0)) H = some (I l[i].1) := rowF lenH ho hil (by omega)
    have hf1 : ld false 1 (.rptr id g (i * 6 + 1)) H = some (I l[i].2.1) := rowF lenH ho hil (by omega)
    have hk' : l[i].1 < c.1 ∨ (l[i].1 = c.1 ∧ l[i].2.1 < c.2.1) := hk
    by_cases k1 : l[i].1 < c.1
    · simp only [lenA_row, hlt, rowI hil, fldA_rptr, hf0, hf1, arrI0, arrI1, d0, d1, k1, obs, oms, bin_add, bin_sub, bin_lss, bin_leq, bin_gtr, bin_geq, bin_eql, bin_neq, bin_eqlB, bin_neqB, un_not, cond_B, gd_B, gd_undef, gdH_B, gdH_undef, pickA_B, extractA_tup, lenA_sl, lenA_row, fldA_fp, fldA_ptr, fldA_rptr, List.getElem?_cons_zero, List.getElem?_cons_succ, decide_true, decide_false, if_true, if_false, Bool.true_eq_false, Bool.false_eq_true, Bool.not_true, Bool.not_false]
      rw [wrap_id (by omega), nxt]
    · have k2 : l[i].1 = c.1 := by omega
      have k3 : l[i].2.1 < c.2.1 := by omega
      have k4 : ¬ c.1 < c.1 := by omega
      simp only [lenA_row, hlt, rowI hil, fldA_rptr, hf0, hf1, arrI0, arrI1, d0, d1, k2, k3, k4, obs, oms, bin_add, bin_sub, bin_lss, bin_leq, bin_gtr, bin_geq, bin_eql, bin_neq, bin_eqlB, bin_neqB, un_not, cond_B, gd_B, gd_undef, gdH_B, gdH_undef, pickA_B, extractA_tup, lenA_sl, lenA_row, fldA_fp, fldA_ptr, fldA_rptr, List.getElem?_cons_zero, List.getElem?_cons_succ, decide_true, decide_false, if_true, if_false, Bool.true_eq_false, Bool.false_eq_true, Bool.not_true, Bool.not_false]
      rw [wrap_id (by omega), nxt]

theorem app1 {o7 : AV} {out : List Int} {l2 : List Ll} {H : Heap} (hC : Cx H [] (oL o7 out :: l2)) (hn : out.length < 2 ^ 30) (z : Int) :
    ∃ o' H', appA 1 8 o7 (.p (.sl (some false) true 1 [Ia z])) H = some (o', H') ∧ Cx H' [] (oL o' (out ++ [z]) :: l2) := by
  obtain ⟨o', H', e, h, _⟩ := Cx.app (bytes := 8) (y := .p (.sl (some false) true 1 [Ia z])) [] hC (cells1 _ _) rfl (by omega) (by simp only [room]; omega)
  refine ⟨o', H', e, ?_⟩
  have e2 : oL o' (out ++ [z]) = (o', 1, out.length + 1, out.map Ia ++ [Ia z]) := by simp
  rw [e2]; exact h

/-- One turn of a head. -/
theorem at71 {l : List Hd} {o7 : AV} {out : List Int} {l2 : List Ll} {H : Heap} {id g j : Nat} (hl : l.length ≤ 100) (hC : Cx H [] (oL o7 out :: hL (.row id g 0 l.length) l :: l2)) (hj : j < l.length) (hg : GH l[j]) :
    ∃ H', L60_71 [I hot, .row id g 0 l.length, o7, I j, v16, v17, v18] lo H = L60_87 [I hot, .row id g 0 l.length, o7, I (turnH l[j]).2, v16, v17, v18] lo H' ∧ Cx H' [] (oL o7 out :: hL (.row id g 0 (l.set j (turnH l[j]).1).length) (l.set j (turnH l[j]).1) :: l2) := by
  have ho : H[id]? = some (.row g 6 (l.flatMap encH)) := (hC.lst (hL (.row id g 0 l.length) l) (by simp)).at
  have hset : ∀ x, Cx (H.set id (.row g 6 ((l.set j x).flatMap encH))) [] (oL o7 out :: hL (.row id g 0 (l.set j x).length) (l.set j x) :: l2) := by
    intro x
    have h1 := Cx.setRow (cs' := (l.set j x).flatMap encH) [oL o7 out] hC (by rw [rows_length lenH, rows_length lenH, List.length_set])
    have e2 : hL (.row id g 0 (l.set j x).length) (l.set j x) = (.row id g 0 l.length, 6, l.length, (l.set j x).flatMap encH) := by simp only [hL, List.length_set]
    rw [e2]
    exact h1
  rw [L60_71_eq]
  generalize hx : l[j] = x at hg
  obtain ⟨a, b, n, m, f, s⟩ := x
  obtain ⟨g1, g2, g3, g4, g5, g6⟩ := hg
  simp only at g1 g2 g3 g4 g5 g6
  have hf2 : ld false 1 (.rptr id g (j * 6 + 2)) H = some (I n) := by rw [rowF lenH ho hj (by omega), hx]; rfl
  have hf3 : ld false 1 (.rptr id g (j * 6 + 3)) H = some (I m) := by rw [rowF lenH ho hj (by omega), hx]; rfl
  have hf5 : ld false 1 (.rptr id g (j * 6 + 5)) H = some (I s) := by rw [rowF lenH ho hj (by omega), hx]; rfl
  have nilR : ∀ off, nilCheckA (.rptr id g off) = some (.rptr id g off) := fun _ => rfl
  have hsame : l.set j (a, b, n, m, f, s) = l := by rw [← hx]; exact List.set_getElem_self hj
  by_cases e1 : 1 < s
  · have et : turnH (a, b, n, m, f, s) = ((a, b, n, m, f, s), s) := by rw [turnH_eq, if_neg (by omega), if_pos (by omega)]
    rw [et]
    refine ⟨H, ?_, ?_⟩
    · simp only [rowI hj, nilR, fldA_rptr, hf5, e1, obs, oms, bin_add, bin_sub, bin_lss, bin_leq, bin_gtr, bin_geq, bin_eql, bin_neq, bin_eqlB, bin_neqB, un_not, cond_B, gd_B, gd_undef, gdH_B, gdH_undef, pickA_B, extractA_tup, lenA_sl, lenA_row, fldA_fp, fldA_ptr, fldA_rptr, List.getElem?_cons_zero, List.getElem?_cons_succ, decide_true, decide_false, if_true, if_false, Bool.true_eq_false, Bool.false_eq_true, Bool.not_true, Bool.not_false]
    · rw [hsame]; exact hC
  · by_cases e0 : s = 0
    · subst e0
      have h0 : ¬ (1 : Int) < 0 := by omega
      have hw : IntKind.i64.wrap (n + 1) = n + 1 := wrap_id (by omega)
      have hst : ∀ lo, stA 1 (.rptr id g (j * 6 + 2)) (I (n + 1)) lo H = some (H.set id (.row g 6 ((l.set j (a, b, n + 1, m, f, 0)).flatMap encH))) := fun lo => rowSt (v := Ia (n + 1)) lenH ho hj (by omega) (by rw [hx]; rfl) lo
      have ho2 := setAt (o' := .row g 6 ((l.set j (a, b, n + 1, m, f, 0)).flatMap encH)) ho
      have hj2 : j < (l.set j (a, b, n + 1, m, f, 0)).length := by simpa using hj
      have hx2 : (l.set j (a, b, n + 1, m, f, 0))[j] = (a, b, n + 1, m, f, 0) := List.getElem_set_self ..
      have hf2' : ld false 1 (.rptr id g (j * 6 + 2)) (H.set id (.row g 6 ((l.set j (a, b, n + 1, m, f, 0)).flatMap encH))) = some (I (n + 1)) := by rw [rowF lenH ho2 hj2 (by omega), hx2]; rfl
      have hf3' : ld false 1 (.rptr id g (j * 6 + 3)) (H.set id (.row g 6 ((l.set j (a, b, n + 1, m, f, 0)).flatMap encH))) = some (I m) := by rw [rowF lenH ho2 hj2 (by omega), hx2]; rfl
      by_cases hm1 : m ≤ n + 1
      · have hmn : n + 1 = m := by have := g3 rfl; omega
        have et : turnH (a, b, n, m, f, 0) = ((a, b, n + 1, m, f, 1), 1) := by rw [turnH_eq, if_pos rfl, if_pos hm1]
        rw [et]
        have hst2 : ∀ lo, stA 1 (.rptr id g (j * 6 + 5)) (I 1) lo (H.set id (.row g 6 ((l.set j (a, b, n + 1, m, f, 0)).flatMap encH))) = some (H.set id (.row g 6 ((l.set j (a, b, n + 1, m, f, 1)).flatMap encH))) := fun lo => by
          rw [rowSt (v := Ia 1) (x := (a, b, n + 1, m, f, 1)) lenH ho2 hj2 (by omega) (by rw [hx2]; rfl) lo, List.set_set, List.set_set]
        refine ⟨_, ?_, hset _⟩
        simp only [rowI hj, nilR, fldA_rptr, hf5, h0, hf2, hw, hst, hf2', hf3', hst2, obs, oms, bin_add, bin_sub, bin_lss, bin_leq, bin_gtr, bin_geq, bin_eql, bin_neq, bin_eqlB, bin_neqB, un_not, cond_B, gd_B, gd_undef, gdH_B, gdH_undef, pickA_B, extractA_tup, lenA_sl, lenA_row, fldA_fp, fldA_ptr, fldA_rptr, List.getElem?_cons_zero, List.getElem?_cons_succ, decide_true, decide_false, if_true, if_false, Bool.true_eq_false, Bool.false_eq_true, Bool.not_true, Bool.not_false]
        rw [if_pos (decide_eq_true hmn)]
      · have hmn : ¬ n + 1 = m := by omega
        have et : turnH (a, b, n, m, f, 0) = ((a, b, n + 1, m, f, 0), 0) := by rw [turnH_eq, if_pos rfl, if_neg hm1]
        rw [et]
        refine ⟨_, ?_, hset _⟩
        simp only [rowI hj, nilR, fldA_rptr, hf5, h0, hf2, hw, hst, hf2', hf3', hmn, obs, oms, bin_add, bin_sub, bin_lss, bin_leq, bin_gtr, bin_geq, bin_eql, bin_neq, bin_eqlB, bin_neqB, un_not, cond_B, gd_B, gd_undef, gdH_B, gdH_undef, pickA_B, extractA_tup, lenA_sl, lenA_row, fldA_fp, fldA_ptr, fldA_rptr, List.getElem?_cons_zero, List.getElem?_cons_succ, decide_true, decide_false, if_true, if_false, Bool.true_eq_false, Bool.false_eq_true, Bool.not_true, Bool.not_false]
    · have e3 : s = 1 := by omega
      subst e3
      have et : turnH (a, b, n, m, f, 1) = ((a, b, n, m, f, 1), 0) := by rw [turnH_eq, if_neg e0, if_neg (by omega)]
      rw [et]
      refine ⟨H, ?_, ?_⟩
      · simp only [rowI hj, nilR, fldA_rptr, hf5, e1, e0, obs, oms, bin_add, bin_sub, bin_lss, bin_leq, bin_gtr, bin_geq, bin_eql, bin_neq, bin_eqlB, bin_neqB, un_not, cond_B, gd_B, gd_undef, gdH_B, gdH_undef, pickA_B, extractA_tup, lenA_sl, lenA_row, fldA_fp, fldA_ptr, fldA_rptr, List.getElem?_cons_zero, List.getElem?_cons_succ, decide_true, decide_false, if_true, if_false, Bool.true_eq_false, Bool.false_eq_true, Bool.not_true, Bool.not_false]
      · rw [hsame]; exact hC
end
end Ht
end Go.Proofs.Ytkhbbjfdbbnojaa
