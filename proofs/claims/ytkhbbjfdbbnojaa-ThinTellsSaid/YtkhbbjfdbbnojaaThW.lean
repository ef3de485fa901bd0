import Derived.Test.YtkhbbjfdbbnojaaThV
set_option linter.unusedVariables false
set_option linter.unusedSimpArgs false
namespace Go.Proofs.Ytkhbbjfdbbnojaa
open Go Go.AM
namespace Th

section
variable {nl : Option Bool} {tg : Bool} {l : List Int} {n at_ : Int}

/-! ### Add -/
/-- A list that is filtered while it is read: one step. -/
theorem app1 {H : Heap} {o : AV} {out : List Int} (x : Int) (hl : out.length < 2 ^ 40) (h : Cx H [] [(o, 1, out.length, out.map Ia)]) : ∃ o' H', appA 1 8 o (.p (.sl (some false) true 1 [Ia x])) H = some (o', H') ∧ Cx H' [] [(o', 1, (out ++ [x]).length, (out ++ [x]).map Ia)] := by
  obtain ⟨o', H', e, h', _⟩ := Cx.app (bytes := 8) (y := .p (.sl (some false) true 1 [Ia x])) [] h (cells1 _ _) rfl (by omega) (by simp only [room]; omega)
  refine ⟨o', H', e, ?_⟩
  have : (o', 1, (out ++ [x]).length, (out ++ [x]).map Ia) = (o', 1, out.length + 1, out.map Ia ++ [Ia x]) := by simp
  rw [this]
  exact h'

theorem take_filter {p : Int → Bool} {i : Nat} (h : i < l.length) : (l.take (i + 1)).filter p = (l.take i).filter p ++ if p l[i] = true then [l[i]] else [] := by
  rw [List.take_add_one, List.getElem?_eq_getElem h, List.filter_append]
  congr 1
  cases hp : p l[i] <;> simp [hp]

theorem loop68 {n2 : Option Bool} {t2 : Bool} {ks : List Int} (hks : ks.Pairwise plt) (hkl : ks.length < 2 ^ 63) (hl : l.length < 2 ^ 40) : ∀ (c i : Nat) (H : Heap) (o : AV), l.length - i = c → i ≤ l.length →
    Cx H [] [(o, 1, ((l.take i).filter fun x => !dec (x ∈ ks)).length, ((l.take i).filter fun x => !dec (x ∈ ks)).map Ia)] →
    ∃ n3 t3 H', L68_18 [V n2 t2 ks, o, V nl tg l, I l.length, I i] [] H = some ([V n2 t2 ks, V n3 t3 (l.filter fun x => !dec (x ∈ ks)), I 0], H') := by
  intro c
  induction c with
  | zero =>
    intro i H o hc hi h
    have : i = l.length := by omega
    subst this
    rw [List.take_length] at h
    have hL : Lst 1 o H _ _ := h.lst _ (List.mem_singleton.mpr rfl)
    obtain ⟨n3, t3, H', e⟩ := hL.frz
    refine ⟨n3, t3, [], ?_⟩
    rw [L68_18_eq]
    simp only [Int.lt_irrefl, obs, oms, bin_add, bin_sub, bin_lss, bin_leq, bin_gtr, bin_geq, bin_eql, bin_neq, bin_eqlB, bin_neqB, un_not, cond_B, gd_B, gd_undef, gdH_B, gdH_undef, pickA_B, extractA_tup, lenA_sl, lenA_row, fldA_fp, fldA_ptr, fldA_rptr, List.getElem?_cons_zero, List.getElem?_cons_succ, decide_true, decide_false, if_true, if_false, Bool.true_eq_false, Bool.false_eq_true, Bool.not_true, Bool.not_false]
    exact leave0_all (H' := H') (ps := [.sl n2 t2 ks.length (ks.map Ia), .sl n3 t3 (l.filter fun x => !dec (x ∈ ks)).length ((l.filter fun x => !dec (x ∈ ks)).map Ia), .v (.int .i64 0)]) (by simp only [frzAll, frzA_p, e, obs, oms]; rfl)
  | succ c ih =>
    intro i H o hc hi h
    have hi' : i < l.length := by omega
    have hlt : (i : Int) < l.length := by omega
    have w : IntKind.i64.wrap ((i : Int) + 1) = ((i + 1 : Nat) : Int) := by rw [wrap_id (by omega), nxt]
    obtain ⟨r, hr, c98⟩ := call98 (nl := n2) (tg := t2) (x := l[i]) hks hkl
    have hfl : ((l.take i).filter fun x => !dec (x ∈ ks)).length ≤ i := Nat.le_trans (List.length_filter_le _ _) (by simp; omega)
    cases hd : dec (l[i] ∈ ks) with
    | true =>
      have e1 := take_filter (p := fun x => !dec (x ∈ ks)) hi'
      rw [hd, if_neg (by simp), List.append_nil] at e1
      rw [← e1] at h
      obtain ⟨n3, t3, H', e⟩ := ih (i + 1) H o (by omega) (by omega) h
      refine ⟨n3, t3, H', ?_⟩
      rw [hd] at c98
      rw [L68_18_eq]
      simp only [hlt, idxV hi', ldV hi', c98, L68_29_eq, w, obs, oms, bin_add, bin_sub, bin_lss, bin_leq, bin_gtr, bin_geq, bin_eql, bin_neq, bin_eqlB, bin_neqB, un_not, cond_B, gd_B, gd_undef, gdH_B, gdH_undef, pickA_B, extractA_tup, lenA_sl, lenA_row, fldA_fp, fldA_ptr, fldA_rptr, List.getElem?_cons_zero, List.getElem?_cons_succ, decide_true, decide_false, if_true, if_false, Bool.true_eq_false, Bool.false_eq_true, Bool.not_true, Bool.not_false]
      exact e
    | false =>
      have e1 := take_filter (p := fun x => !dec (x ∈ ks)) hi'
      rw [hd, if_pos (by simp)] at e1
      obtain ⟨o', H1, ea, h1⟩ := app1 l[i] (by omega) h
      rw [← e1] at h1
      obtain ⟨n3, t3, H', e⟩ := ih (i + 1) H1 o' (by omega) (by omega) h1
      refine ⟨n3, t3, H', ?_⟩
      rw [hd] at c98
      rw [L68_18_eq]
      simp only [hlt, idxV hi', ldV hi', c98, lit1, ea, L68_29_eq, w, obs, oms, bin_add, bin_sub, bin_lss, bin_leq, bin_gtr, bin_geq, bin_eql, bin_neq, bin_eqlB, bin_neqB, un_not, cond_B, gd_B, gd_undef, gdH_B, gdH_undef, pickA_B, extractA_tup, lenA_sl, lenA_row, fldA_fp, fldA_ptr, fldA_rptr, List.getElem?_cons_zero, List.getElem?_cons_succ, decide_true, decide_false, if_true, if_false, Bool.true_eq_false, Bool.false_eq_true, Bool.not_true, Bool.not_false]
      exact e

noncomputable def addC (l : List Int) (n : Int) : Int := if n < 1 ∨ 4000 < n then 1 else if dec (l = kp (n - 1).toNat) = true then 0 else 3
noncomputable def addA (l : List Int) (n : Int) : List Int := if addC l n = 0 then kp n.toNat else []
noncomputable def addB (l : List Int) (n : Int) : List Int := if addC l n = 0 then l.filter fun x => !dec (x ∈ kp n.toNat) else []

theorem call68 (hl : l.length < 2 ^ 63) (lo : List Nat) (H : Heap) : ∃ n2 t2 n3 t3, callA cfg O 68 [V nl tg l, I n] lo H = some (.tup [V n2 t2 (addA l n), V n3 t3 (addB l n), I (addC l n)], H) := by
  have nilV : (AV.p nilS) = V (some true) true [] := rfl
  by_cases h : n < 1 ∨ 4000 < n
  · have hc : addC l n = 1 := if_pos h
    have ha : addA l n = [] := if_neg (by rw [hc]; omega)
    have hb : addB l n = [] := if_neg (by rw [hc]; omega)
    rw [ha, hb, hc]
    refine ⟨some true, true, some true, true, callA_pure (xs := [.sl nl tg l.length (l.map Ia), Ia n]) (H' := []) (rs := [.p nilS, .p nilS, I 1]) rfl ?_ rfl⟩
    show O.ent 68 [V nl tg l, I n] [] [] = _
    rw [f68_eq]
    by_cases h1 : n < 1
    · simp only [h1, obs, oms, bin_add, bin_sub, bin_lss, bin_leq, bin_gtr, bin_geq, bin_eql, bin_neq, bin_eqlB, bin_neqB, un_not, cond_B, gd_B, gd_undef, gdH_B, gdH_undef, pickA_B, extractA_tup, lenA_sl, lenA_row, fldA_fp, fldA_ptr, fldA_rptr, List.getElem?_cons_zero, List.getElem?_cons_succ, decide_true, decide_false, if_true, if_false, Bool.true_eq_false, Bool.false_eq_true, Bool.not_true, Bool.not_false]; rfl
    · have h2 : 4000 < n := by omega
      simp only [h1, h2, obs, oms, bin_add, bin_sub, bin_lss, bin_leq, bin_gtr, bin_geq, bin_eql, bin_neq, bin_eqlB, bin_neqB, un_not, cond_B, gd_B, gd_undef, gdH_B, gdH_undef, pickA_B, extractA_tup, lenA_sl, lenA_row, fldA_fp, fldA_ptr, fldA_rptr, List.getElem?_cons_zero, List.getElem?_cons_succ, decide_true, decide_false, if_true, if_false, Bool.true_eq_false, Bool.false_eq_true, Bool.not_true, Bool.not_false]; rfl
  · obtain ⟨m, rfl⟩ : ∃ m : Nat, n = m := ⟨n.toNat, by omega⟩
    have hm : ((m : Int) - 1).toNat = m - 1 := by omega
    have h1 : ¬ (m : Int) < 1 := by omega
    have h2 : ¬ 4000 < (m : Int) := by omega
    have w : IntKind.i64.wrap ((m : Int) - 1) = ((m - 1 : Nat) : Int) := by rw [wrap_id (by omega)]; omega
    obtain ⟨n4, t4, c126⟩ := call126 (n := m - 1) (by omega)
    obtain ⟨n5, t5, c126'⟩ := call126 (n := m) (by omega)
    cases hd : dec (l = kp (m - 1)) with
    | false =>
      have hc : addC l m = 3 := by unfold addC; rw [if_neg h, hm, hd, if_neg (by simp)]
      have ha : addA l m = [] := if_neg (by rw [hc]; omega)
      have hb : addB l m = [] := if_neg (by rw [hc]; omega)
      rw [ha, hb, hc]
      refine ⟨some true, true, some true, true, callA_pure (xs := [.sl nl tg l.length (l.map Ia), Ia m]) (H' := []) (rs := [.p nilS, .p nilS, I 3]) rfl ?_ rfl⟩
      show O.ent 68 [V nl tg l, I m] [] [] = _
      rw [f68_eq]
      simp only [h1, h2, w, c126, call101 hl, hd, obs, oms, bin_add, bin_sub, bin_lss, bin_leq, bin_gtr, bin_geq, bin_eql, bin_neq, bin_eqlB, bin_neqB, un_not, cond_B, gd_B, gd_undef, gdH_B, gdH_undef, pickA_B, extractA_tup, lenA_sl, lenA_row, fldA_fp, fldA_ptr, fldA_rptr, List.getElem?_cons_zero, List.getElem?_cons_succ, decide_true, decide_false, if_true, if_false, Bool.true_eq_false, Bool.false_eq_true, Bool.not_true, Bool.not_false]; rfl
    | true =>
      have hc : addC l m = 0 := by unfold addC; rw [if_neg h, hm, hd, if_pos rfl]
      have ha : addA l m = kp m := by unfold addA; rw [if_pos hc, Int.toNat_natCast]
      have hb : addB l m = l.filter fun x => !dec (x ∈ kp m) := by unfold addB; rw [if_pos hc, Int.toNat_natCast]
      rw [ha, hb, hc]
      obtain ⟨n3, t3, H', e⟩ := loop68 (nl := nl) (tg := tg) (n2 := n5) (t2 := t5) (ks := kp m) (kp_sorted m) (by have := kp_len m; omega) (by have := kp_len (m - 1); rw [dec_iff.mp hd]; omega) l.length 0 [] (.p nilS) rfl (by omega) ((Cx.nil []).newNil 1)
      refine ⟨n5, t5, n3, t3, callA_pure (xs := [.sl nl tg l.length (l.map Ia), Ia m]) (H' := H') (rs := [V n5 t5 (kp m), V n3 t3 (l.filter fun x => !dec (x ∈ kp m)), I 0]) rfl ?_ rfl⟩
      show O.ent 68 [V nl tg l, I m] [] [] = _
      rw [f68_eq]
      simp only [h1, h2, w, c126, call101 hl, hd, c126', obs, oms, bin_add, bin_sub, bin_lss, bin_leq, bin_gtr, bin_geq, bin_eql, bin_neq, bin_eqlB, bin_neqB, un_not, cond_B, gd_B, gd_undef, gdH_B, gdH_undef, pickA_B, extractA_tup, lenA_sl, lenA_row, fldA_fp, fldA_ptr, fldA_rptr, List.getElem?_cons_zero, List.getElem?_cons_succ, decide_true, decide_false, if_true, if_false, Bool.true_eq_false, Bool.false_eq_true, Bool.not_true, Bool.not_false]
      exact e

/-! ### From -/
def okL (l : List Int) : Prop := (-1 :: l).Pairwise plt
def lastLe (at_ : Int) (l : List Int) : Option Int := (l.filter fun x => decide (x ≤ at_)).getLast?

theorem okL_step {i : Nat} (h : i < l.length) : okL (l.take (i + 1)) ↔ okL (l.take i) ∧ ((-1 :: l.take i).getLast (by simp)) < l[i] := by
  unfold okL
  rw [List.take_add_one, List.getElem?_eq_getElem h, Option.toList_some, ← List.cons_append, List.pairwise_append]
  constructor
  · intro ⟨h1, _, h3⟩
    exact ⟨h1, h3 _ (List.getLast_mem _) _ (by simp)⟩
  · intro ⟨h1, h2⟩
    refine ⟨h1, List.pairwise_singleton .., fun x hx y hy => ?_⟩
    simp only [List.mem_singleton] at hy
    subst hy
    have hmx : x ≤ (-1 :: l.take i).getLast (by simp) := by
      have := List.dropLast_concat_getLast (l := -1 :: l.take i) (by simp)
      rw [← this] at hx h1
      rcases List.mem_append.mp hx with h3 | h3
      · have h4 : x < _ := (List.pairwise_append.mp h1).2.2 x h3 _ (List.mem_singleton.mpr rfl)
        omega
      · simp only [List.mem_singleton] at h3
        omega
    show x < l[i]
    omega
theorem prev_last {i : Nat} (h : i < l.length) : (-1 :: l.take (i + 1)).getLast (by simp) = l[i] := by
  rw [List.getLast_eq_getElem]
  simp only [List.length_cons, List.length_take, Nat.add_sub_cancel]
  have : min (i + 1) l.length = i + 1 := by omega
  simp only [this, List.getElem_cons_succ, List.getElem_take]

theorem lastLe_step {i : Nat} (h : i < l.length) : lastLe at_ (l.take (i + 1)) = if l[i] ≤ at_ then some l[i] else lastLe at_ (l.take i) := by
  unfold lastLe
  rw [take_filter h]
  by_cases h1 : l[i] ≤ at_
  · simp [h1]
  · simp [h1]
theorem lastLe_some {l : List Int} (hs : l.Pairwise plt) {y : Int} (hy : y ∈ l) (h1 : y ≤ at_) (h2 : ∀ z, z ∈ l → z ≤ at_ → z ≤ y) : lastLe at_ l = some y := by
  unfold lastLe
  have hF : (l.filter fun x => decide (x ≤ at_)).Pairwise plt := hs.filter _
  have hyF : y ∈ l.filter fun x => decide (x ≤ at_) := List.mem_filter.mpr ⟨hy, by simpa using h1⟩
  have h3 : ∀ z, z ∈ (l.filter fun x => decide (x ≤ at_)) → z ≤ y := fun z hz => h2 z (List.mem_filter.mp hz).1 (by simpa using (List.mem_filter.mp hz).2)
  generalize (l.filter fun x => decide (x ≤ at_)) = F at *
  have hne : F ≠ [] := by intro e; rw [e] at hyF; cases hyF
  rw [List.getLast?_eq_some_getLast hne]
  congr 1
  have h4 := h3 _ (List.getLast_mem hne)
  have hd := List.dropLast_concat_getLast hne
  rw [← hd] at hyF hF
  rcases List.mem_append.mp hyF with h5 | h5
  · have h6 : y < F.getLast hne := (List.pairwise_append.mp hF).2.2 y h5 _ (List.mem_singleton.mpr rfl)
    omega
  · simp only [List.mem_singleton] at h5
    exact h5.symm
theorem lastLe_none {l : List Int} (h : ∀ z, z ∈ l → ¬ z ≤ at_) : lastLe at_ l = none := by
  unfold lastLe
  rw [List.filter_eq_nil_iff.mpr fun z hz => by simpa using h z hz]
  rfl

noncomputable def frC (l : List Int) (at_ : Int) : Int := if dec (okL l) = true then (if (lastLe at_ l).isSome = true then 0 else 5) else 3
noncomputable def frK (l : List Int) (at_ : Int) : Int := if dec (okL l) = true then (lastLe at_ l).getD 0 else 0

theorem loop69 (hl : l.length < 2 ^ 63) : ∀ (c i : Nat) (p : Int), l.length - i = c → i ≤ l.length → okL (l.take i) → p = (-1 :: l.take i).getLast (by simp) →
    L69_8 [V nl tg l, I at_, I p, V nl tg l, I l.length, I i] [] [] = some ([I (frK l at_), I (frC l at_)], []) := by
  intro c
  induction c with
  | zero =>
    intro i p hc hi hok hp
    have : i = l.length := by omega
    subst this
    rw [List.take_length] at hok
    have hs : l.Pairwise plt := (List.pairwise_cons.mp hok).2
    have hd : dec (okL l) = true := dec_iff.mpr hok
    obtain ⟨r, hF, c98⟩ := call98 (nl := nl) (tg := tg) (x := at_) hs hl
    rw [L69_8_eq]
    by_cases hm : at_ ∈ l
    · have hll : lastLe at_ l = some at_ := lastLe_some hs hm (Int.le_refl _) (fun z _ h => h)
      have e1 : frK l at_ = at_ := by unfold frK; rw [hd, if_pos rfl, hll]; rfl
      have e2 : frC l at_ = 0 := by unfold frC; rw [hd, if_pos rfl, hll]; rfl
      rw [e1, e2]
      rw [dec_iff.mpr hm] at c98
      simp only [Int.lt_irrefl, c98, obs, oms, bin_add, bin_sub, bin_lss, bin_leq, bin_gtr, bin_geq, bin_eql, bin_neq, bin_eqlB, bin_neqB, un_not, cond_B, gd_B, gd_undef, gdH_B, gdH_undef, pickA_B, extractA_tup, lenA_sl, lenA_row, fldA_fp, fldA_ptr, fldA_rptr, List.getElem?_cons_zero, List.getElem?_cons_succ, decide_true, decide_false, if_true, if_false, Bool.true_eq_false, Bool.false_eq_true, Bool.not_true, Bool.not_false]
      rfl
    · rw [dec_f hm] at c98
      by_cases hr : r = 0
      · have hll : lastLe at_ l = none := lastLe_none fun z hz h => by
          obtain ⟨k, hk, e⟩ := List.getElem_of_mem hz
          have := hF.2.2 k hk (by omega)
          have : z ≠ at_ := fun e => hm (e ▸ hz)
          omega
        have e1 : frK l at_ = 0 := by unfold frK; rw [hd, if_pos rfl, hll]; rfl
        have e2 : frC l at_ = 5 := by unfold frC; rw [hd, if_pos rfl, hll]; rfl
        rw [e1, e2]
        have hr' : (r : Int) = 0 := by omega
        simp only [Int.lt_irrefl, c98, hr', obs, oms, bin_add, bin_sub, bin_lss, bin_leq, bin_gtr, bin_geq, bin_eql, bin_neq, bin_eqlB, bin_neqB, un_not, cond_B, gd_B, gd_undef, gdH_B, gdH_undef, pickA_B, extractA_tup, lenA_sl, lenA_row, fldA_fp, fldA_ptr, fldA_rptr, List.getElem?_cons_zero, List.getElem?_cons_succ, decide_true, decide_false, if_true, if_false, Bool.true_eq_false, Bool.false_eq_true, Bool.not_true, Bool.not_false]
        rfl
      · have hrl := hF.1
        have hr1 : r - 1 < l.length := by omega
        have hll : lastLe at_ l = some l[r - 1] := lastLe_some hs (List.getElem_mem _) (by have := hF.2.1 (r - 1) hr1 (by omega); omega) (fun z hz h => by
          obtain ⟨k, hk, e⟩ := List.getElem_of_mem hz
          have hne : z ≠ at_ := fun e => hm (e ▸ hz)
          have hkr : k < r := Nat.not_le.mp fun h2 => by have := hF.2.2 k hk h2; omega
          by_cases e2 : k = r - 1
          · subst e2; omega
          · have h3 : l[k] < l[r - 1] := List.pairwise_iff_getElem.mp hs k (r - 1) hk hr1 (by omega)
            omega)
        have e1 : frK l at_ = l[r - 1] := by unfold frK; rw [hd, if_pos rfl, hll]; rfl
        have e2 : frC l at_ = 0 := by unfold frC; rw [hd, if_pos rfl, hll]; rfl
        rw [e1, e2]
        have hr' : ¬ (r : Int) = 0 := by omega
        have w : IntKind.i64.wrap ((r : Int) - 1) = ((r - 1 : Nat) : Int) := by rw [wrap_id (by omega)]; omega
        simp only [Int.lt_irrefl, c98, hr', w, idxV hr1, ldV hr1, obs, oms, bin_add, bin_sub, bin_lss, bin_leq, bin_gtr, bin_geq, bin_eql, bin_neq, bin_eqlB, bin_neqB, un_not, cond_B, gd_B, gd_undef, gdH_B, gdH_undef, pickA_B, extractA_tup, lenA_sl, lenA_row, fldA_fp, fldA_ptr, fldA_rptr, List.getElem?_cons_zero, List.getElem?_cons_succ, decide_true, decide_false, if_true, if_false, Bool.true_eq_false, Bool.false_eq_true, Bool.not_true, Bool.not_false]
        rfl
  | succ c ih =>
    intro i p hc hi hok hp
    have hi' : i < l.length := by omega
    have hlt : (i : Int) < l.length := by omega
    have w : IntKind.i64.wrap ((i : Int) + 1) = ((i + 1 : Nat) : Int) := by rw [wrap_id (by omega), nxt]
    have hst := okL_step hi'
    rw [← hp] at hst
    rw [L69_8_eq]
    by_cases h : l[i] ≤ p
    · have hno : ¬ okL l := fun h2 => by
        have h3 : okL (l.take (i + 1)) := List.Pairwise.sublist (List.Sublist.cons_cons _ (List.take_sublist _ _)) h2
        have := (hst.mp h3).2
        omega
      have e1 : frK l at_ = 0 := by unfold frK; rw [dec_f hno, if_neg (by simp)]
      have e2 : frC l at_ = 3 := by unfold frC; rw [dec_f hno, if_neg (by simp)]
      rw [e1, e2]
      simp only [hlt, idxV hi', ldV hi', h, obs, oms, bin_add, bin_sub, bin_lss, bin_leq, bin_gtr, bin_geq, bin_eql, bin_neq, bin_eqlB, bin_neqB, un_not, cond_B, gd_B, gd_undef, gdH_B, gdH_undef, pickA_B, extractA_tup, lenA_sl, lenA_row, fldA_fp, fldA_ptr, fldA_rptr, List.getElem?_cons_zero, List.getElem?_cons_succ, decide_true, decide_false, if_true, if_false, Bool.true_eq_false, Bool.false_eq_true, Bool.not_true, Bool.not_false]
      rfl
    · have fin := ih (i + 1) l[i] (by omega) (by omega) (hst.mpr ⟨hok, by omega⟩) (prev_last hi').symm
      simp only [hlt, idxV hi', ldV hi', h, w, obs, oms, bin_add, bin_sub, bin_lss, bin_leq, bin_gtr, bin_geq, bin_eql, bin_neq, bin_eqlB, bin_neqB, un_not, cond_B, gd_B, gd_undef, gdH_B, gdH_undef, pickA_B, extractA_tup, lenA_sl, lenA_row, fldA_fp, fldA_ptr, fldA_rptr, List.getElem?_cons_zero, List.getElem?_cons_succ, decide_true, decide_false, if_true, if_false, Bool.true_eq_false, Bool.false_eq_true, Bool.not_true, Bool.not_false]
      exact fin
theorem call69 (hl : l.length < 2 ^ 63) (lo : List Nat) (H : Heap) : callA cfg O 69 [V nl tg l, I at_] lo H = some (.tup [I (frK l at_), I (frC l at_)], H) := by
  refine callA_pure (xs := [.sl nl tg l.length (l.map Ia), Ia at_]) (H' := []) (rs := [I (frK l at_), I (frC l at_)]) rfl ?_ rfl
  show O.ent 69 [V nl tg l, I at_] [] [] = _
  rw [f69_eq]
  simp only [lenA_sl, obs]
  exact loop69 hl l.length 0 (-1) rfl (by omega) (List.pairwise_singleton ..) rfl
end
end Th
end Go.Proofs.Ytkhbbjfdbbnojaa
