import Derived.Test.YtfdkacaocngfkaaHunY
set_option linter.unusedVariables false
set_option linter.unusedSimpArgs false
namespace Go.Proofs.Ytfdkacaocngfkaa
open Go Go.AM
namespace Hun

section
variable {nl : Option Bool} {tg : Bool} {l : List Dd} {fx : List (Nat × AObj)} {ls : List Ll} {hid : Nat} {o : AV}

/-! ### pick -/
def fin (s : Nat) (b n : Int) (st : Int × Int) (a : Nat) : Int × Int := if n ≠ b ∧ st.1 < min (a : Int) (s - a) then (min (a : Int) (s - a), n) else st
noncomputable def part (l : List Dd) (s : List Int) (n : Int) : Nat := (flt l.length (rb l n.toNat)).countP fun k => decide (k ∈ s)
noncomputable def stp (l : List Dd) (s : List Int) (b : Int) (st : Int × Int) (n : Int) : Int × Int := fin s.length b n st (part l s n)

theorem partLoop {x h : AV} {s : List Int} {H : Heap} (hs : Src x H s) (hsl : s.length ≤ 200) {zs : List Int} (hz : zs.length ≤ 200) {b n : Int} {st : Int × Int} {n1 : Option Bool} {t1 : Bool} {i : Nat} : ∀ (c j a : Nat), zs.length - j = c → j ≤ zs.length → a ≤ j →
    ∃ st', st' = fin s.length b n st (a + (zs.drop j).countP fun k => decide (k ∈ s)) ∧
    L60_16 [h, x, I b, I st.1, I st.2, I n, I a, x, I s.length, I i, V n1 t1 zs, I zs.length, I j] [] H = L60_33 [h, x, I b, I st'.1, I st'.2, x, I s.length, I i] [] H := by
  intro c
  induction c with
  | zero =>
    intro j a hc hj ha
    have : j = zs.length := by omega
    subst this
    refine ⟨_, rfl, ?_⟩
    rw [L60_16_eq]
    simp only [obs, oms, bin_add, bin_sub, bin_lss, bin_leq, bin_gtr, bin_geq, bin_eql, bin_neq, bin_eqlB, bin_neqB, un_not, cond_B, gd_B, gd_undef, gdH_B, gdH_undef, pickA_B, extractA_tup, lenA_sl, lenA_row, fldA_fp, fldA_ptr, fldA_rptr, List.getElem?_cons_zero, List.getElem?_cons_succ, decide_true, decide_false, if_true, if_false, Bool.true_eq_false, Bool.false_eq_true, Bool.not_true, Bool.not_false]
    rw [if_neg (by simp), hs.len]
    simp only [obs, oms, bin_add, bin_sub, bin_lss, bin_leq, bin_gtr, bin_geq, bin_eql, bin_neq, bin_eqlB, bin_neqB, un_not, cond_B, gd_B, gd_undef, gdH_B, gdH_undef, pickA_B, extractA_tup, lenA_sl, lenA_row, fldA_fp, fldA_ptr, fldA_rptr, List.getElem?_cons_zero, List.getElem?_cons_succ, decide_true, decide_false, if_true, if_false, Bool.true_eq_false, Bool.false_eq_true, Bool.not_true, Bool.not_false, bests_min]
    rw [wrap_id (by omega), List.drop_length]
    simp only [List.countP_nil, Nat.add_zero]
    by_cases h1 : n = b
    · have e : fin s.length b n st a = st := if_neg (fun e => e.1 h1)
      rw [e, h1]
      simp only [obs, oms, bin_add, bin_sub, bin_lss, bin_leq, bin_gtr, bin_geq, bin_eql, bin_neq, bin_eqlB, bin_neqB, un_not, cond_B, gd_B, gd_undef, gdH_B, gdH_undef, pickA_B, extractA_tup, lenA_sl, lenA_row, fldA_fp, fldA_ptr, fldA_rptr, List.getElem?_cons_zero, List.getElem?_cons_succ, decide_true, decide_false, if_true, if_false, Bool.true_eq_false, Bool.false_eq_true, Bool.not_true, Bool.not_false]
    · by_cases h2 : st.1 < min (a : Int) (s.length - a)
      · have e : fin s.length b n st a = (min (a : Int) (s.length - a), n) := if_pos ⟨h1, h2⟩
        rw [e]
        simp only [h1, h2, obs, oms, bin_add, bin_sub, bin_lss, bin_leq, bin_gtr, bin_geq, bin_eql, bin_neq, bin_eqlB, bin_neqB, un_not, cond_B, gd_B, gd_undef, gdH_B, gdH_undef, pickA_B, extractA_tup, lenA_sl, lenA_row, fldA_fp, fldA_ptr, fldA_rptr, List.getElem?_cons_zero, List.getElem?_cons_succ, decide_true, decide_false, if_true, if_false, Bool.true_eq_false, Bool.false_eq_true, Bool.not_true, Bool.not_false]
      · have e : fin s.length b n st a = st := if_neg (fun e => h2 e.2)
        rw [e]
        simp only [h1, h2, obs, oms, bin_add, bin_sub, bin_lss, bin_leq, bin_gtr, bin_geq, bin_eql, bin_neq, bin_eqlB, bin_neqB, un_not, cond_B, gd_B, gd_undef, gdH_B, gdH_undef, pickA_B, extractA_tup, lenA_sl, lenA_row, fldA_fp, fldA_ptr, fldA_rptr, List.getElem?_cons_zero, List.getElem?_cons_succ, decide_true, decide_false, if_true, if_false, Bool.true_eq_false, Bool.false_eq_true, Bool.not_true, Bool.not_false]
  | succ c ih =>
    intro j a hc hj ha
    have hj' : j < zs.length := by omega
    have hd : (zs.drop j).countP (fun k => decide (k ∈ s)) = (if zs[j] ∈ s then 1 else 0) + (zs.drop (j + 1)).countP (fun k => decide (k ∈ s)) := by
      rw [List.drop_eq_getElem_cons hj', List.countP_cons]
      simp only [decide_eq_true_eq]
      omega
    have h74 := call74 (by omega) hs zs[j] []
    rw [L60_16_eq]
    simp only [obs, oms, bin_add, bin_sub, bin_lss, bin_leq, bin_gtr, bin_geq, bin_eql, bin_neq, bin_eqlB, bin_neqB, un_not, cond_B, gd_B, gd_undef, gdH_B, gdH_undef, pickA_B, extractA_tup, lenA_sl, lenA_row, fldA_fp, fldA_ptr, fldA_rptr, List.getElem?_cons_zero, List.getElem?_cons_succ, decide_true, decide_false, if_true, if_false, Bool.true_eq_false, Bool.false_eq_true, Bool.not_true, Bool.not_false]
    rw [if_pos (by simp <;> omega), idxV hj']
    simp only [obs, oms, bin_add, bin_sub, bin_lss, bin_leq, bin_gtr, bin_geq, bin_eql, bin_neq, bin_eqlB, bin_neqB, un_not, cond_B, gd_B, gd_undef, gdH_B, gdH_undef, pickA_B, extractA_tup, lenA_sl, lenA_row, fldA_fp, fldA_ptr, fldA_rptr, List.getElem?_cons_zero, List.getElem?_cons_succ, decide_true, decide_false, if_true, if_false, Bool.true_eq_false, Bool.false_eq_true, Bool.not_true, Bool.not_false, ldV hj', h74]
    have next : ∀ a' : Nat, a' ≤ j + 1 → ∃ st', st' = fin s.length b n st (a' + (zs.drop (j + 1)).countP fun k => decide (k ∈ s)) ∧
        L60_25 [h, x, I b, I st.1, I st.2, I n, I a', x, I s.length, I i, V n1 t1 zs, I zs.length, I j] [] H = L60_33 [h, x, I b, I st'.1, I st'.2, x, I s.length, I i] [] H := by
      intro a' h'
      obtain ⟨st', e1, e2⟩ := ih (j + 1) a' (by omega) (by omega) h'
      refine ⟨st', e1, ?_⟩
      rw [L60_25_eq]
      simp only [obs, oms, bin_add, bin_sub, bin_lss, bin_leq, bin_gtr, bin_geq, bin_eql, bin_neq, bin_eqlB, bin_neqB, un_not, cond_B, gd_B, gd_undef, gdH_B, gdH_undef, pickA_B, extractA_tup, lenA_sl, lenA_row, fldA_fp, fldA_ptr, fldA_rptr, List.getElem?_cons_zero, List.getElem?_cons_succ, decide_true, decide_false, if_true, if_false, Bool.true_eq_false, Bool.false_eq_true, Bool.not_true, Bool.not_false]
      rw [wrap_id (by omega), nxt, e2]
    rw [hd]
    by_cases hm : zs[j] ∈ s
    · obtain ⟨st', e1, e2⟩ := next (a + 1) (by omega)
      refine ⟨st', by rw [e1, if_pos hm]; congr 1; omega, ?_⟩
      rw [if_pos (by simpa using hm), wrap_id (by omega), nxt, e2]
    · obtain ⟨st', e1, e2⟩ := next a (by omega)
      refine ⟨st', by rw [e1, if_neg hm, Nat.zero_add], ?_⟩
      rw [if_neg (by simpa using hm), e2]

theorem pickLoop {x : AV} {s : List Int} {H : Heap} (hC : Cx H fx ls) (h2 : (hid, .box [o]) ∈ fx) (ho : (o, 1, l.length, backs l l.length) ∈ ls) (hN : l.length ≤ 200) (hs : Src x H s) (hsl : s.length ≤ 200) (hss : ∀ n ∈ s, ∃ k : Nat, n = k ∧ k < l.length) {b : Int} : ∀ (c i : Nat) (st : Int × Int), s.length - i = c → i ≤ s.length →
    L60_8 [.ptr hid 0, x, I b, I st.1, I st.2, x, I s.length, I i] [] H = some ([I ((s.drop i).foldl (stp l s b) st).2], H) := by
  intro c
  induction c with
  | zero =>
    intro i st hc hi
    have : i = s.length := by omega
    subst this
    rw [L60_8_eq]
    simp only [obs, oms, bin_add, bin_sub, bin_lss, bin_leq, bin_gtr, bin_geq, bin_eql, bin_neq, bin_eqlB, bin_neqB, un_not, cond_B, gd_B, gd_undef, gdH_B, gdH_undef, pickA_B, extractA_tup, lenA_sl, lenA_row, fldA_fp, fldA_ptr, fldA_rptr, List.getElem?_cons_zero, List.getElem?_cons_succ, decide_true, decide_false, if_true, if_false, Bool.true_eq_false, Bool.false_eq_true, Bool.not_true, Bool.not_false]
    rw [if_neg (by simp), List.drop_length]
    rfl
  | succ c ih =>
    intro i st hc hi
    have hi' : i < s.length := by omega
    obtain ⟨p, e1, e2⟩ := hs.get hi'
    obtain ⟨k, hk, hkl⟩ := hss _ (List.getElem_mem hi')
    obtain ⟨q, e3, e4⟩ := rdBack hC ho hkl
    have hfl := flt_len l.length (rb l k)
    obtain ⟨st', e5, e6⟩ := partLoop (h := .ptr hid 0) (n1 := some false) (t1 := false) (b := b) (n := (k : Int)) (st := st) (i := i) hs hsl (zs := flt l.length (rb l k)) (by omega) _ 0 0 rfl (by omega) (by omega)
    have est : st' = stp l s b st s[i] := by
      rw [e5, hk]
      unfold stp part
      rw [List.drop_zero, Nat.zero_add, Int.toNat_natCast]
    rw [L60_8_eq]
    simp only [obs, oms, bin_add, bin_sub, bin_lss, bin_leq, bin_gtr, bin_geq, bin_eql, bin_neq, bin_eqlB, bin_neqB, un_not, cond_B, gd_B, gd_undef, gdH_B, gdH_undef, pickA_B, extractA_tup, lenA_sl, lenA_row, fldA_fp, fldA_ptr, fldA_rptr, List.getElem?_cons_zero, List.getElem?_cons_succ, decide_true, decide_false, if_true, if_false, Bool.true_eq_false, Bool.false_eq_true, Bool.not_true, Bool.not_false]
    rw [if_pos (by simp <;> omega), e1]
    simp only [obs, oms, bin_add, bin_sub, bin_lss, bin_leq, bin_gtr, bin_geq, bin_eql, bin_neq, bin_eqlB, bin_neqB, un_not, cond_B, gd_B, gd_undef, gdH_B, gdH_undef, pickA_B, extractA_tup, lenA_sl, lenA_row, fldA_fp, fldA_ptr, fldA_rptr, List.getElem?_cons_zero, List.getElem?_cons_succ, decide_true, decide_false, if_true, if_false, Bool.true_eq_false, Bool.false_eq_true, Bool.not_true, Bool.not_false, e2, nilCheckA, Nat.zero_add, ldBox hC h2, hk, e3, e4]
    rw [show L60_16 [.ptr hid 0, x, I b, I st.1, I st.2, I k, I 0, x, I s.length, I i, V (some false) false (flt l.length (rb l k)), I (flt l.length (rb l k)).length, I 0] [] H = _ from e6, L60_33_eq]
    simp only [obs, oms, bin_add, bin_sub, bin_lss, bin_leq, bin_gtr, bin_geq, bin_eql, bin_neq, bin_eqlB, bin_neqB, un_not, cond_B, gd_B, gd_undef, gdH_B, gdH_undef, pickA_B, extractA_tup, lenA_sl, lenA_row, fldA_fp, fldA_ptr, fldA_rptr, List.getElem?_cons_zero, List.getElem?_cons_succ, decide_true, decide_false, if_true, if_false, Bool.true_eq_false, Bool.false_eq_true, Bool.not_true, Bool.not_false]
    rw [wrap_id (by omega), nxt, ih (i + 1) st' (by omega) (by omega), List.drop_eq_getElem_cons hi', List.foldl_cons, est]

noncomputable def pickI (l : List Dd) (s : List Int) (b : Int) : Int := (s.foldl (stp l s b) (-1, -1)).2

theorem call60 {x : AV} {s : List Int} {H : Heap} (hC : Cx H fx ls) (h2 : (hid, .box [o]) ∈ fx) (ho : (o, 1, l.length, backs l l.length) ∈ ls) (hN : l.length ≤ 200) (hs : Src x H s) (hsl : s.length ≤ 200) (hss : ∀ n ∈ s, ∃ k : Nat, n = k ∧ k < l.length) (b : Int) :
    callA cfg O 60 [.ptr hid 0, x, I b] [] H = some (I (pickI l s b), H) := by
  have := pickLoop (b := b) hC h2 ho hN hs hsl hss _ 0 (-1, -1) rfl (by omega)
  rw [List.drop_zero] at this
  refine callA_keep (rs := [I (pickI l s b)]) rfl ?_
  rw [f60_eq]
  simp only [hs.len, obs]
  exact this

/-! ### Suspects, Pick -/
noncomputable def resS (l : List Dd) (b : Int) (gs : List Int) : List Int := if wErr l b gs = 0 then ss l b.toNat gs else []
noncomputable def pk (l : List Dd) (b : Nat) (gs : List Int) : Int := pickI l (ss l b gs) b
noncomputable def resP (l : List Dd) (b : Int) (gs : List Int) : Int := if wErr l b gs = 0 then pk l b.toNat gs else -1

theorem ss_in {b : Nat} {gs : List Int} : ∀ n ∈ ss l b gs, ∃ k : Nat, n = k ∧ k < l.length := fun n hn => by
  obtain ⟨k, e, h, _⟩ := flt_nat hn
  exact ⟨k, e, h⟩

theorem wErr_zero {b : Int} {gs : List Int} (h : wErr l b gs = 0) : errF l (b :: gs) = 0 ∧ sb l b.toNat gs b.toNat = true := by
  unfold wErr at h
  by_cases h1 : errF l (b :: gs) = 0
  · rw [if_pos h1] at h
    refine ⟨h1, ?_⟩
    by_cases h2 : sb l b.toNat gs b.toNat = true
    · exact h2
    · rw [if_neg h2] at h; omega
  · rw [if_neg h1] at h; exact (h1 h).elim

theorem call29 (hu : ∀ k, (U l k).length < 2 ^ 63) {n2 : Option Bool} {t2 : Bool} {gs : List Int} (hgl : gs.length < 2 ^ 40) (b : Int) (lo : List Nat) (H : Heap) :
    ∃ n' t', callA cfg O 29 [W nl tg l, I b, V n2 t2 gs] lo H = some (.tup [V n' t' (resS l b gs), I (wErr l b gs)], H) := by
  obtain ⟨k1, k2⟩ := call59 (nl := nl) (tg := tg) (H := []) (fx := []) (ls := []) hu (Cx.nil []) (x := V n2 t2 gs) (gs := gs) hgl (fun H _ => Src.v _ _ _ H) b
  unfold resS
  by_cases h : wErr l b gs = 0
  · obtain ⟨H', hid, o, id, g, m, tail, e, hC⟩ := k2 h
    rw [if_pos h]
    have hrow := Lst.at hC.hd
    refine ⟨if 0 < (ss l b.toNat gs).length then some false else none, false, callA_args (H' := []) (rs := [V (if 0 < (ss l b.toNat gs).length then some false else none) false (ss l b.toNat gs), I 0]) rfl rfl ?_ rfl |>.trans (by rw [h]; rfl)⟩
    rw [f29_eq]
    simp only [e, obs, oms, bin_add, bin_sub, bin_lss, bin_leq, bin_gtr, bin_geq, bin_eql, bin_neq, bin_eqlB, bin_neqB, un_not, cond_B, gd_B, gd_undef, gdH_B, gdH_undef, pickA_B, extractA_tup, lenA_sl, lenA_row, fldA_fp, fldA_ptr, fldA_rptr, List.getElem?_cons_zero, List.getElem?_cons_succ, decide_true, decide_false, if_true, if_false, Bool.true_eq_false, Bool.false_eq_true, Bool.not_true, Bool.not_false]
    refine leave0_all (ps := [_, _]) (H' := H'.set id (.row (g + 1) 1 [])) ?_
    simp only [frzAll, frzA, frzLeaf, toPV, hrow, obs, oms, List.map_cons, List.map_nil]
    rw [if_pos (by simp)]
    simp only [oms, obs]
    congr 5
    rw [List.drop_zero, List.take_append_of_le_length (by simp), List.take_of_length_le (by simp)]
  · obtain ⟨H', e, hC⟩ := k1 h
    rw [if_neg h]
    refine ⟨some true, true, callA_args (H' := []) (rs := [.p nilS, I (wErr l b gs)]) rfl rfl ?_ rfl |>.trans rfl⟩
    rw [f29_eq]
    simp only [e, obs, oms, bin_add, bin_sub, bin_lss, bin_leq, bin_gtr, bin_geq, bin_eql, bin_neq, bin_eqlB, bin_neqB, un_not, cond_B, gd_B, gd_undef, gdH_B, gdH_undef, pickA_B, extractA_tup, lenA_sl, lenA_row, fldA_fp, fldA_ptr, fldA_rptr, List.getElem?_cons_zero, List.getElem?_cons_succ, decide_true, decide_false, if_true, if_false, Bool.true_eq_false, Bool.false_eq_true, Bool.not_true, Bool.not_false]
    rfl

theorem call30 (hu : ∀ k, (U l k).length < 2 ^ 63) {n2 : Option Bool} {t2 : Bool} {gs : List Int} (hgl : gs.length < 2 ^ 40) (b : Int) (lo : List Nat) (H : Heap) :
    callA cfg O 30 [W nl tg l, I b, V n2 t2 gs] lo H = some (.tup [I (max (resP l b gs) 0), B (decide (0 ≤ resP l b gs)), I (wErr l b gs)], H) := by
  obtain ⟨k1, k2⟩ := call59 (nl := nl) (tg := tg) (H := []) (fx := []) (ls := []) hu (Cx.nil []) (x := V n2 t2 gs) (gs := gs) hgl (fun H _ => Src.v _ _ _ H) b
  unfold resP
  by_cases h : wErr l b gs = 0
  · obtain ⟨H', hid, o, id, g, m, tail, e, hC⟩ := k2 h
    obtain ⟨h1, h2, ⟨bn, rfl, hb⟩, h4⟩ := gs_ok (wErr_zero h).1
    have hsl := ss_len (l := l) (bn : Int).toNat gs
    have e2 := call60 hC (List.mem_cons_self ..) (List.mem_cons_of_mem _ (List.mem_cons_self ..)) h1 (ss_src hC) (by omega) ss_in (bn : Int)
    rw [if_pos h, h]
    refine callA_args (H' := []) (rs := [I (max (pk l (bn : Int).toNat gs) 0), B (decide (0 ≤ pk l (bn : Int).toNat gs)), I 0]) rfl rfl ?_ rfl
    rw [f30_eq]
    simp only [e, obs, oms, bin_add, bin_sub, bin_lss, bin_leq, bin_gtr, bin_geq, bin_eql, bin_neq, bin_eqlB, bin_neqB, un_not, cond_B, gd_B, gd_undef, gdH_B, gdH_undef, pickA_B, extractA_tup, lenA_sl, lenA_row, fldA_fp, fldA_ptr, fldA_rptr, List.getElem?_cons_zero, List.getElem?_cons_succ, decide_true, decide_false, if_true, if_false, Bool.true_eq_false, Bool.false_eq_true, Bool.not_true, Bool.not_false]
    simp only [e2, obs, oms, bin_add, bin_sub, bin_lss, bin_leq, bin_gtr, bin_geq, bin_eql, bin_neq, bin_eqlB, bin_neqB, un_not, cond_B, gd_B, gd_undef, gdH_B, gdH_undef, pickA_B, extractA_tup, lenA_sl, lenA_row, fldA_fp, fldA_ptr, fldA_rptr, List.getElem?_cons_zero, List.getElem?_cons_succ, decide_true, decide_false, if_true, if_false, Bool.true_eq_false, Bool.false_eq_true, Bool.not_true, Bool.not_false, bests_max]
    rfl
  · obtain ⟨H', e, hC⟩ := k1 h
    rw [if_neg h]
    refine callA_args (H' := []) (rs := [I 0, B false, I (wErr l b gs)]) rfl rfl ?_ rfl
    rw [f30_eq]
    simp only [e, obs, oms, bin_add, bin_sub, bin_lss, bin_leq, bin_gtr, bin_geq, bin_eql, bin_neq, bin_eqlB, bin_neqB, un_not, cond_B, gd_B, gd_undef, gdH_B, gdH_undef, pickA_B, extractA_tup, lenA_sl, lenA_row, fldA_fp, fldA_ptr, fldA_rptr, List.getElem?_cons_zero, List.getElem?_cons_succ, decide_true, decide_false, if_true, if_false, Bool.true_eq_false, Bool.false_eq_true, Bool.not_true, Bool.not_false, h]
    rfl
end
end Hun
end Go.Proofs.Ytfdkacaocngfkaa
