import Derived.Test.YtfdkacaocngfkaaHunX
set_option linter.unusedVariables false
set_option linter.unusedSimpArgs false
namespace Go.Proofs.Ytfdkacaocngfkaa
open Go Go.AM
namespace Hun
abbrev nilP : AV := .p (.v (.pointer none))

section
variable {nl : Option Bool} {tg : Bool} {l : List Dd} {fx : List (Nat × AObj)} {ls : List Ll} {hid : Nat} {o : AV}

theorem errF_i {b : Int} {ps : List Int} (h : errF l (b :: ps) = 0) {i : Nat} (hi : i < l.length) : errF l [(i : Int)] = 0 := by
  obtain ⟨h1, h2, h3⟩ := errF_zero h
  unfold errF
  rw [if_neg (by omega), h2]
  have : outB l.length (i : Int) = false := by simp [outB]; omega
  simp [this]

theorem rb_refl (i : Nat) : rb l i i = true := rb_iff.mpr (.refl i)

theorem back86 (hu : ∀ k, (U l k).length < 2 ^ 63) {i : Nat} (hi : i < l.length) (h : errF l [(i : Int)] = 0) (lo : List Nat) (H : Heap) : callA cfg O 86 [W nl tg l, I i] lo H = some (.tup [.p (bk l i), I 0], H) := by
  obtain ⟨n', t', e, ek⟩ := call86 (nl := nl) (tg := tg) hu (i : Int) lo H
  have hr : resB l (i : Int) = flt l.length (rb l i) := by unfold resB; rw [if_pos h]; rfl
  rw [hr] at e ek
  have hpos : 0 < (flt l.length (rb l i)).length := by
    have : (i : Int) ∈ flt l.length (rb l i) := flt_mem.mpr ⟨hi, rb_refl i⟩
    exact List.length_pos_of_mem this
  obtain ⟨rfl, rfl⟩ := ek hpos
  rw [e, h]
  rfl

theorem beginLoop (hu : ∀ k, (U l k).length < 2 ^ 63) (hN : l.length ≤ 200) (he : ∀ i : Nat, i < l.length → errF l [(i : Int)] = 0) {x : AV} {gs : List Int} (hd : ∀ q ∈ fx, q.1 ≠ hid) (hx : ∀ H, Cx H fx ls → Src x H gs) : ∀ (c i : Nat) (o : AV) (H : Heap), l.length - i = c → i ≤ l.length →
    Cx H ((hid, .box [o]) :: fx) ((o, 1, i, backs l i) :: ls) →
    ∃ o' H', L73_14 [W nl tg l, x, .ptr hid 0, I l.length, I i] [] H = L73_26 [W nl tg l, .ptr hid 0, x, I gs.length, I (0 : Nat)] [] H' ∧ Cx H' ((hid, .box [o']) :: fx) ((o', 1, l.length, backs l l.length) :: ls) := by
  intro c
  induction c with
  | zero =>
    intro i o H hc hi hC
    have : i = l.length := by omega
    subst this
    refine ⟨o, H, ?_, hC⟩
    rw [L73_14_eq]
    simp only [obs, oms, bin_add, bin_sub, bin_lss, bin_leq, bin_gtr, bin_geq, bin_eql, bin_neq, bin_eqlB, bin_neqB, un_not, cond_B, gd_B, gd_undef, gdH_B, gdH_undef, pickA_B, extractA_tup, lenA_sl, lenA_row, fldA_fp, fldA_ptr, fldA_rptr, List.getElem?_cons_zero, List.getElem?_cons_succ, decide_true, decide_false, if_true, if_false, Bool.true_eq_false, Bool.false_eq_true, Bool.not_true, Bool.not_false]
    rw [if_neg (by simp), (hx _ hC.bt.tl).len]
    rfl
  | succ c ih =>
    intro i o H hc hi hC
    have hi' : i < l.length := by omega
    obtain ⟨o', H', ea, hC', id, g, rfl⟩ := hC.app (bytes := 24) (y := .p (.sl (some false) true 1 [bk l i])) [] (cells1 _ _) rfl (by omega) (by simp only [room]; omega)
    have hst : stA 1 (.ptr hid 0) (.row id g 0 (i + 1)) [] H' = some (H'.set hid (.box [.row id g 0 (i + 1)])) :=
      stA_box (hC'.box (hid, [o]) (List.mem_cons_self ..)) rfl (by simp) rfl rfl
    have hC2 := hC'.setBox hd [.row id g 0 (i + 1)]
    have hlit : litA false 1 [.p (bk l i)] H = some (.p (.sl (some false) true 1 [bk l i]), H) := rfl
    have hb : backs l (i + 1) = backs l i ++ [bk l i] := by simp [backs, List.range_succ]
    rw [L73_14_eq]
    simp only [obs, oms, bin_add, bin_sub, bin_lss, bin_leq, bin_gtr, bin_geq, bin_eql, bin_neq, bin_eqlB, bin_neqB, un_not, cond_B, gd_B, gd_undef, gdH_B, gdH_undef, pickA_B, extractA_tup, lenA_sl, lenA_row, fldA_fp, fldA_ptr, fldA_rptr, List.getElem?_cons_zero, List.getElem?_cons_succ, decide_true, decide_false, if_true, if_false, Bool.true_eq_false, Bool.false_eq_true, Bool.not_true, Bool.not_false]
    rw [if_pos (by simp <;> omega)]
    simp only [back86 hu hi' (he i hi'), obs, oms, bin_add, bin_sub, bin_lss, bin_leq, bin_gtr, bin_geq, bin_eql, bin_neq, bin_eqlB, bin_neqB, un_not, cond_B, gd_B, gd_undef, gdH_B, gdH_undef, pickA_B, extractA_tup, lenA_sl, lenA_row, fldA_fp, fldA_ptr, fldA_rptr, List.getElem?_cons_zero, List.getElem?_cons_succ, decide_true, decide_false, if_true, if_false, Bool.true_eq_false, Bool.false_eq_true, Bool.not_true, Bool.not_false, nilCheckA, Nat.zero_add, ldBox hC (List.mem_cons_self ..), hlit, ea, hst]
    rw [wrap_id (by omega), nxt]
    exact ih (i + 1) (.row id g 0 (i + 1)) _ (by omega) (by omega) (by rw [hb]; exact hC2)

theorem goodLoop (hN : l.length ≤ 200) {x : AV} {gs : List Int} (hgl : gs.length < 2 ^ 40) {H : Heap} (hx : Src x H gs) {h : AV} : ∀ (c i : Nat), gs.length - i = c → i ≤ gs.length →
    L73_26 [W nl tg l, h, x, I gs.length, I i] [] H = some (if (gs.drop i).any (outB l.length) = true then [nilP, I 1] else [h, I 0], H) := by
  intro c
  induction c with
  | zero =>
    intro i hc hi
    have : i = gs.length := by omega
    subst this
    rw [L73_26_eq]
    simp only [obs, oms, bin_add, bin_sub, bin_lss, bin_leq, bin_gtr, bin_geq, bin_eql, bin_neq, bin_eqlB, bin_neqB, un_not, cond_B, gd_B, gd_undef, gdH_B, gdH_undef, pickA_B, extractA_tup, lenA_sl, lenA_row, fldA_fp, fldA_ptr, fldA_rptr, List.getElem?_cons_zero, List.getElem?_cons_succ, decide_true, decide_false, if_true, if_false, Bool.true_eq_false, Bool.false_eq_true, Bool.not_true, Bool.not_false]
    rw [if_neg (by simp)]
    simp
    rfl
  | succ c ih =>
    intro i hc hi
    have hi' : i < gs.length := by omega
    have hd : (gs.drop i).any (outB l.length) = (outB l.length gs[i] || (gs.drop (i + 1)).any (outB l.length)) := by rw [List.drop_eq_getElem_cons hi', List.any_cons]
    obtain ⟨p, e1, e2⟩ := hx.get hi'
    rw [L73_26_eq, hd]
    simp only [obs, oms, bin_add, bin_sub, bin_lss, bin_leq, bin_gtr, bin_geq, bin_eql, bin_neq, bin_eqlB, bin_neqB, un_not, cond_B, gd_B, gd_undef, gdH_B, gdH_undef, pickA_B, extractA_tup, lenA_sl, lenA_row, fldA_fp, fldA_ptr, fldA_rptr, List.getElem?_cons_zero, List.getElem?_cons_succ, decide_true, decide_false, if_true, if_false, Bool.true_eq_false, Bool.false_eq_true, Bool.not_true, Bool.not_false]
    rw [if_pos (by simp <;> omega), e1]
    simp only [obs, oms, bin_add, bin_sub, bin_lss, bin_leq, bin_gtr, bin_geq, bin_eql, bin_neq, bin_eqlB, bin_neqB, un_not, cond_B, gd_B, gd_undef, gdH_B, gdH_undef, pickA_B, extractA_tup, lenA_sl, lenA_row, fldA_fp, fldA_ptr, fldA_rptr, List.getElem?_cons_zero, List.getElem?_cons_succ, decide_true, decide_false, if_true, if_false, Bool.true_eq_false, Bool.false_eq_true, Bool.not_true, Bool.not_false, e2]
    rw [wrap_id (by omega), nxt, ih (i + 1) (by omega) (by omega)]
    unfold outB
    by_cases h : gs[i] < 0
    · simp only [h, obs, oms, bin_add, bin_sub, bin_lss, bin_leq, bin_gtr, bin_geq, bin_eql, bin_neq, bin_eqlB, bin_neqB, un_not, cond_B, gd_B, gd_undef, gdH_B, gdH_undef, pickA_B, extractA_tup, lenA_sl, lenA_row, fldA_fp, fldA_ptr, fldA_rptr, List.getElem?_cons_zero, List.getElem?_cons_succ, decide_true, decide_false, if_true, if_false, Bool.true_eq_false, Bool.false_eq_true, Bool.not_true, Bool.not_false, Bool.true_or]
      rfl
    · simp only [h, obs, oms, bin_add, bin_sub, bin_lss, bin_leq, bin_gtr, bin_geq, bin_eql, bin_neq, bin_eqlB, bin_neqB, un_not, cond_B, gd_B, gd_undef, gdH_B, gdH_undef, pickA_B, extractA_tup, lenA_sl, lenA_row, fldA_fp, fldA_ptr, fldA_rptr, List.getElem?_cons_zero, List.getElem?_cons_succ, decide_true, decide_false, if_true, if_false, Bool.true_eq_false, Bool.false_eq_true, Bool.not_true, Bool.not_false, Bool.false_or]
      by_cases h2 : (l.length : Int) ≤ gs[i]
      · simp only [h2, obs, oms, bin_add, bin_sub, bin_lss, bin_leq, bin_gtr, bin_geq, bin_eql, bin_neq, bin_eqlB, bin_neqB, un_not, cond_B, gd_B, gd_undef, gdH_B, gdH_undef, pickA_B, extractA_tup, lenA_sl, lenA_row, fldA_fp, fldA_ptr, fldA_rptr, List.getElem?_cons_zero, List.getElem?_cons_succ, decide_true, decide_false, if_true, if_false, Bool.true_eq_false, Bool.false_eq_true, Bool.not_true, Bool.not_false, Bool.true_or]
        rfl
      · simp only [h2, obs, oms, bin_add, bin_sub, bin_lss, bin_leq, bin_gtr, bin_geq, bin_eql, bin_neq, bin_eqlB, bin_neqB, un_not, cond_B, gd_B, gd_undef, gdH_B, gdH_undef, pickA_B, extractA_tup, lenA_sl, lenA_row, fldA_fp, fldA_ptr, fldA_rptr, List.getElem?_cons_zero, List.getElem?_cons_succ, decide_true, decide_false, if_true, if_false, Bool.true_eq_false, Bool.false_eq_true, Bool.not_true, Bool.not_false, Bool.false_or]

theorem errF_split (b : Int) (ps : List Int) : errF l (b :: ps) = if errF l [b] = 0 then (if ps.any (outB l.length) = true then 1 else 0) else errF l [b] := by
  unfold errF
  by_cases h1 : 200 < l.length
  · simp [h1]
  · cases h2 : bad l with
    | true => simp [h1]
    | false =>
      cases h3 : outB l.length b with
      | true => simp [h1, h3]
      | false => simp [h1, h3]

theorem call73 (hu : ∀ k, (U l k).length < 2 ^ 63) {H : Heap} (hC : Cx H fx ls) {x : AV} {gs : List Int} (hgl : gs.length < 2 ^ 40) (hx : ∀ H, Cx H fx ls → Src x H gs) (b : Int) :
    (errF l (b :: gs) ≠ 0 → ∃ H', callA cfg O 73 [W nl tg l, I b, x] [] H = some (.tup [nilP, I (errF l (b :: gs))], H') ∧ Cx H' fx ls) ∧
    (errF l (b :: gs) = 0 → ∃ H' hid o, callA cfg O 73 [W nl tg l, I b, x] [] H = some (.tup [.ptr hid 0, I 0], H') ∧ Cx H' ((hid, .box [o]) :: fx) ((o, 1, l.length, backs l l.length) :: ls)) := by
  obtain ⟨n', t', e86, _⟩ := call86 (nl := nl) (tg := tg) hu b [] H
  by_cases h : errF l [b] = 0
  · have he : ∀ i : Nat, i < l.length → errF l [(i : Int)] = 0 := fun i hi => errF_i h hi
    obtain ⟨h1, h2, h3⟩ := errF_zero h
    have b1 : boxO [] (AV.cells (.agg [.p nilS])) H = some (.ptr H.length 0, H ++ [.box [.p nilS]]) := boxO_p [nilS] H
    obtain ⟨o', H', e1, hC'⟩ := beginLoop (nl := nl) (tg := tg) hu h1 he hC.lt hx _ 0 (.p nilS) (H ++ [.box [.p nilS]]) rfl (by omega) ((hC.newBox [.p nilS]).newNil 1)
    have e2 := goodLoop (nl := nl) (tg := tg) (h := .ptr H.length 0) h1 hgl (hx _ hC'.bt.tl) _ 0 rfl (by omega)
    have key : O.ent 73 [W nl tg l, I b, x] [] H = some (if gs.any (outB l.length) = true then [nilP, I 1] else [.ptr H.length 0, I 0], H') := by
      rw [f73_eq]
      have bu : buildA [.p nilS] [] = some (.agg [.p nilS]) := rfl
      simp only [e86, h, obs, oms, bin_add, bin_sub, bin_lss, bin_leq, bin_gtr, bin_geq, bin_eql, bin_neq, bin_eqlB, bin_neqB, un_not, cond_B, gd_B, gd_undef, gdH_B, gdH_undef, pickA_B, extractA_tup, lenA_sl, lenA_row, fldA_fp, fldA_ptr, fldA_rptr, List.getElem?_cons_zero, List.getElem?_cons_succ, decide_true, decide_false, if_true, if_false, Bool.true_eq_false, Bool.false_eq_true, Bool.not_true, Bool.not_false, bu, b1]
      rw [show L73_14 [W nl tg l, x, .ptr H.length 0, I l.length, I 0] [] (H ++ [.box [.p nilS]]) = _ from e1, e2, List.drop_zero]
    have hs := errF_split (l := l) b gs
    rw [if_pos h] at hs
    rw [hs]
    cases hg : gs.any (outB l.length) with
    | true =>
      rw [hg] at key
      exact ⟨fun _ => ⟨H', callA_keep (rs := [nilP, I 1]) rfl key, hC'.bt.tl⟩, fun e => by simp at e⟩
    | false =>
      rw [hg] at key
      exact ⟨fun e => by simp at e, fun _ => ⟨H', _, o', callA_keep (rs := [.ptr H.length 0, I 0]) rfl key, hC'⟩⟩
  · have hs := errF_split (l := l) b gs
    rw [if_neg h] at hs
    rw [hs]
    refine ⟨fun _ => ⟨H, callA_keep (rs := [nilP, I (errF l [b])]) rfl ?_, hC⟩, fun e => (h e).elim⟩
    rw [f73_eq]
    simp only [e86, h, obs, oms, bin_add, bin_sub, bin_lss, bin_leq, bin_gtr, bin_geq, bin_eql, bin_neq, bin_eqlB, bin_neqB, un_not, cond_B, gd_B, gd_undef, gdH_B, gdH_undef, pickA_B, extractA_tup, lenA_sl, lenA_row, fldA_fp, fldA_ptr, fldA_rptr, List.getElem?_cons_zero, List.getElem?_cons_succ, decide_true, decide_false, if_true, if_false, Bool.true_eq_false, Bool.false_eq_true, Bool.not_true, Bool.not_false]
    rfl

/-! ### asked -/
noncomputable def wErr (l : List Dd) (b : Int) (gs : List Int) : Int := if errF l (b :: gs) = 0 then (if sb l b.toNat gs b.toNat = true then 0 else 8) else errF l (b :: gs)

theorem gs_ok {b : Int} {gs : List Int} (h : errF l (b :: gs) = 0) : l.length ≤ 200 ∧ Valid l ∧ (∃ m : Nat, b = m ∧ m < l.length) ∧ ∀ g ∈ gs, 0 ≤ g ∧ g < (l.length : Int) := by
  obtain ⟨h1, h2, h3⟩ := errF_zero h
  rw [List.any_cons, Bool.or_eq_false_iff] at h3
  refine ⟨h1, valid_of h2, in_of h3.1, fun g hg => ?_⟩
  have := List.any_eq_false.mp h3.2 g hg
  obtain ⟨m, rfl, hm⟩ := in_of (Bool.eq_false_iff.mpr this)
  omega

theorem ss_src {H : Heap} {id g m : Nat} {tail : List PV} {zs : List Int} (h : Cx H fx ((.row id g 0 m, 1, m, zs.map Ia ++ tail) :: ls)) : Src (.row id g 0 zs.length) H zs := .inr ⟨id, g, tail, rfl, Lst.at h.hd⟩

theorem call59 (hu : ∀ k, (U l k).length < 2 ^ 63) {H : Heap} (hC : Cx H fx ls) {x : AV} {gs : List Int} (hgl : gs.length < 2 ^ 40) (hx : ∀ H, Cx H fx ls → Src x H gs) (b : Int) :
    (wErr l b gs ≠ 0 → ∃ H', callA cfg O 59 [W nl tg l, I b, x] [] H = some (.tup [nilP, .p nilS, I (wErr l b gs)], H') ∧ Cx H' fx ls) ∧
    (wErr l b gs = 0 → ∃ H' hid o id g m tail, callA cfg O 59 [W nl tg l, I b, x] [] H = some (.tup [.ptr hid 0, .row id g 0 (ss l b.toNat gs).length, I 0], H') ∧
      Cx H' ((hid, .box [o]) :: fx) ((.row id g 0 m, 1, m, (ss l b.toNat gs).map Ia ++ tail) :: (o, 1, l.length, backs l l.length) :: ls)) := by
  obtain ⟨k1, k2⟩ := call73 (nl := nl) (tg := tg) hu hC hgl hx b
  unfold wErr
  by_cases h : errF l (b :: gs) = 0
  · obtain ⟨H1, hid, o, e1, hC1⟩ := k2 h
    obtain ⟨hN, hv, ⟨bn, rfl, hb⟩, hgs⟩ := gs_ok h
    obtain ⟨H2, id, g, m, tail, e2, hC2⟩ := call61 hC1 (x := x) (gs := gs) (List.mem_cons_self ..) (List.mem_cons_self ..) (fun H h => hx H h.bt.tl) hN hgl hgs hb
    have hsl := ss_len (l := l) bn gs
    have e3 := call74 (by omega) (ss_src hC2) (bn : Int) []
    have hmem : decide ((bn : Int) ∈ ss l bn gs) = sb l bn gs bn := by
      rw [Bool.eq_iff_iff, decide_eq_true_eq]
      unfold ss
      rw [flt_mem]
      exact ⟨fun h => h.2, fun h => ⟨hb, h⟩⟩
    rw [hmem] at e3
    simp only [h, if_true, Int.toNat_natCast]
    by_cases hs : sb l bn gs bn = true
    · refine ⟨fun e => by simp [hs] at e, fun _ => ⟨H2, hid, o, id, g, m, tail, callA_keep (rs := [_, _, _]) rfl ?_, hC2⟩⟩
      rw [f59_eq]
      simp only [e1, obs, oms, bin_add, bin_sub, bin_lss, bin_leq, bin_gtr, bin_geq, bin_eql, bin_neq, bin_eqlB, bin_neqB, un_not, cond_B, gd_B, gd_undef, gdH_B, gdH_undef, pickA_B, extractA_tup, lenA_sl, lenA_row, fldA_fp, fldA_ptr, fldA_rptr, List.getElem?_cons_zero, List.getElem?_cons_succ, decide_true, decide_false, if_true, if_false, Bool.true_eq_false, Bool.false_eq_true, Bool.not_true, Bool.not_false, e2, e3, hs]
      rfl
    · have hs' : sb l bn gs bn = false := by simpa using hs
      simp only [hs', Bool.false_eq_true, if_false]
      refine ⟨fun _ => ⟨H2, callA_keep (rs := [nilP, .p nilS, I 8]) rfl ?_, hC2.bt.tl.tl⟩, fun e => by simp at e⟩
      rw [f59_eq]
      simp only [e1, obs, oms, bin_add, bin_sub, bin_lss, bin_leq, bin_gtr, bin_geq, bin_eql, bin_neq, bin_eqlB, bin_neqB, un_not, cond_B, gd_B, gd_undef, gdH_B, gdH_undef, pickA_B, extractA_tup, lenA_sl, lenA_row, fldA_fp, fldA_ptr, fldA_rptr, List.getElem?_cons_zero, List.getElem?_cons_succ, decide_true, decide_false, if_true, if_false, Bool.true_eq_false, Bool.false_eq_true, Bool.not_true, Bool.not_false, e2, e3, hs']
      rfl
  · obtain ⟨H1, e1, hC1⟩ := k1 h
    simp only [h, if_false]
    refine ⟨fun _ => ⟨H1, callA_keep (rs := [nilP, .p nilS, I _]) rfl ?_, hC1⟩, fun e => e.elim⟩
    rw [f59_eq]
    simp only [e1, obs, oms, bin_add, bin_sub, bin_lss, bin_leq, bin_gtr, bin_geq, bin_eql, bin_neq, bin_eqlB, bin_neqB, un_not, cond_B, gd_B, gd_undef, gdH_B, gdH_undef, pickA_B, extractA_tup, lenA_sl, lenA_row, fldA_fp, fldA_ptr, fldA_rptr, List.getElem?_cons_zero, List.getElem?_cons_succ, decide_true, decide_false, if_true, if_false, Bool.true_eq_false, Bool.false_eq_true, Bool.not_true, Bool.not_false, h]
    rfl
end
end Hun
end Go.Proofs.Ytfdkacaocngfkaa
