import Derived.Test.YtfdkacaocngfkaaHunZ
set_option linter.unusedVariables false
set_option linter.unusedSimpArgs false
namespace Go.Proofs.Ytfdkacaocngfkaa
open Go Go.AM
namespace Hun

section
variable {nl : Option Bool} {tg : Bool} {l : List Dd}

/-! ### What is picked is a suspect, another than the bad one -/
theorem fold_in {s : List Int} {b : Int} : ∀ (zs : List Int) (st : Int × Int), (zs.foldl (stp l s b) st).2 = st.2 ∨ ((zs.foldl (stp l s b) st).2 ∈ zs ∧ (zs.foldl (stp l s b) st).2 ≠ b) := by
  intro zs
  induction zs with
  | nil => intro st; exact .inl rfl
  | cons z zs ih =>
    intro st
    rw [List.foldl_cons]
    rcases ih (stp l s b st z) with h | ⟨h1, h2⟩
    · rw [h]
      unfold stp fin
      split
      · rename_i hc; exact .inr ⟨List.mem_cons_self .., hc.1⟩
      · exact .inl rfl
    · exact .inr ⟨List.mem_cons_of_mem _ h1, h2⟩

theorem pk_in {b : Nat} {gs : List Int} (h : 0 ≤ pk l b gs) : ∃ n : Nat, pk l b gs = n ∧ n < l.length ∧ sb l b gs n = true ∧ n ≠ b := by
  rcases fold_in (l := l) (s := ss l b gs) (b := b) (ss l b gs) (-1, -1) with e | ⟨h1, h2⟩
  · unfold pk pickI at h; rw [e] at h; simp at h
  · obtain ⟨k, e, hk, hs⟩ := flt_nat h1
    refine ⟨k, e, hk, hs, fun e2 => h2 (by rw [e, e2])⟩

theorem sb_iff {b k : Nat} {gs : List Int} : sb l b gs k = true ↔ Reach l b k ∧ ∀ g ∈ gs, ¬ Reach l g.toNat k := by
  unfold sb
  rw [Bool.and_eq_true, rb_iff, Bool.not_eq_true', List.any_eq_false]
  constructor
  · rintro ⟨h1, h2⟩; exact ⟨h1, fun g hg hr => h2 g hg (rb_iff.mpr hr)⟩
  · rintro ⟨h1, h2⟩; exact ⟨h1, fun g hg hr => h2 g hg (rb_iff.mp hr)⟩

theorem Reach.trans {i j n : Nat} (h : Reach l i j) (h' : Reach l j n) : Reach l i n := by
  induction h with
  | refl => exact h'
  | step h1 _ ih => exact .step h1 (ih h')

theorem flt_lt {N : Nat} {p q : Nat → Bool} (h : ∀ k, k < N → q k = true → p k = true) {k : Nat} (hk : k < N) (h1 : p k = true) (h2 : q k = false) : (flt N q).length < (flt N p).length := by
  unfold flt
  rw [List.length_map, List.length_map]
  have e : (List.range N).filter q = ((List.range N).filter p).filter q := by
    rw [List.filter_filter]
    refine List.filter_congr fun m hm => ?_
    have := h m (by simpa using hm)
    cases hq : q m with
    | false => rfl
    | true => rw [this hq]; rfl
  rw [e]
  exact List.length_filter_lt_length_iff_exists.mpr ⟨k, by simp [hk, h1], by simp [h2]⟩

/-- It is bad too: fewer are left. -/
theorem less_bad (hv : Valid l) {b n : Nat} {gs : List Int} (hb : b < l.length) (hbb : sb l b gs b = true) (hn : sb l b gs n = true) (hne : n ≠ b) : sb l n gs n = true ∧ (ss l n gs).length < (ss l b gs).length := by
  obtain ⟨r1, r2⟩ := sb_iff.mp hn
  refine ⟨sb_iff.mpr ⟨.refl n, r2⟩, flt_lt (fun k _ hk => ?_) hb hbb ?_⟩
  · obtain ⟨q1, q2⟩ := sb_iff.mp hk
    exact sb_iff.mpr ⟨r1.trans q1, q2⟩
  · cases h : sb l n gs b with
    | false => rfl
    | true =>
      have := (sb_iff.mp h).1.le hv
      have := r1.le hv
      omega

/-- It is good: fewer are left. -/
theorem less_good (hv : Valid l) {b n : Nat} {gs : List Int} (hb : b < l.length) (hbb : sb l b gs b = true) (hn : sb l b gs n = true) (hne : n ≠ b) (hnl : n < l.length) : sb l b (gs ++ [(n : Int)]) b = true ∧ (ss l b (gs ++ [(n : Int)])).length < (ss l b gs).length := by
  obtain ⟨r1, r2⟩ := sb_iff.mp hn
  obtain ⟨b1, b2⟩ := sb_iff.mp hbb
  refine ⟨sb_iff.mpr ⟨b1, fun g hg => ?_⟩, flt_lt (fun k _ hk => ?_) hnl hn ?_⟩
  · rcases List.mem_append.mp hg with h | h
    · exact b2 g h
    · obtain rfl := List.mem_singleton.mp h
      intro hr
      rw [Int.toNat_natCast] at hr
      have := hr.le hv
      have := r1.le hv
      omega
  · obtain ⟨q1, q2⟩ := sb_iff.mp hk
    exact sb_iff.mpr ⟨q1, fun g hg => q2 g (List.mem_append_left _ hg)⟩
  · cases h : sb l b (gs ++ [(n : Int)]) n with
    | false => rfl
    | true => exact ((sb_iff.mp h).2 n (by simp) (by rw [Int.toNat_natCast]; exact .refl n)).elim

/-! ### The hunt -/
noncomputable def hunt (l : List Dd) (is : Nat → Bool) : Nat → Nat → List Int → Nat → Nat × Nat
  | 0, b, gs, many => (b, many)
  | f + 1, b, gs, many => if 0 ≤ pk l b gs then (if is (pk l b gs).toNat = true then hunt l is f (pk l b gs).toNat gs (many + 1) else hunt l is f b (gs ++ [pk l b gs]) (many + 1)) else (b, many)

theorem ss_pos {b : Nat} {gs : List Int} (hb : b < l.length) (hbb : sb l b gs b = true) : 0 < (ss l b gs).length := List.length_pos_of_mem (flt_mem.mpr ⟨hb, hbb⟩)

variable {fx : List (Nat × AObj)} {ls : List Ll} {hid : Nat} {o cl : AV} {is : Nat → Bool}

theorem huntLoop (hv : Valid l) (hN : l.length ≤ 200) (hcl : ∀ k, k < l.length → ∀ H, Cx H fx ls → callV cfg O cl [I (k : Nat)] [] H = some (B (is k), H)) : ∀ (f b : Nat) (gs : List Int) (many : Nat) (x : AV) (H : Heap), (ss l b gs).length ≤ f → b < l.length → sb l b gs b = true → (∀ g ∈ gs, 0 ≤ g ∧ g < (l.length : Int)) → gs.length + f < 2 ^ 40 → many + f < 2 ^ 40 →
    Cx H ((hid, .box [o]) :: fx) ((x, 1, gs.length, gs.map Ia) :: (o, 1, l.length, backs l l.length) :: ls) →
    ∃ H', L32_20 [I b, x, cl, .ptr hid 0, I many, I (pk l b gs)] [] H = some ([I (hunt l is f b gs many).1, I (hunt l is f b gs many).2, I 0], H') ∧ Cx H' fx ls := by
  intro f
  induction f with
  | zero =>
    intro b gs many x H hf hb hbb
    have := ss_pos hb hbb
    omega
  | succ f ih =>
    intro b gs many x H hf hb hbb hgs hg1 hm1 hC
    have next : ∀ (b' : Nat) (gs' : List Int) (x' : AV) (H' : Heap), (ss l b' gs').length ≤ f → b' < l.length → sb l b' gs' b' = true → (∀ g ∈ gs', 0 ≤ g ∧ g < (l.length : Int)) → gs'.length + f < 2 ^ 40 →
        Cx H' ((hid, .box [o]) :: fx) ((x', 1, gs'.length, gs'.map Ia) :: (o, 1, l.length, backs l l.length) :: ls) →
        ∃ H'', L32_33 [I b', x', cl, .ptr hid 0, I (many + 1 : Nat)] [] H' = some ([I (hunt l is f b' gs' (many + 1)).1, I (hunt l is f b' gs' (many + 1)).2, I 0], H'') ∧ Cx H'' fx ls := by
      intro b' gs' x' H' h1 h2 h3 h4 h5 hC'
      obtain ⟨H2, id, g, m, tail, e, hC2⟩ := call61 hC' (x := x') (gs := gs') (List.mem_cons_self ..) (List.mem_cons_of_mem _ (List.mem_cons_self ..)) (fun H h => Src.of (h.lst (x', 1, gs'.length, gs'.map Ia) (List.mem_cons_self ..))) hN (by omega) h4 h2
      have hsl := ss_len (l := l) b' gs'
      have e2 := call60 hC2 (List.mem_cons_self ..) (List.mem_cons_of_mem _ (List.mem_cons_of_mem _ (List.mem_cons_self ..))) hN (ss_src hC2) (by omega) ss_in (b' : Int)
      obtain ⟨H3, e3, hC3⟩ := ih b' gs' (many + 1) x' H2 h1 h2 h3 h4 h5 (by omega) hC2.tl
      refine ⟨H3, ?_, hC3⟩
      rw [L32_33_eq]
      simp only [e, obs, e2]
      exact e3
    rw [L32_20_eq]
    simp only [obs, oms, bin_add, bin_sub, bin_lss, bin_leq, bin_gtr, bin_geq, bin_eql, bin_neq, bin_eqlB, bin_neqB, un_not, cond_B, gd_B, gd_undef, gdH_B, gdH_undef, pickA_B, extractA_tup, lenA_sl, lenA_row, fldA_fp, fldA_ptr, fldA_rptr, List.getElem?_cons_zero, List.getElem?_cons_succ, decide_true, decide_false, if_true, if_false, Bool.true_eq_false, Bool.false_eq_true, Bool.not_true, Bool.not_false]
    by_cases hp : 0 ≤ pk l b gs
    · obtain ⟨n, en, hn, hsn, hne⟩ := pk_in hp
      have hh : hunt l is (f + 1) b gs many = if is n = true then hunt l is f n gs (many + 1) else hunt l is f b (gs ++ [(n : Int)]) (many + 1) := by
        rw [hunt, if_pos hp, en, Int.toNat_natCast]
      rw [if_pos (by simpa using hp), wrap_id (by omega), nxt, hh, en]
      simp only [hcl n hn H hC.bt.tl.tl, obs, oms, bin_add, bin_sub, bin_lss, bin_leq, bin_gtr, bin_geq, bin_eql, bin_neq, bin_eqlB, bin_neqB, un_not, cond_B, gd_B, gd_undef, gdH_B, gdH_undef, pickA_B, extractA_tup, lenA_sl, lenA_row, fldA_fp, fldA_ptr, fldA_rptr, List.getElem?_cons_zero, List.getElem?_cons_succ, decide_true, decide_false, if_true, if_false, Bool.true_eq_false, Bool.false_eq_true, Bool.not_true, Bool.not_false]
      by_cases hi : is n = true
      · rw [if_pos hi, if_pos hi]
        obtain ⟨l1, l2⟩ := less_bad hv hb hbb hsn hne
        exact next n gs x H (by omega) hn l1 hgs (by omega) hC
      · rw [if_neg hi, if_neg hi]
        obtain ⟨l1, l2⟩ := less_good hv hb hbb hsn hne hn
        obtain ⟨x', H2, ea, hC2, _⟩ := hC.app (bytes := 8) (y := .p (.sl (some false) true 1 [Ia n])) [] (cells1 _ _) rfl (by omega) (by simp only [room]; omega)
        simp only [lit1, obs, ea]
        refine next b (gs ++ [(n : Int)]) x' H2 (by omega) hb l1 (fun g hg => ?_) (by simp; omega) ?_
        · rcases List.mem_append.mp hg with h | h
          · exact hgs g h
          · obtain rfl := List.mem_singleton.mp h; omega
        · simpa using hC2
    · have hh : hunt l is (f + 1) b gs many = (b, many) := by rw [hunt, if_neg hp]
      rw [if_neg (by simpa using hp), hh]
      exact ⟨H, rfl, hC.bt.tl.tl⟩

theorem call32_ok (hu : ∀ k, (U l k).length < 2 ^ 63) {n2 : Option Bool} {t2 : Bool} {gs : List Int} (hgl : gs.length < 2 ^ 30) (hk : Kn n2 gs) {b : Int} (hw : wErr l b gs = 0) (hcl : ∀ k, k < l.length → ∀ H, Cx H fx ls → callV cfg O cl [I (k : Nat)] [] H = some (B (is k), H)) (hcn : ∃ q f c, cl = .fn q f c) {H : Heap} (hC : Cx H fx ls) :
    ∃ H', callA cfg O 32 [W nl tg l, I b, V n2 t2 gs, cl] [] H = some (.tup [I (hunt l is (ss l b.toNat gs).length b.toNat gs 0).1, I (hunt l is (ss l b.toNat gs).length b.toNat gs 0).2, I 0], H') ∧ Cx H' fx ls := by
  obtain ⟨H1, hid, o, id, g, m, tail, e, hC1⟩ := (call59 (nl := nl) (tg := tg) hu hC (x := V n2 t2 gs) (gs := gs) (by omega) (fun H _ => Src.v _ _ _ H) b).2 hw
  obtain ⟨w1, w2⟩ := wErr_zero hw
  obtain ⟨hN, hv, ⟨bn, rfl, hb⟩, hgs⟩ := gs_ok w1
  rw [Int.toNat_natCast] at *
  have hsl := ss_len (l := l) bn gs
  obtain ⟨x, H2, e2, hC2, _⟩ := call55 (tg := t2) (by omega) hk hC1 []
  have e3 := call60 hC2 (List.mem_cons_self ..) (List.mem_cons_of_mem _ (List.mem_cons_of_mem _ (List.mem_cons_self ..))) hN (ss_src hC2.tl) (by omega) ss_in (bn : Int)
  have hC3 : Cx H2 ((hid, .box [o]) :: fx) ((x, 1, gs.length, gs.map Ia) :: (o, 1, l.length, backs l l.length) :: ls) := hC2.mono (fun _ h => h) (by simp)
  obtain ⟨H3, e4, hC4⟩ := huntLoop (cl := cl) (is := is) hv hN hcl _ bn gs 0 x H2 (Nat.le_refl _) hb w2 hgs (by omega) (by omega) hC3
  refine ⟨H3, callA_keep (rs := [_, _, I 0]) rfl ?_, hC4⟩
  obtain ⟨q, f, c, rfl⟩ := hcn
  have hf : bin .eql .fn (.fn q f c) (.p (.v .nilFunc)) = some (B false) := rfl
  rw [f32_eq]
  simp only [e, obs, oms, bin_add, bin_sub, bin_lss, bin_leq, bin_gtr, bin_geq, bin_eql, bin_neq, bin_eqlB, bin_neqB, un_not, cond_B, gd_B, gd_undef, gdH_B, gdH_undef, pickA_B, extractA_tup, lenA_sl, lenA_row, fldA_fp, fldA_ptr, fldA_rptr, List.getElem?_cons_zero, List.getElem?_cons_succ, decide_true, decide_false, if_true, if_false, Bool.true_eq_false, Bool.false_eq_true, Bool.not_true, Bool.not_false, hf]
  rw [L32_11_eq]
  simp only [obs, oms, bin_add, bin_sub, bin_lss, bin_leq, bin_gtr, bin_geq, bin_eql, bin_neq, bin_eqlB, bin_neqB, un_not, cond_B, gd_B, gd_undef, gdH_B, gdH_undef, pickA_B, extractA_tup, lenA_sl, lenA_row, fldA_fp, fldA_ptr, fldA_rptr, List.getElem?_cons_zero, List.getElem?_cons_succ, decide_true, decide_false, if_true, if_false, Bool.true_eq_false, Bool.false_eq_true, Bool.not_true, Bool.not_false, e2, e3]
  exact e4

theorem call32_bad (hu : ∀ k, (U l k).length < 2 ^ 63) {n2 : Option Bool} {t2 : Bool} {gs : List Int} (hgl : gs.length < 2 ^ 30) {b : Int} {H : Heap} (hC : Cx H fx ls)
    (hw : (wErr l b gs ≠ 0 ∧ ((∃ q f c, cl = .fn q f c) ∨ cl = .p (.v .nilFunc))) ∨ cl = .p (.v .nilFunc)) :
    ∃ H', callA cfg O 32 [W nl tg l, I b, V n2 t2 gs, cl] [] H = some (.tup [I 0, I 0, I (if wErr l b gs = 0 then 8 else wErr l b gs)], H') ∧ Cx H' fx ls := by
  obtain ⟨k1, k2⟩ := call59 (nl := nl) (tg := tg) hu hC (x := V n2 t2 gs) (gs := gs) (by omega) (fun H _ => Src.v _ _ _ H) b
  by_cases h : wErr l b gs = 0
  · obtain ⟨H1, hid, o, id, g, m, tail, e, hC1⟩ := k2 h
    have hcn : cl = .p (.v .nilFunc) := by
      rcases hw with ⟨h1, _⟩ | h1
      · exact (h1 h).elim
      · exact h1
    subst hcn
    have hf : bin .eql .fn (.p (.v .nilFunc)) (.p (.v .nilFunc)) = some (B true) := rfl
    refine ⟨H1, callA_keep (rs := [I 0, I 0, I (if wErr l b gs = 0 then 8 else wErr l b gs)]) rfl ?_, hC1.bt.tl.tl⟩
    rw [f32_eq, if_pos h]
    simp only [e, obs, oms, bin_add, bin_sub, bin_lss, bin_leq, bin_gtr, bin_geq, bin_eql, bin_neq, bin_eqlB, bin_neqB, un_not, cond_B, gd_B, gd_undef, gdH_B, gdH_undef, pickA_B, extractA_tup, lenA_sl, lenA_row, fldA_fp, fldA_ptr, fldA_rptr, List.getElem?_cons_zero, List.getElem?_cons_succ, decide_true, decide_false, if_true, if_false, Bool.true_eq_false, Bool.false_eq_true, Bool.not_true, Bool.not_false, hf]
    rw [L32_11_eq]
    simp only [obs, oms, bin_add, bin_sub, bin_lss, bin_leq, bin_gtr, bin_geq, bin_eql, bin_neq, bin_eqlB, bin_neqB, un_not, cond_B, gd_B, gd_undef, gdH_B, gdH_undef, pickA_B, extractA_tup, lenA_sl, lenA_row, fldA_fp, fldA_ptr, fldA_rptr, List.getElem?_cons_zero, List.getElem?_cons_succ, decide_true, decide_false, if_true, if_false, Bool.true_eq_false, Bool.false_eq_true, Bool.not_true, Bool.not_false]
    rfl
  · obtain ⟨H1, e, hC1⟩ := k1 h
    refine ⟨H1, callA_keep (rs := [I 0, I 0, I (if wErr l b gs = 0 then 8 else wErr l b gs)]) rfl ?_, hC1⟩
    rw [f32_eq, if_neg h]
    simp only [e, obs, oms, bin_add, bin_sub, bin_lss, bin_leq, bin_gtr, bin_geq, bin_eql, bin_neq, bin_eqlB, bin_neqB, un_not, cond_B, gd_B, gd_undef, gdH_B, gdH_undef, pickA_B, extractA_tup, lenA_sl, lenA_row, fldA_fp, fldA_ptr, fldA_rptr, List.getElem?_cons_zero, List.getElem?_cons_succ, decide_true, decide_false, if_true, if_false, Bool.true_eq_false, Bool.false_eq_true, Bool.not_true, Bool.not_false, h]
    rw [L32_11_eq]
    simp only [obs, oms, bin_add, bin_sub, bin_lss, bin_leq, bin_gtr, bin_geq, bin_eql, bin_neq, bin_eqlB, bin_neqB, un_not, cond_B, gd_B, gd_undef, gdH_B, gdH_undef, pickA_B, extractA_tup, lenA_sl, lenA_row, fldA_fp, fldA_ptr, fldA_rptr, List.getElem?_cons_zero, List.getElem?_cons_succ, decide_true, decide_false, if_true, if_false, Bool.true_eq_false, Bool.false_eq_true, Bool.not_true, Bool.not_false, h]
    rfl
end
end Hun
end Go.Proofs.Ytfdkacaocngfkaa
