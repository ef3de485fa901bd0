import Derived.Test.YtfdkacaocngfkaaHunN
set_option linter.unusedVariables false
set_option linter.unusedSimpArgs false
namespace Go.Proofs.Ytfdkacaocngfkaa
open Go Go.AM
namespace Hun

/-! ### SameInts -/
theorem sameLoop {n1 n2 : Option Bool} {t1 t2 : Bool} {zs : List Int} (hz : zs.length < 2 ^ 63) : ∀ (k i : Nat), zs.length - i = k → i ≤ zs.length → L17_10 [V n1 t1 zs, V n2 t2 zs, I i] [] [] = some ([B true], []) := by
  intro k
  induction k with
  | zero =>
    intro i hk hi
    have : i = zs.length := by omega
    subst this
    rw [L17_10_eq]
    simp only [obs, oms, bin_add, bin_sub, bin_lss, bin_leq, bin_gtr, bin_geq, bin_eql, bin_neq, bin_eqlB, bin_neqB, un_not, cond_B, gd_B, gd_undef, gdH_B, gdH_undef, pickA_B, extractA_tup, lenA_sl, lenA_row, fldA_fp, fldA_ptr, fldA_rptr, List.getElem?_cons_zero, List.getElem?_cons_succ, decide_true, decide_false, if_true, if_false, Bool.true_eq_false, Bool.false_eq_true, Bool.not_true, Bool.not_false, leave0_B]
    rw [if_neg (by simp)]
  | succ k ih =>
    intro i hk hi
    have hi' : i < zs.length := by omega
    rw [L17_10_eq]
    simp only [obs, oms, bin_add, bin_sub, bin_lss, bin_leq, bin_gtr, bin_geq, bin_eql, bin_neq, bin_eqlB, bin_neqB, un_not, cond_B, gd_B, gd_undef, gdH_B, gdH_undef, pickA_B, extractA_tup, lenA_sl, lenA_row, fldA_fp, fldA_ptr, fldA_rptr, List.getElem?_cons_zero, List.getElem?_cons_succ, decide_true, decide_false, if_true, if_false, Bool.true_eq_false, Bool.false_eq_true, Bool.not_true, Bool.not_false]
    rw [if_pos (by simp <;> omega), idxV hi', obs, ldV hi', obs, idxV hi', obs, ldV hi']
    simp only [obs, oms, bin_add, bin_sub, bin_lss, bin_leq, bin_gtr, bin_geq, bin_eql, bin_neq, bin_eqlB, bin_neqB, un_not, cond_B, gd_B, gd_undef, gdH_B, gdH_undef, pickA_B, extractA_tup, lenA_sl, lenA_row, fldA_fp, fldA_ptr, fldA_rptr, List.getElem?_cons_zero, List.getElem?_cons_succ, decide_true, decide_false, if_true, if_false, Bool.true_eq_false, Bool.false_eq_true, Bool.not_true, Bool.not_false]
    rw [wrap_id (by omega), nxt]
    exact ih (i + 1) (by omega) (by omega)

theorem call17 {n1 : Option Bool} {t1 : Bool} {zs : List Int} {o : AV} {H : Heap} (hz : zs.length < 2 ^ 63) (h : Src o H zs) (lo : List Nat) : callA cfg O 17 [V n1 t1 zs, o] lo H = some (B true, H) := by
  obtain ⟨n2, t2, b, hp⟩ := src_args h
  refine callA_rows (H' := []) (rs := [B true]) rfl (hp [.sl n1 t1 zs.length (zs.map Ia)]) ?_ rfl rfl
  show O.ent 17 [V n1 t1 zs, V n2 t2 zs] [] [] = _
  rw [f17_eq]
  simp only [obs, oms, bin_add, bin_sub, bin_lss, bin_leq, bin_gtr, bin_geq, bin_eql, bin_neq, bin_eqlB, bin_neqB, un_not, cond_B, gd_B, gd_undef, gdH_B, gdH_undef, pickA_B, extractA_tup, lenA_sl, lenA_row, fldA_fp, fldA_ptr, fldA_rptr, List.getElem?_cons_zero, List.getElem?_cons_succ, decide_true, decide_false, if_true, if_false, Bool.true_eq_false, Bool.false_eq_true, Bool.not_true, Bool.not_false]
  exact sameLoop hz _ 0 rfl (by omega)

def boolP (b : Bool) : PV := .v (.bool b)

section
variable {nl : Option Bool} {tg : Bool} {l : List Dd} {fx : List (Nat × AObj)} {ls : List Ll}

/-- What is asked. -/
abbrev ask : AV := .fn 31 [] [.ptr 0 0]

theorem call31 {n3 : Option Bool} {t3 : Bool} {ts : List Bool} {H : Heap} (h : (0, .box [.p (.sl n3 t3 ts.length (ts.map boolP))]) ∈ fx) (hC : Cx H fx ls) (k : Nat) (lo : List Nat) :
    callV cfg O ask [I k] lo H = some (B (ts.getD k false), H) := by
  show callA cfg O 31 [I k, .ptr 0 0] lo H = _
  refine callA_keep (rs := [B (ts.getD k false)]) rfl ?_
  rw [f31_eq]
  simp only [ldBox hC h, obs, oms, bin_add, bin_sub, bin_lss, bin_leq, bin_gtr, bin_geq, bin_eql, bin_neq, bin_eqlB, bin_neqB, un_not, cond_B, gd_B, gd_undef, gdH_B, gdH_undef, pickA_B, extractA_tup, lenA_sl, lenA_row, fldA_fp, fldA_ptr, fldA_rptr, List.getElem?_cons_zero, List.getElem?_cons_succ, decide_true, decide_false, if_true, if_false, Bool.true_eq_false, Bool.false_eq_true, Bool.not_true, Bool.not_false]
  by_cases hk : k < ts.length
  · have hx : idxA 1 (.p (.sl n3 t3 ts.length (ts.map boolP))) (I k) = some (.fp (ts.map boolP) k) := by
      rw [idxA_sl (by omega)]; simp
    have hd : ld false 1 (.fp (ts.map boolP) k) H = some (B ts[k]) := by
      rw [ld_fp, List.getElem?_map, List.getElem?_eq_getElem hk]; rfl
    have e : ts.getD k false = ts[k] := by simp [List.getD, hk]
    have hk' : (k : Int) < ts.length := by omega
    simp only [hk', obs, oms, bin_add, bin_sub, bin_lss, bin_leq, bin_gtr, bin_geq, bin_eql, bin_neq, bin_eqlB, bin_neqB, un_not, cond_B, gd_B, gd_undef, gdH_B, gdH_undef, pickA_B, extractA_tup, lenA_sl, lenA_row, fldA_fp, fldA_ptr, fldA_rptr, List.getElem?_cons_zero, List.getElem?_cons_succ, decide_true, decide_false, if_true, if_false, Bool.true_eq_false, Bool.false_eq_true, Bool.not_true, Bool.not_false, hx, hd, e]
    rfl
  · have e : ts.getD k false = false := by simp [List.getD, Nat.not_lt.mp hk]
    have hk' : ¬ (k : Int) < ts.length := by omega
    simp only [hk', obs, oms, bin_add, bin_sub, bin_lss, bin_leq, bin_gtr, bin_geq, bin_eql, bin_neq, bin_eqlB, bin_neqB, un_not, cond_B, gd_B, gd_undef, gdH_B, gdH_undef, pickA_B, extractA_tup, lenA_sl, lenA_row, fldA_fp, fldA_ptr, fldA_rptr, List.getElem?_cons_zero, List.getElem?_cons_succ, decide_true, decide_false, if_true, if_false, Bool.true_eq_false, Bool.false_eq_true, Bool.not_true, Bool.not_false, e]
    rfl

theorem final {A : List Int} {nA : Option Bool} {tA : Bool} {w p c m v : Int} {o : AV} {H : Heap} (hA : A.length < 2 ^ 63) (h : Src o H A) :
    L6_71 [V nA tA A, I w, I (max p 0), B (decide (0 ≤ p)), I w, I c, I m, I v, I w, I v, o, I p, I c, I m] [] H = some ([B true], []) := by
  rw [L6_71_eq]
  have hb : bests true (I p) [I 0] = some (I (max p 0)) := bests_max p 0
  simp only [call17 hA h, obs, oms, bin_add, bin_sub, bin_lss, bin_leq, bin_gtr, bin_geq, bin_eql, bin_neq, bin_eqlB, bin_neqB, un_not, cond_B, gd_B, gd_undef, gdH_B, gdH_undef, pickA_B, extractA_tup, lenA_sl, lenA_row, fldA_fp, fldA_ptr, fldA_rptr, List.getElem?_cons_zero, List.getElem?_cons_succ, decide_true, decide_false, if_true, if_false, Bool.true_eq_false, Bool.false_eq_true, Bool.not_true, Bool.not_false, hb, beq_self_eq_true, leave0_B]

theorem lawLoop (hv : Valid l) (hu : ∀ k, (U l k).length < 2 ^ 63) (hN : l.length ≤ 200) {is : Nat → Bool} (hcl : ∀ k, k < l.length → ∀ H, Cx H fx [] → callV cfg O ask [I (k : Nat)] [] H = some (B (is k), H)) {A : List Int} {nA : Option Bool} {tA : Bool} {p : Int} {o : AV} (hA : A.length < 2 ^ 63) : ∀ (f b : Nat) (gs : List Int) (many : Nat) (x : AV) (H : Heap), (ss l b gs).length ≤ f → b < l.length → sb l b gs b = true → (∀ g ∈ gs, 0 ≤ g ∧ g < (l.length : Int)) → gs.length + f < 2 ^ 40 → many + f < 2 ^ 40 →
    Cx H fx [(x, 1, gs.length, gs.map Ia), (o, 1, A.length, A.map Ia)] →
    L6_58 [W nl tg l, V nA tA A, I 0, I (max p 0), B (decide (0 ≤ p)), I 0, ask, I (hunt l is f b gs many).1, I (hunt l is f b gs many).2, I 0, I 0, I 0, o, I p, I b, I many, x, I (pk l b gs)] [] H = some ([B true], []) := by
  intro f
  induction f with
  | zero =>
    intro b gs many x H hf hb hbb
    have := ss_pos hb hbb
    omega
  | succ f ih =>
    intro b gs many x H hf hb hbb hgs hg1 hm1 hC
    have next : ∀ (c m : Int) (b' : Nat) (gs' : List Int) (x' : AV) (H' : Heap), c = (hunt l is f b' gs' (many + 1)).1 → m = (hunt l is f b' gs' (many + 1)).2 → (ss l b' gs').length ≤ f → b' < l.length → sb l b' gs' b' = true → (∀ g ∈ gs', 0 ≤ g ∧ g < (l.length : Int)) → gs'.length + f < 2 ^ 40 →
        Cx H' fx [(x', 1, gs'.length, gs'.map Ia), (o, 1, A.length, A.map Ia)] →
        L6_61 [W nl tg l, V nA tA A, I 0, I (max p 0), B (decide (0 ≤ p)), I 0, ask, I c, I m, I 0, I 0, I 0, o, I p, I b', I (many + 1 : Nat), x'] [] H' = some ([B true], []) := by
      rintro c m b' gs' x' H' rfl rfl h1 h2 h3 h4 h5 hC'
      rw [L6_61_eq]
      simp only [call35 hv hu hN (by omega : gs'.length < 2 ^ 40) h4 h2 (Src.of hC'.hd), obs]
      exact ih b' gs' (many + 1) x' H' h1 h2 h3 h4 h5 (by omega) hC'
    rw [L6_58_eq]
    simp only [obs, oms, bin_add, bin_sub, bin_lss, bin_leq, bin_gtr, bin_geq, bin_eql, bin_neq, bin_eqlB, bin_neqB, un_not, cond_B, gd_B, gd_undef, gdH_B, gdH_undef, pickA_B, extractA_tup, lenA_sl, lenA_row, fldA_fp, fldA_ptr, fldA_rptr, List.getElem?_cons_zero, List.getElem?_cons_succ, decide_true, decide_false, if_true, if_false, Bool.true_eq_false, Bool.false_eq_true, Bool.not_true, Bool.not_false]
    by_cases hp : 0 ≤ pk l b gs
    · obtain ⟨n, en, hn, hsn, hne⟩ := pk_in hp
      have hh : hunt l is (f + 1) b gs many = if is n = true then hunt l is f n gs (many + 1) else hunt l is f b (gs ++ [(n : Int)]) (many + 1) := by
        rw [hunt, if_pos hp, en, Int.toNat_natCast]
      rw [if_pos (by simpa using hp), wrap_id (by omega), nxt, hh, en]
      simp only [hcl n hn H (hC.mono (fun _ h => h) (by simp)), obs, oms, bin_add, bin_sub, bin_lss, bin_leq, bin_gtr, bin_geq, bin_eql, bin_neq, bin_eqlB, bin_neqB, un_not, cond_B, gd_B, gd_undef, gdH_B, gdH_undef, pickA_B, extractA_tup, lenA_sl, lenA_row, fldA_fp, fldA_ptr, fldA_rptr, List.getElem?_cons_zero, List.getElem?_cons_succ, decide_true, decide_false, if_true, if_false, Bool.true_eq_false, Bool.false_eq_true, Bool.not_true, Bool.not_false]
      by_cases hi : is n = true
      · rw [if_pos hi, if_pos hi]
        obtain ⟨l1, l2⟩ := less_bad hv hb hbb hsn hne
        exact next _ _ n gs x H rfl rfl (by omega) hn l1 hgs (by omega) hC
      · rw [if_neg hi, if_neg hi]
        obtain ⟨l1, l2⟩ := less_good hv hb hbb hsn hne hn
        obtain ⟨x', H2, ea, hC2, _⟩ := hC.app (bytes := 8) (y := .p (.sl (some false) true 1 [Ia n])) [] (cells1 _ _) rfl (by omega) (by simp only [room]; omega)
        simp only [lit1, obs, ea]
        refine next _ _ b (gs ++ [(n : Int)]) x' H2 rfl rfl (by omega) hb l1 (fun g hg => ?_) (by simp; omega) ?_
        · rcases List.mem_append.mp hg with h | h
          · exact hgs g h
          · obtain rfl := List.mem_singleton.mp h; omega
        · simpa using hC2
    · have hh : hunt l is (f + 1) b gs many = (b, many) := by rw [hunt, if_neg hp]
      rw [if_neg (by simpa using hp), hh]
      exact final hA (Src.of hC.tl.hd)

theorem lawSus (hv : Valid l) (hu : ∀ k, (U l k).length < 2 ^ 63) (hN : l.length ≤ 200) {gs : List Int} (hgl : gs.length < 2 ^ 40) (hgs : ∀ g ∈ gs, 0 ≤ g ∧ g < (l.length : Int)) {b : Nat} (hb : b < l.length) {n2 : Option Bool} {t2 : Bool} {v11 v12 v13 v14 v15 v16 v18 v19 v20 v21 v22 : AV} : ∀ (c k : Nat) (o : AV) (H : Heap), l.length - k = c → k ≤ l.length →
    Cx H fx ([] ++ [(o, 1, (AM.flt (sb l b gs) k).length, (AM.flt (sb l b gs) k).map Ia)]) →
    ∃ o' H', L6_40 [W nl tg l, I b, V n2 t2 gs, v11, v12, v13, v14, v15, v16, v18, v19, v20, v21, v22, o, I 0, I 0, I k] [] H = L6_51 [W nl tg l, I b, V n2 t2 gs, v11, v12, v13, v14, v15, v16, v18, v19, v20, v21, v22, o', I (pk l b gs), I 0, I 0] [] H' ∧ Cx H' fx [(o', 1, (ss l b gs).length, (ss l b gs).map Ia)] := by
  intro c
  induction c with
  | zero =>
    intro k o H hc hk hC
    have : k = l.length := by omega
    subst this
    refine ⟨o, H, ?_, hC⟩
    rw [L6_40_eq]
    simp only [obs, oms, bin_add, bin_sub, bin_lss, bin_leq, bin_gtr, bin_geq, bin_eql, bin_neq, bin_eqlB, bin_neqB, un_not, cond_B, gd_B, gd_undef, gdH_B, gdH_undef, pickA_B, extractA_tup, lenA_sl, lenA_row, fldA_fp, fldA_ptr, fldA_rptr, List.getElem?_cons_zero, List.getElem?_cons_succ, decide_true, decide_false, if_true, if_false, Bool.true_eq_false, Bool.false_eq_true, Bool.not_true, Bool.not_false]
    rw [if_neg (by simp)]
    simp only [call35 hv hu hN hgl hgs hb (Src.v n2 t2 gs H), obs]
  | succ c ih =>
    intro k o H hc hk hC
    have hk' : k < l.length := by omega
    have next : ∀ o' H', Cx H' fx ([] ++ [(o', 1, (AM.flt (sb l b gs) (k + 1)).length, (AM.flt (sb l b gs) (k + 1)).map Ia)]) → ∃ o'' H'', L6_43 [W nl tg l, I b, V n2 t2 gs, v11, v12, v13, v14, v15, v16, v18, v19, v20, v21, v22, o', I 0, I 0, I k] [] H' = L6_51 [W nl tg l, I b, V n2 t2 gs, v11, v12, v13, v14, v15, v16, v18, v19, v20, v21, v22, o'', I (pk l b gs), I 0, I 0] [] H'' ∧ Cx H'' fx [(o'', 1, (ss l b gs).length, (ss l b gs).map Ia)] := by
      intro o' H' h
      obtain ⟨o'', H'', e, h'⟩ := ih (k + 1) o' H' (by omega) (by omega) h
      refine ⟨o'', H'', ?_, h'⟩
      rw [L6_43_eq]
      simp only [obs, oms, bin_add, bin_sub, bin_lss, bin_leq, bin_gtr, bin_geq, bin_eql, bin_neq, bin_eqlB, bin_neqB, un_not, cond_B, gd_B, gd_undef, gdH_B, gdH_undef, pickA_B, extractA_tup, lenA_sl, lenA_row, fldA_fp, fldA_ptr, fldA_rptr, List.getElem?_cons_zero, List.getElem?_cons_succ, decide_true, decide_false, if_true, if_false, Bool.true_eq_false, Bool.false_eq_true, Bool.not_true, Bool.not_false]
      rw [wrap_id (by omega), nxt, e]
    rw [L6_40_eq]
    simp only [obs, oms, bin_add, bin_sub, bin_lss, bin_leq, bin_gtr, bin_geq, bin_eql, bin_neq, bin_eqlB, bin_neqB, un_not, cond_B, gd_B, gd_undef, gdH_B, gdH_undef, pickA_B, extractA_tup, lenA_sl, lenA_row, fldA_fp, fldA_ptr, fldA_rptr, List.getElem?_cons_zero, List.getElem?_cons_succ, decide_true, decide_false, if_true, if_false, Bool.true_eq_false, Bool.false_eq_true, Bool.not_true, Bool.not_false]
    rw [if_pos (by simp <;> omega)]
    simp only [call34 hv hu hN hgl hgs hk' hb (Src.v n2 t2 gs H), obs, oms, bin_add, bin_sub, bin_lss, bin_leq, bin_gtr, bin_geq, bin_eql, bin_neq, bin_eqlB, bin_neqB, un_not, cond_B, gd_B, gd_undef, gdH_B, gdH_undef, pickA_B, extractA_tup, lenA_sl, lenA_row, fldA_fp, fldA_ptr, fldA_rptr, List.getElem?_cons_zero, List.getElem?_cons_succ, decide_true, decide_false, if_true, if_false, Bool.true_eq_false, Bool.false_eq_true, Bool.not_true, Bool.not_false]
    by_cases hs : sb l b gs k = true
    · obtain ⟨o', H', ea, hC'⟩ := plc [] (by omega) hC hs
      rw [if_pos hs]
      simp only [lit1, obs, ea]
      exact next o' H' hC'
    · rw [if_neg hs]
      exact next o H (plc0 [] hC (by simpa using hs))

theorem law1 (hu : ∀ k, (U l k).length < 2 ^ 63) {n2 n3 : Option Bool} {t2 t3 : Bool} {gs0 : List Int} (hk : Kn n2 gs0) (b : Int) (ts : List Bool) (no : Bool) :
    L6_9 [W nl tg l, I b, V n2 t2 gs0, B no, .ptr 0 0] [] [.box [.p (.sl n3 t3 ts.length (ts.map boolP))]] = some ([B true], []) := by
  generalize hH0 : ([.box [.p (.sl n3 t3 ts.length (ts.map boolP))]] : Heap) = H0
  have hC0 : Cx H0 [(0, .box [.p (.sl n3 t3 ts.length (ts.map boolP))])] [] := by
    rw [← hH0]
    exact (Cx.nil []).newBox [.p (.sl n3 t3 ts.length (ts.map boolP))]
  obtain ⟨gs, t2', hgl, hk', hcut⟩ : ∃ gs t2', gs.length < 2 ^ 30 ∧ Kn n2 gs ∧ cutA 1 (V n2 t2 gs0) none (some (I (min (gs0.length : Int) 5))) none H0 = some (V n2 t2' gs) := by
    refine ⟨gs0.take 5, t2 && decide (min (gs0.length : Int) 5 = gs0.length), by simp; omega, ?_, ?_⟩
    · rcases hk with h | ⟨h, e⟩
      · exact .inl h
      · exact .inr ⟨h, by rw [e]; rfl⟩
    · rw [cutA_hi (by omega)]
      have e5 : (min (gs0.length : Int) 5).toNat = min gs0.length 5 := by omega
      rw [e5, Nat.mul_one]
      unfold V
      rw [List.length_take, Nat.min_comm 5 gs0.length, List.map_take]
      congr 3
      rcases Nat.lt_or_ge gs0.length 5 with q | q
      · rw [Nat.min_eq_left (by omega), List.take_of_length_le (by simp), List.take_of_length_le (by simp; omega)]
      · rw [Nat.min_eq_right q]
  have hwf : ∀ k, k < l.length → ∀ H, Cx H [(0, .box [.p (.sl n3 t3 ts.length (ts.map boolP))])] [] → callV cfg O ask [I (k : Nat)] [] H = some (B (ts.getD k false), H) := fun k _ H h => call31 (List.mem_cons_self ..) h k []
  obtain ⟨n', t', e29⟩ := call29 (nl := nl) (tg := tg) (n2 := n2) (t2 := t2') (gs := gs) hu (by omega) b [] H0
  have e30 := call30 (nl := nl) (tg := tg) (n2 := n2) (t2 := t2') (gs := gs) hu (by omega) b [] H0
  have e33 := fun H => call33 (nl := nl) (tg := tg) (n2 := n2) (t2 := t2') (gs := gs) hu (by omega) b [] H
  rw [L6_9_eq]
  simp only [obs, oms, bin_add, bin_sub, bin_lss, bin_leq, bin_gtr, bin_geq, bin_eql, bin_neq, bin_eqlB, bin_neqB, un_not, cond_B, gd_B, gd_undef, gdH_B, gdH_undef, pickA_B, extractA_tup, lenA_sl, lenA_row, fldA_fp, fldA_ptr, fldA_rptr, List.getElem?_cons_zero, List.getElem?_cons_succ, decide_true, decide_false, if_true, if_false, Bool.true_eq_false, Bool.false_eq_true, Bool.not_true, Bool.not_false, bests_min, hcut, e29, e30]
  have hssl : (ss l b.toNat gs).length ≤ l.length := ss_len _ _
  by_cases hw : wErr l b gs = 0
  · obtain ⟨w1, w2⟩ := wErr_zero hw
    obtain ⟨hN, hv, ⟨bn, rfl, hb⟩, hgs⟩ := gs_ok w1
    rw [Int.toNat_natCast] at *
    have hS : resS l bn gs = ss l bn gs := by unfold resS; rw [if_pos hw, Int.toNat_natCast]
    have hP : resP l bn gs = pk l bn gs := by unfold resP; rw [if_pos hw, Int.toNat_natCast]
    rw [hS, hP, hw]
    cases no with
    | true =>
      obtain ⟨H1, e32, hC1⟩ := call32_bad (nl := nl) (tg := tg) (n2 := n2) (t2 := t2') (gs := gs) (b := (bn : Int)) (cl := .p (.v .nilFunc)) hu hgl hC0 (.inr rfl)
      rw [if_pos hw] at e32
      obtain ⟨o', H2, e40, hC2⟩ := lawSus (nl := nl) (tg := tg) (n2 := n2) (t2 := t2') (gs := gs) (v11 := V n' t' (ss l bn gs)) (v12 := I 0) (v13 := I (max (pk l bn gs) 0)) (v14 := B (decide (0 ≤ pk l bn gs))) (v15 := I 0) (v16 := ask) (v18 := I 0) (v19 := I 0) (v20 := I 8) (v21 := I 0) (v22 := I 8) hv hu hN (by omega) hgs hb _ 0 (.p nilS) H1 rfl (by omega) (hC1.newNil 1)
      simp only [if_true]
      rw [L6_23_eq]
      simp only [e32, e33, hw, obs, oms, bin_add, bin_sub, bin_lss, bin_leq, bin_gtr, bin_geq, bin_eql, bin_neq, bin_eqlB, bin_neqB, un_not, cond_B, gd_B, gd_undef, gdH_B, gdH_undef, pickA_B, extractA_tup, lenA_sl, lenA_row, fldA_fp, fldA_ptr, fldA_rptr, List.getElem?_cons_zero, List.getElem?_cons_succ, decide_true, decide_false, if_true, if_false, Bool.true_eq_false, Bool.false_eq_true, Bool.not_true, Bool.not_false]
      rw [L6_33_eq]
      simp only [obs, oms, bin_add, bin_sub, bin_lss, bin_leq, bin_gtr, bin_geq, bin_eql, bin_neq, bin_eqlB, bin_neqB, un_not, cond_B, gd_B, gd_undef, gdH_B, gdH_undef, pickA_B, extractA_tup, lenA_sl, lenA_row, fldA_fp, fldA_ptr, fldA_rptr, List.getElem?_cons_zero, List.getElem?_cons_succ, decide_true, decide_false, if_true, if_false, Bool.true_eq_false, Bool.false_eq_true, Bool.not_true, Bool.not_false]
      rw [show L6_40 [W nl tg l, I bn, V n2 t2' gs, V n' t' (ss l bn gs), I 0, I (max (pk l bn gs) 0), B (decide (0 ≤ pk l bn gs)), I 0, ask, I 0, I 0, I 8, I 0, I 8, .p nilS, I 0, I 0, I 0] [] H1 = _ from e40, L6_51_eq]
      simp only [obs, oms, bin_add, bin_sub, bin_lss, bin_leq, bin_gtr, bin_geq, bin_eql, bin_neq, bin_eqlB, bin_neqB, un_not, cond_B, gd_B, gd_undef, gdH_B, gdH_undef, pickA_B, extractA_tup, lenA_sl, lenA_row, fldA_fp, fldA_ptr, fldA_rptr, List.getElem?_cons_zero, List.getElem?_cons_succ, decide_true, decide_false, if_true, if_false, Bool.true_eq_false, Bool.false_eq_true, Bool.not_true, Bool.not_false]
      exact final (by omega) (Src.of hC2.hd)
    | false =>
      obtain ⟨H1, e32, hC1⟩ := call32_ok (nl := nl) (tg := tg) (n2 := n2) (t2 := t2') (gs := gs) (b := (bn : Int)) (cl := ask) (is := fun k => ts.getD k false) hu hgl hk' hw hwf ⟨_, _, _, rfl⟩ hC0
      rw [Int.toNat_natCast] at e32
      obtain ⟨o', H2, e40, hC2⟩ := lawSus (nl := nl) (tg := tg) (n2 := n2) (t2 := t2') (gs := gs) (v11 := V n' t' (ss l bn gs)) (v12 := I 0) (v13 := I (max (pk l bn gs) 0)) (v14 := B (decide (0 ≤ pk l bn gs))) (v15 := I 0) (v16 := ask) (v18 := I (hunt l (fun k => ts.getD k false) (ss l bn gs).length bn gs 0).1) (v19 := I (hunt l (fun k => ts.getD k false) (ss l bn gs).length bn gs 0).2) (v20 := I 0) (v21 := I 0) (v22 := I 0) hv hu hN (by omega) hgs hb _ 0 (.p nilS) H1 rfl (by omega) (hC1.newNil 1)
      simp only [Bool.false_eq_true, if_false]
      rw [L6_23_eq]
      simp only [e32, e33, hw, obs, oms, bin_add, bin_sub, bin_lss, bin_leq, bin_gtr, bin_geq, bin_eql, bin_neq, bin_eqlB, bin_neqB, un_not, cond_B, gd_B, gd_undef, gdH_B, gdH_undef, pickA_B, extractA_tup, lenA_sl, lenA_row, fldA_fp, fldA_ptr, fldA_rptr, List.getElem?_cons_zero, List.getElem?_cons_succ, decide_true, decide_false, if_true, if_false, Bool.true_eq_false, Bool.false_eq_true, Bool.not_true, Bool.not_false]
      rw [L6_33_eq]
      simp only [obs, oms, bin_add, bin_sub, bin_lss, bin_leq, bin_gtr, bin_geq, bin_eql, bin_neq, bin_eqlB, bin_neqB, un_not, cond_B, gd_B, gd_undef, gdH_B, gdH_undef, pickA_B, extractA_tup, lenA_sl, lenA_row, fldA_fp, fldA_ptr, fldA_rptr, List.getElem?_cons_zero, List.getElem?_cons_succ, decide_true, decide_false, if_true, if_false, Bool.true_eq_false, Bool.false_eq_true, Bool.not_true, Bool.not_false]
      rw [show L6_40 [W nl tg l, I bn, V n2 t2' gs, V n' t' (ss l bn gs), I 0, I (max (pk l bn gs) 0), B (decide (0 ≤ pk l bn gs)), I 0, ask, I (hunt l (fun k => ts.getD k false) (ss l bn gs).length bn gs 0).1, I (hunt l (fun k => ts.getD k false) (ss l bn gs).length bn gs 0).2, I 0, I 0, I 0, .p nilS, I 0, I 0, I 0] [] H1 = _ from e40, L6_51_eq]
      have hl0 : litA false 1 [] H2 = some (.p (.sl (some false) true 0 []), H2) := rfl
      have hc0 : cellsA 1 (V n2 t2' gs) H2 = some (gs.length, gs.map Ia) := by simp [cellsA]
      simp only [obs, oms, bin_add, bin_sub, bin_lss, bin_leq, bin_gtr, bin_geq, bin_eql, bin_neq, bin_eqlB, bin_neqB, un_not, cond_B, gd_B, gd_undef, gdH_B, gdH_undef, pickA_B, extractA_tup, lenA_sl, lenA_row, fldA_fp, fldA_ptr, fldA_rptr, List.getElem?_cons_zero, List.getElem?_cons_succ, decide_true, decide_false, if_true, if_false, Bool.true_eq_false, Bool.false_eq_true, Bool.not_true, Bool.not_false, hl0, app0 (by omega) hc0]
      exact lawLoop (nl := nl) (tg := tg) hv hu hN hwf (by omega) _ bn gs 0 _ _ (Nat.le_refl _) hb w2 hgs (by omega) (by omega) (hC2.newRow (ia_cells gs))
  · have hS : resS l b gs = [] := by unfold resS; rw [if_neg hw]
    have hP : resP l b gs = -1 := by unfold resP; rw [if_neg hw]
    rw [hS, hP]
    have key : ∀ cl : AV, ((∃ q f c, cl = .fn q f c) ∨ cl = .p (.v .nilFunc)) → L6_23 [W nl tg l, I b, V n2 t2' gs, B no, V n' t' [], I (wErr l b gs), I (max (-1) 0), B (decide ((0 : Int) ≤ -1)), I (wErr l b gs), ask, cl] [] H0 = some ([B true], []) := by
      intro cl hcl
      obtain ⟨H1, e32, hC1⟩ := call32_bad (nl := nl) (tg := tg) (n2 := n2) (t2 := t2') (gs := gs) (b := b) (cl := cl) hu hgl hC0 (.inl ⟨hw, hcl⟩)
      rw [if_neg hw] at e32
      rw [L6_23_eq]
      simp only [e32, e33, hw, obs, oms, bin_add, bin_sub, bin_lss, bin_leq, bin_gtr, bin_geq, bin_eql, bin_neq, bin_eqlB, bin_neqB, un_not, cond_B, gd_B, gd_undef, gdH_B, gdH_undef, pickA_B, extractA_tup, lenA_sl, lenA_row, fldA_fp, fldA_ptr, fldA_rptr, List.getElem?_cons_zero, List.getElem?_cons_succ, decide_true, decide_false, if_true, if_false, Bool.true_eq_false, Bool.false_eq_true, Bool.not_true, Bool.not_false]
      rw [L6_33_eq]
      simp only [hw, obs, oms, bin_add, bin_sub, bin_lss, bin_leq, bin_gtr, bin_geq, bin_eql, bin_neq, bin_eqlB, bin_neqB, un_not, cond_B, gd_B, gd_undef, gdH_B, gdH_undef, pickA_B, extractA_tup, lenA_sl, lenA_row, fldA_fp, fldA_ptr, fldA_rptr, List.getElem?_cons_zero, List.getElem?_cons_succ, decide_true, decide_false, if_true, if_false, Bool.true_eq_false, Bool.false_eq_true, Bool.not_true, Bool.not_false]
      rw [L6_51_eq]
      simp only [hw, obs, oms, bin_add, bin_sub, bin_lss, bin_leq, bin_gtr, bin_geq, bin_eql, bin_neq, bin_eqlB, bin_neqB, un_not, cond_B, gd_B, gd_undef, gdH_B, gdH_undef, pickA_B, extractA_tup, lenA_sl, lenA_row, fldA_fp, fldA_ptr, fldA_rptr, List.getElem?_cons_zero, List.getElem?_cons_succ, decide_true, decide_false, if_true, if_false, Bool.true_eq_false, Bool.false_eq_true, Bool.not_true, Bool.not_false]
      exact final (A := []) (p := -1) (by simp) (Src.v (some true) true [] H1)
    cases no with
    | true => exact key _ (.inr rfl)
    | false => exact key _ (.inl ⟨_, _, _, rfl⟩)

theorem law (hu : ∀ k, (U l k).length < 2 ^ 63) {n2 n3 : Option Bool} {t2 t3 : Bool} {gs : List Int} (hk : Kn n2 gs) (b : Int) (ts : List Bool) (no : Bool) : ∃ H', O.ent 6 [W nl tg l, I b, V n2 t2 gs, .p (.sl n3 t3 ts.length (ts.map boolP)), B no] [] [] = some ([B true], H') := by
  refine ⟨[], ?_⟩
  rw [f6_eq]
  have b1 : boxO [] (AV.cells (.p (.sl n3 t3 ts.length (ts.map boolP)))) [] = some (.ptr 0 0, [.box [.p (.sl n3 t3 ts.length (ts.map boolP))]]) := boxO_p [.sl n3 t3 ts.length (ts.map boolP)] []
  simp only [b1, obs, oms, bin_add, bin_sub, bin_lss, bin_leq, bin_gtr, bin_geq, bin_eql, bin_neq, bin_eqlB, bin_neqB, un_not, cond_B, gd_B, gd_undef, gdH_B, gdH_undef, pickA_B, extractA_tup, lenA_sl, lenA_row, fldA_fp, fldA_ptr, fldA_rptr, List.getElem?_cons_zero, List.getElem?_cons_succ, decide_true, decide_false, if_true, if_false, Bool.true_eq_false, Bool.false_eq_true, Bool.not_true, Bool.not_false]
  by_cases h : (l.length : Int) ≤ 200
  · rw [if_pos (by simpa using h), bests_min, obs, cutA_hi (by omega)]
    have e20 : (min (l.length : Int) 20).toNat = min l.length 20 := by omega
    have e : (AV.p (.sl nl (tg && decide (min (l.length : Int) 20 = l.length)) (min (l.length : Int) 20).toNat ((l.map us).take ((min (l.length : Int) 20).toNat * 1)))) = W nl (tg && decide (min (l.length : Int) 20 = l.length)) (l.take 20) := by
      simp only [e20, Nat.mul_one, W, List.length_take, List.map_take]
      rw [Nat.min_comm l.length 20]
      congr 2
      rcases Nat.lt_or_ge l.length 20 with q | q
      · rw [Nat.min_eq_right (by omega), List.take_of_length_le (by simp), List.take_of_length_le (by simp; omega)]
      · rw [Nat.min_eq_left q]
    simp only [obs]
    rw [e]
    refine law1 (fun k => ?_) hk b ts no
    unfold U
    rcases Nat.lt_or_ge k 20 with q | q
    · have : (l.take 20).getD k (none, []) = l.getD k (none, []) := by simp [List.getD, List.getElem?_take, q]
      rw [this]; exact hu k
    · have : (l.take 20).getD k (none, []) = (none, []) := by simp [List.getD, List.getElem?_take, Nat.not_lt.mpr q]
      rw [this]; simp
  · rw [if_neg (by simpa using h)]
    exact law1 hu hk b ts no
end
end Hun
end Go.Proofs.Ytfdkacaocngfkaa
