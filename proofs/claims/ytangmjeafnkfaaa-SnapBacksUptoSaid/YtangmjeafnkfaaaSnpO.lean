import Derived.Test.YtangmjeafnkfaaaSnpP
set_option linter.unusedVariables false
set_option linter.unusedSimpArgs false
namespace Go.Proofs.Ytangmjeafnkfaaa
open Go Go.AM
namespace Snp

section
variable {r M : Nat} {lo : List Nat}

/-! ### Texts -/
def enc_b (b : UInt8) : List PV := [.v (.int .u8 b.toNat)]
def fb (b : UInt8) : List Int := [(b.toNat : Int)]
def byt (w : List Int) : Prop := ∃ b : UInt8, w = [(b.toNat : Int)]
theorem len_b (b : UInt8) : (enc_b b).length = 1 := rfl

theorem ofNat_toNat {n : Int} (h : 0 ≤ n ∧ n < 256) : ((UInt8.ofNat n.toNat).toNat : Int) = n := by
  rw [UInt8.toNat_ofNat']
  omega

theorem call143 : RS r M lo (fun H => callA cfg O 143 [.ptr r 0] lo H) byt (postO enc_b fb fun _ => True) := by
  intro H zs bad hR hz
  obtain ⟨_, H1, zs1, bad1, _, e1, hR1, hK1, hT1, n, rfl, rfl⟩ := call113 H zs bad hR hz
  obtain ⟨x, h1, h2, h3⟩ := hR1
  have hn : nilCheckA (.ptr r 0) = some (.ptr r 0) := rfl
  have hm : 0 ≤ n % 256 ∧ n % 256 < 256 := by omega
  obtain ⟨k1, k2⟩ := Rd.flag (zs' := zs1) h1 h2 h3 (bad1 || decide (n < 0) || decide (255 < n)) h2 h3.1
  have hc : conv (.int .u8) (I n) = some (.p (.v (.int .u8 ((UInt8.ofNat (n % 256).toNat).toNat : Int)))) := by
    show some (AV.p (.v (.int .u8 (IntKind.u8.wrap n)))) = _
    rw [wrap_u8_mod, ofNat_toNat hm]
  refine ⟨.p (.v (.int .u8 ((UInt8.ofNat (n % 256).toNat).toNat : Int))), _, zs1, _, fb (UInt8.ofNat (n % 256).toNat), callA_keep (rs := [_]) rfl ?_, k1, hK1.trans k2 hK1.1, ⟨fun e => ?_, fun e w t hw hzz => ?_, hT1.len⟩, UInt8.ofNat (n % 256).toNat, trivial, .inl ⟨rfl, trivial⟩, rfl⟩
  · rw [f143_eq]
    have hst := stR1 (lo := lo) h1 (bad1 || decide (n < 0) || decide (255 < n))
    cases bad1 with
    | true =>
      simp only [Bool.true_or] at hst ⊢
      simp only [e1, obs, oms, bin_add, bin_sub, bin_lss, bin_leq, bin_gtr, bin_geq, bin_eql, bin_neq, bin_eqlB, bin_neqB, un_not, cond_B, gd_B, gd_undef, gdH_B, gdH_undef, pickA_B, extractA_tup, lenA_sl, lenA_row, fldA_fp, fldA_ptr, fldA_rptr, List.getElem?_cons_zero, List.getElem?_cons_succ, decide_true, decide_false, if_true, if_false, Bool.true_eq_false, Bool.false_eq_true, Bool.not_true, Bool.not_false, hn, ldR1 h1, hst, hc]
      rfl
    | false =>
      simp only [Bool.false_or] at hst ⊢
      by_cases a : n < 0
      · simp only [a, decide_true, Bool.true_or] at hst ⊢
        simp only [e1, a, obs, oms, bin_add, bin_sub, bin_lss, bin_leq, bin_gtr, bin_geq, bin_eql, bin_neq, bin_eqlB, bin_neqB, un_not, cond_B, gd_B, gd_undef, gdH_B, gdH_undef, pickA_B, extractA_tup, lenA_sl, lenA_row, fldA_fp, fldA_ptr, fldA_rptr, List.getElem?_cons_zero, List.getElem?_cons_succ, decide_true, decide_false, if_true, if_false, Bool.true_eq_false, Bool.false_eq_true, Bool.not_true, Bool.not_false, hn, ldR1 h1, hst, hc]
        rfl
      · simp only [a, decide_false, Bool.false_or] at hst ⊢
        simp only [e1, a, obs, oms, bin_add, bin_sub, bin_lss, bin_leq, bin_gtr, bin_geq, bin_eql, bin_neq, bin_eqlB, bin_neqB, un_not, cond_B, gd_B, gd_undef, gdH_B, gdH_undef, pickA_B, extractA_tup, lenA_sl, lenA_row, fldA_fp, fldA_ptr, fldA_rptr, List.getElem?_cons_zero, List.getElem?_cons_succ, decide_true, decide_false, if_true, if_false, Bool.true_eq_false, Bool.false_eq_true, Bool.not_true, Bool.not_false, hn, ldR1 h1, hst, hc]
        rfl
  · simp only [Bool.or_eq_false_iff, decide_eq_false_iff_not] at e
    obtain ⟨⟨e2, e3⟩, e4⟩ := e
    obtain ⟨e5, e6⟩ := hT1.snd e2
    refine ⟨e5, ?_⟩
    rw [e6]
    unfold fb
    rw [ofNat_toNat hm, show n % 256 = n by omega]
  · obtain ⟨b, rfl⟩ := hw
    obtain ⟨e2, e3⟩ := hT1.cmp e [(b.toNat : Int)] t ⟨_, rfl⟩ hzz
    obtain ⟨_, e4⟩ := hT1.snd e2
    rw [hzz] at e4
    simp only [List.cons_append, List.nil_append, List.cons.injEq] at e4
    have := b.toNat_lt
    refine ⟨?_, e3⟩
    rw [e2, ← e4.1]
    simp
    omega

theorem bytesOf_b : ∀ (l : List UInt8), bytesOf (l.flatMap enc_b) = some l := by
  intro l
  induction l with
  | nil => rfl
  | cons b l ih =>
    rw [List.flatMap_cons]
    show (bytesOf (l.flatMap enc_b)).map _ = _
    rw [ih]
    simp

theorem frz1 {sz m N : Nat} {o : AV} {H : Heap} {cs : List PV} (hL : Lst sz o H m cs) (hN : New N o) : ∃ nl tg H', frzAll H [o] = some ([.p (.sl nl tg m cs)], H') ∧ H'.length = H.length ∧ ∀ j, j < N → H'[j]? = H[j]? := by
  obtain ⟨hl, ⟨nl, rfl, _⟩ | ⟨id, g, rfl, ho⟩⟩ := hL
  · exact ⟨nl, true, H, rfl, rfl, fun _ _ => rfl⟩
  · refine ⟨if 0 < m then some false else none, false, H.set id (.row (g + 1) sz []), ?_, by simp, fun j hj => by have := hN _ _ _ _ rfl; rw [List.getElem?_set_ne (by omega)]⟩
    simp only [frzAll, frzA, frzLeaf, toPV, ho, Nat.zero_add, hl, Nat.le_refl, and_self, if_true, obs, oms]
    rw [List.drop_zero, List.take_of_length_le (by omega)]

theorem fb_map : ∀ (l : List UInt8), l.flatMap fb = l.map fun b => (b.toNat : Int) := by
  intro l
  induction l with
  | nil => rfl
  | cons b l ih => rw [List.flatMap_cons, ih]; rfl

theorem byt_ne {w : List Int} (h : byt w) : w ≠ [] := by obtain ⟨b, rfl⟩ := h; simp

theorem call106 : RS r M lo (fun H => callA cfg O 106 [.ptr r 0] lo H) (FS byt) (postO enc_str ftx fun s => s.size < 2 ^ 63) := by
  intro H zs bad hR hz
  obtain ⟨o, H1, zs1, bad1, out, e1, hR1, hK1, hT1, l, hL, hN, hlt, hlen, _, hout⟩ := ent142 (lo := lo) (cl := .fn 143 [.ptr r 0] []) len_b (fun w => byt_ne) (fun lo' => call143 (lo := lo')) H zs bad hR hz
  obtain ⟨nl, tg, H2, e2, hl2, hk2⟩ := frz1 hL hN
  have hle := hK1.1
  have hrl : RLIM = 16777216 := rfl
  have c142 : callA cfg O 142 [.ptr r 0, .fn 143 [.ptr r 0] []] lo H = some (.p (.sl nl tg l.length (l.flatMap enc_b)), H2.take H.length) := by
    have hlv : leave 2 (H.length :: lo) [o] H1 = some ([.p (.sl nl tg l.length (l.flatMap enc_b))], H2.take H.length) := by
      simp only [leave, e2, obs]
      rfl
    show (O.ent 142 [.ptr r 0, .fn 143 [.ptr r 0] []] lo H).map _ = _
    rw [e1, hlv]
    rfl
  have hR2 : Rd r M lo (H2.take H.length) zs1 bad1 := by
    obtain ⟨x, h1, h2, h3, h4, h5⟩ := hR1
    have hrlt := hR.lt
    refine ⟨x, by rw [List.getElem?_take, if_pos hrlt, hk2 r hrlt]; exact h1, h2.keep fun id g off n e => ?_, h3, by rw [List.length_take]; have := hR.le; omega, fun l' hl' => ?_⟩
    · have := SrcO.id_lt h3 id g off n e
      have := hR.le
      rw [List.getElem?_take, if_pos (by omega), hk2 id (by omega)]
    · obtain ⟨_, _, _, _, _, h6⟩ := hR
      have := h6 l' hl'
      rw [List.length_take]
      omega
  have hcv : conv .toStr (.p (.sl nl tg l.length (l.flatMap enc_b))) = some (S ⟨l.toArray⟩) := by
    have : (l.flatMap enc_b).length = l.length := by rw [rows_length len_b]; omega
    simp only [conv, this, if_true, bytesOf_b, oms]
  refine ⟨S ⟨l.toArray⟩, _, zs1, bad1, out, callA_keep (rs := [_]) rfl ?_, hR2, ⟨by rw [List.length_take]; omega, fun j hj hjr => by rw [List.getElem?_take, if_pos hj, hk2 j hj, hK1.2 j hj hjr]⟩, hT1, ⟨l.toArray⟩, ?_, .inl ⟨rfl, trivial⟩, ?_⟩
  · rw [f106_eq]
    simp only [c142, obs, hcv]
    rfl
  · show l.toArray.size < 2 ^ 63
    rw [List.size_toArray]; omega
  · rw [hout]
    unfold ftx
    congr 1
    exact fb_map l

theorem FS_ne {F : List Int → Prop} {w : List Int} (h : FS F w) : w ≠ [] := by obtain ⟨ws, rfl, _⟩ := h; simp
theorem Seq_ne {F G : List Int → Prop} (hF : ∀ w, F w → w ≠ []) {w : List Int} (h : Seq F G w) : w ≠ [] := by
  obtain ⟨a, c, rfl, h1, _⟩ := h
  have := hF a h1
  simp [this]
theorem one_ne {w : List Int} (h : one w) : w ≠ [] := by obtain ⟨n, rfl⟩ := h; simp

theorem someText : RS r M lo (fun H => callA cfg O 105 [.ptr r 0, .fn 106 [.ptr r 0] []] lo H) (FS (FS byt)) (postS 1 enc_str ftx fun s => s.size < 2 ^ 63) :=
  call105 len_str (fun w => FS_ne) fun lo' => call106 (lo := lo')

/-! ### Frames -/
variable {H0 H : Heap} {xs : List AV} {zs : List Int} {bad : Bool}
theorem LB.step (h : LB r M lo H0 H xs zs bad) {off n : Nat} {y : AV} {ys : List AV} (hy : y.cells.length = n) (hl : y.cells.all AV.leaf = true) (ho : off + n ≤ xs.length) (h0 : 0 < xs.length) (he : splice xs off y.cells = ys) :
    ∃ H', stA n (.ptr H0.length off) y lo H = some H' ∧ LB r M lo H0 H' ys zs bad ∧ (∀ sz m o cs, Lst sz o H m cs → Lst sz o H' m cs) ∧ H'.length = H.length := by
  subst he
  exact ⟨_, h.st hy hl ho h0, h.put _, fun sz m o cs hL => lst_set hL h.bx, by simp⟩

theorem LB.keepL (h : LB r M lo H0 H xs zs bad) {H' : Heap} (k : KR r H.length H H') {sz m : Nat} {o : AV} {cs : List PV} (hL : Lst sz o H m cs) : Lst sz o H' m cs := by
  obtain ⟨x, h1, _⟩ := h.rd
  exact Lst.kr (N := 0) hL k.2 h1

abbrev FFrame : List Int → Prop := Seq (Seq (Seq (Seq two two) two) (FS two)) (FS two)
theorem ok63 {α : Type} {l : List α} {nt : Option Bool × Bool} (h : l.length ≤ RLIM) : ok_L (nt, l) := by
  have hrl : RLIM = 16777216 := rfl
  show l.length < 2 ^ 63
  omega

theorem call141 : RS r M lo (fun H => callA cfg O 141 [.ptr r 0] lo H) FFrame (postO enc_Frame ff ok_Frame) := by
  intro H zs bad hR hz
  have hb : boxO [] [I 0, I 0, I 0, I 0, I 0, I 0, .p nilS, .p nilS] H = some (.ptr H.length 0, H ++ [.box [I 0, I 0, I 0, I 0, I 0, I 0, .p nilS, .p nilS]]) := boxO_p [Ia 0, Ia 0, Ia 0, Ia 0, Ia 0, Ia 0, nilS, nilS] H
  obtain ⟨a, b, H2, H3, z3, b3, e2, e3, h3, t3, l3, _⟩ := pair (LB.new hR [I 0, I 0, I 0, I 0, I 0, I 0, .p nilS, .p nilS]) hz
  obtain ⟨c, d, H4, H5, z5, b5, e4, e5, h5, t5, l5, _⟩ := pair h3 l3
  obtain ⟨H6, s6, h6, _, _⟩ := h5.step (off := 0) (n := 1) (y := I a) (ys := [I a, I 0, I 0, I 0, I 0, I 0, .p nilS, .p nilS]) rfl rfl (by simp) (by simp) rfl
  obtain ⟨H7, s7, h7, _, _⟩ := h6.step (off := 1) (n := 1) (y := I b) (ys := [I a, I b, I 0, I 0, I 0, I 0, .p nilS, .p nilS]) rfl rfl (by simp) (by simp) rfl
  obtain ⟨H8, s8, h8, _, _⟩ := h7.step (off := 2) (n := 1) (y := I c) (ys := [I a, I b, I c, I 0, I 0, I 0, .p nilS, .p nilS]) rfl rfl (by simp) (by simp) rfl
  obtain ⟨H9, s9, h9, _, _⟩ := h8.step (off := 3) (n := 1) (y := I d) (ys := [I a, I b, I c, I d, I 0, I 0, .p nilS, .p nilS]) rfl rfl (by simp) (by simp) rfl
  obtain ⟨_, Ha, za, ba, _, ea, ha, ta, ⟨p, rfl, rfl⟩, ka, la⟩ := h9.call call112 l5
  obtain ⟨Hb, sb, h10, _, _⟩ := ha.step (off := 4) (n := 2) (y := .agg [I p.1, I p.2]) (ys := [I a, I b, I c, I d, I p.1, I p.2, .p nilS, .p nilS]) rfl rfl (by simp) (by simp) rfl
  obtain ⟨o1, Hc, zc, bc, out1, ec, hc, tc, ⟨l1, L1, N1, _, len1, _, eo1⟩, kc, lc⟩ := h10.call someVal la
  obtain ⟨g1, g2⟩ := lst_leaf L1
  obtain ⟨Hd, sd, h11, keep1, hl11⟩ := hc.step (off := 6) (n := 1) (y := o1) (ys := [I a, I b, I c, I d, I p.1, I p.2, o1, .p nilS]) (by rw [g1]; rfl) (by rw [g1]; simp [g2]) (by simp) (by simp) (by rw [g1]; rfl)
  have L1d := keep1 _ _ _ _ L1
  obtain ⟨o2, He, ze, be, out2, ee, he, te, ⟨l2, L2, N2, _, len2, _, eo2⟩, ke, le⟩ := h11.call someTry lc
  obtain ⟨g3, g4⟩ := lst_leaf L2
  have L1e := h11.keepL ke L1d
  obtain ⟨Hf, sf, h12, keep2, _⟩ := he.step (off := 7) (n := 1) (y := o2) (ys := [I a, I b, I c, I d, I p.1, I p.2, o1, o2]) (by rw [g3]; rfl) (by rw [g3]; simp [g4]) (by simp) (by simp) (by rw [g3]; rfl)
  have hall : (AV.agg [I a, I b, I c, I d, I p.1, I p.2, o1, o2]).cells.all AV.leaf = true := by
    show ([I a, I b, I c, I d, I p.1, I p.2, o1, o2] : List AV).all AV.leaf = true
    simp only [List.all_cons, g2, g4, List.all_nil, Bool.and_true]
    rfl
  obtain ⟨Hg, sg, h13, keep3, _⟩ := h12.step (off := 0) (n := 8) (y := .agg [I a, I b, I c, I d, I p.1, I p.2, o1, o2]) (ys := [I a, I b, I c, I d, I p.1, I p.2, o1, o2]) rfl hall (by simp) (by simp) rfl
  obtain ⟨nt2, v2⟩ := LvS.lst (N := Hd.length) (M := He.length) (ys := []) (cs := []) (keep3 _ _ _ _ (keep2 _ _ _ _ L2)) N2 (lst_row_lt L2) ke.1 trivial
  obtain ⟨nt1, v1⟩ := LvS.lst (N := H.length) (M := Hd.length) (keep3 _ _ _ _ (keep2 _ _ _ _ L1e)) (N1.mono h10.kr.1) (by rw [hl11]; exact lst_row_lt L1) h11.kr.1 v2
  refine ⟨.agg [I a, I b, I c, I d, I p.1, I p.2, o1, o2], Hg, ze, be, _, callA_keep (rs := [_]) rfl ?_, h13.rd, h13.kr, ((((t3.comp t5).comp ta).comp tc).comp te), (a, b, c, d, p, (nt1, l1), (nt2, l2)), ⟨ok63 len1, ok63 len2⟩, .inl ⟨rfl, .inl ⟨rfl, .inl ⟨rfl, .inl ⟨rfl, .inl ⟨rfl, .inl ⟨rfl, v1⟩⟩⟩⟩⟩⟩, ?_⟩
  · rw [f141_eq]
    simp only [hb, obs, e2, e3, e4, e5, fldA_ptr, Nat.zero_add, s6, s7, s8, s9, oms, ea, sb, ec, sd, ee, sf, h12.ld (n := 8) rfl (by simp), sg, h13.ld (n := 8) rfl (by simp)]
    rfl
  · rw [eo1, eo2]
    simp [ff, fvs, fts, fl, fv]

theorem FFrame_ne {w : List Int} (h : FFrame w) : w ≠ [] := Seq_ne (fun _ => Seq_ne fun _ => Seq_ne fun _ => Seq_ne fun _ => two_ne) h
theorem someFrame : RS r M lo (fun H => callA cfg O 140 [.ptr r 0, .fn 141 [.ptr r 0] []] lo H) (FS FFrame) (postS 8 enc_Frame ff ok_Frame) :=
  call140 len_Frame (fun w => FFrame_ne) fun lo' => call141 (lo := lo')

/-! ### Cells -/
abbrev FCell : List Int → Prop := Seq (Seq two (FS two)) (FS FFrame)
theorem call102 : RS r M lo (fun H => callA cfg O 102 [.ptr r 0] lo H) FCell (postO enc_Cell fc ok_Cell) := by
  intro H zs bad hR hz
  have hb : boxO [] [I 0, I 0, .p nilS, .p nilS] H = some (.ptr H.length 0, H ++ [.box [I 0, I 0, .p nilS, .p nilS]]) := boxO_p [Ia 0, Ia 0, nilS, nilS] H
  obtain ⟨a, b, H2, H3, z3, b3, e2, e3, h3, t3, l3, _⟩ := pair (LB.new hR [I 0, I 0, .p nilS, .p nilS]) hz
  obtain ⟨H6, s6, h6, _, _⟩ := h3.step (off := 0) (n := 1) (y := I a) (ys := [I a, I 0, .p nilS, .p nilS]) rfl rfl (by simp) (by simp) rfl
  obtain ⟨H7, s7, h7, _, _⟩ := h6.step (off := 1) (n := 1) (y := I b) (ys := [I a, I b, .p nilS, .p nilS]) rfl rfl (by simp) (by simp) rfl
  obtain ⟨o1, Hc, zc, bc, out1, ec, hc, tc, ⟨l1, L1, N1, _, len1, _, eo1⟩, kc, lc⟩ := h7.call someVal l3
  obtain ⟨g1, g2⟩ := lst_leaf L1
  obtain ⟨Hd, sd, h11, keep1, hl11⟩ := hc.step (off := 2) (n := 1) (y := o1) (ys := [I a, I b, o1, .p nilS]) (by rw [g1]; rfl) (by rw [g1]; simp [g2]) (by simp) (by simp) (by rw [g1]; rfl)
  have L1d := keep1 _ _ _ _ L1
  obtain ⟨o2, He, ze, be, out2, ee, he, te, ⟨l2, L2, N2, _, len2, ok2, eo2⟩, ke, le⟩ := h11.call someFrame lc
  obtain ⟨g3, g4⟩ := lst_leaf L2
  have L1e := h11.keepL ke L1d
  obtain ⟨Hf, sf, h12, keep2, _⟩ := he.step (off := 3) (n := 1) (y := o2) (ys := [I a, I b, o1, o2]) (by rw [g3]; rfl) (by rw [g3]; simp [g4]) (by simp) (by simp) (by rw [g3]; rfl)
  have hall : (AV.agg [I a, I b, o1, o2]).cells.all AV.leaf = true := by
    show ([I a, I b, o1, o2] : List AV).all AV.leaf = true
    simp only [List.all_cons, g2, g4, List.all_nil, Bool.and_true]
    rfl
  obtain ⟨Hg, sg, h13, keep3, _⟩ := h12.step (off := 0) (n := 4) (y := .agg [I a, I b, o1, o2]) (ys := [I a, I b, o1, o2]) rfl hall (by simp) (by simp) rfl
  obtain ⟨nt2, v2⟩ := LvS.lst (N := Hd.length) (M := He.length) (ys := []) (cs := []) (keep3 _ _ _ _ (keep2 _ _ _ _ L2)) N2 (lst_row_lt L2) ke.1 trivial
  obtain ⟨nt1, v1⟩ := LvS.lst (N := H.length) (M := Hd.length) (keep3 _ _ _ _ (keep2 _ _ _ _ L1e)) (N1.mono h7.kr.1) (by rw [hl11]; exact lst_row_lt L1) h11.kr.1 v2
  refine ⟨.agg [I a, I b, o1, o2], Hg, ze, be, _, callA_keep (rs := [_]) rfl ?_, h13.rd, h13.kr, ((t3.comp tc).comp te), (a, b, (nt1, l1), (nt2, l2)), ⟨ok63 len1, ok63 len2, ok2⟩, .inl ⟨rfl, .inl ⟨rfl, v1⟩⟩, ?_⟩
  · rw [f102_eq]
    simp only [hb, obs, e2, e3, fldA_ptr, Nat.zero_add, s6, s7, oms, ec, sd, ee, sf, h12.ld (n := 4) rfl (by simp), sg, h13.ld (n := 4) rfl (by simp)]
    rfl
  · rw [eo1, eo2]
    simp [fc, fvs, ffs, fl]

theorem FCell_ne {w : List Int} (h : FCell w) : w ≠ [] := Seq_ne (fun _ => Seq_ne fun _ => two_ne) h
theorem someCell : RS r M lo (fun H => callA cfg O 101 [.ptr r 0, .fn 102 [.ptr r 0] []] lo H) (FS FCell) (postS 4 enc_Cell fc ok_Cell) :=
  call101 len_Cell (fun w => FCell_ne) fun lo' => call102 (lo := lo')

/-! ### Threads -/
abbrev FThread : List Int → Prop := Seq (Seq (FS FFrame) two) two
theorem call108 : RS r M lo (fun H => callA cfg O 108 [.ptr r 0] lo H) FThread (postO enc_Thread fth ok_Thread) := by
  intro H zs bad hR hz
  have hb : boxO [] [.p nilS, I 0, I 0, I 0, I 0] H = some (.ptr H.length 0, H ++ [.box [.p nilS, I 0, I 0, I 0, I 0]]) := boxO_p [nilS, Ia 0, Ia 0, Ia 0, Ia 0] H
  have h1 := LB.new hR [.p nilS, I 0, I 0, I 0, I 0]
  obtain ⟨o1, Hc, zc, bc, out1, ec, hc, tc, ⟨l1, L1, N1, _, len1, ok1, eo1⟩, kc, lc⟩ := h1.call someFrame hz
  obtain ⟨g1, g2⟩ := lst_leaf L1
  obtain ⟨Hd, sd, h11, keep1, hl11⟩ := hc.step (off := 0) (n := 1) (y := o1) (ys := [o1, I 0, I 0, I 0, I 0]) (by rw [g1]; rfl) (by rw [g1]; simp [g2]) (by simp) (by simp) (by rw [g1]; rfl)
  have L1d := keep1 _ _ _ _ L1
  obtain ⟨a, b, H2, H3, z3, b3, e2, e3, h3, t3, l3, k3⟩ := pair h11 lc
  have L13 := h11.keepL k3 L1d
  obtain ⟨H6, s6, h6, keep6, _⟩ := h3.step (off := 1) (n := 1) (y := I a) (ys := [o1, I a, I 0, I 0, I 0]) rfl rfl (by simp) (by simp) rfl
  obtain ⟨H7, s7, h7, keep7, _⟩ := h6.step (off := 2) (n := 1) (y := I b) (ys := [o1, I a, I b, I 0, I 0]) rfl rfl (by simp) (by simp) rfl
  have L17 := keep7 _ _ _ _ (keep6 _ _ _ _ L13)
  obtain ⟨_, Ha, za, ba, _, ea, ha, ta, ⟨p, rfl, rfl⟩, ka, la⟩ := h7.call call112 l3
  have L1a := h7.keepL ka L17
  obtain ⟨Hb, sb, h10, keep10, _⟩ := ha.step (off := 3) (n := 2) (y := .agg [I p.1, I p.2]) (ys := [o1, I a, I b, I p.1, I p.2]) rfl rfl (by simp) (by simp) rfl
  have hall : (AV.agg [o1, I a, I b, I p.1, I p.2]).cells.all AV.leaf = true := by
    show ([o1, I a, I b, I p.1, I p.2] : List AV).all AV.leaf = true
    simp only [List.all_cons, g2, List.all_nil, Bool.and_true, Bool.true_and]
    rfl
  obtain ⟨Hg, sg, h13, keep3, _⟩ := h10.step (off := 0) (n := 5) (y := .agg [o1, I a, I b, I p.1, I p.2]) (ys := [o1, I a, I b, I p.1, I p.2]) rfl hall (by simp) (by simp) rfl
  have v0 : LvS Hg Hc.length [I a, I b, I p.1, I p.2] [Ia a, Ia b, Ia p.1, Ia p.2] := .inl ⟨rfl, .inl ⟨rfl, .inl ⟨rfl, .inl ⟨rfl, trivial⟩⟩⟩⟩
  obtain ⟨nt1, v1⟩ := LvS.lst (N := H.length) (M := Hc.length) (keep3 _ _ _ _ (keep10 _ _ _ _ L1a)) (N1.mono h1.kr.1) (lst_row_lt L1) hc.kr.1 v0
  refine ⟨.agg [o1, I a, I b, I p.1, I p.2], Hg, za, ba, _, callA_keep (rs := [_]) rfl ?_, h13.rd, h13.kr, ((tc.comp t3).comp ta), ((nt1, l1), a, b, p), ⟨ok63 len1, ok1⟩, v1, ?_⟩
  · rw [f108_eq]
    simp only [hb, obs, e2, e3, fldA_ptr, Nat.zero_add, s6, s7, oms, ec, sd, ea, sb, h10.ld (n := 5) rfl (by simp), sg, h13.ld (n := 5) rfl (by simp)]
    rfl
  · rw [eo1]
    simp [fth, ffs, fl, fv]

theorem FThread_ne {w : List Int} (h : FThread w) : w ≠ [] := Seq_ne (fun _ => Seq_ne fun _ => FS_ne) h
theorem someThread : RS r M lo (fun H => callA cfg O 107 [.ptr r 0, .fn 108 [.ptr r 0] []] lo H) (FS FThread) (postS 5 enc_Thread fth ok_Thread) :=
  call107 len_Thread (fun w => FThread_ne) fun lo' => call108 (lo := lo')

/-! ### Ends -/
abbrev FEnd : List Int → Prop := Seq one two
theorem call110 : RS r M lo (fun H => callA cfg O 110 [.ptr r 0] lo H) FEnd (postO enc_End fe fun _ => True) := by
  intro H zs bad hR hz
  have hb : boxO [] [I 0, I 0, I 0] H = some (.ptr H.length 0, H ++ [.box [I 0, I 0, I 0]]) := boxO_p [Ia 0, Ia 0, Ia 0] H
  obtain ⟨_, H2, z2, b2, _, e2, h2, t2, ⟨a, rfl, rfl⟩, k2, l2⟩ := (LB.new hR [I 0, I 0, I 0]).call call113 hz
  obtain ⟨H6, s6, h6, _, _⟩ := h2.step (off := 0) (n := 1) (y := I a) (ys := [I a, I 0, I 0]) rfl rfl (by simp) (by simp) rfl
  obtain ⟨_, Ha, za, ba, _, ea, ha, ta, ⟨p, rfl, rfl⟩, ka, la⟩ := h6.call call112 l2
  obtain ⟨Hb, sb, h10, _, _⟩ := ha.step (off := 1) (n := 2) (y := .agg [I p.1, I p.2]) (ys := [I a, I p.1, I p.2]) rfl rfl (by simp) (by simp) rfl
  obtain ⟨Hg, sg, h13, _, _⟩ := h10.step (off := 0) (n := 3) (y := .agg [I a, I p.1, I p.2]) (ys := [I a, I p.1, I p.2]) rfl rfl (by simp) (by simp) rfl
  refine ⟨.agg [I a, I p.1, I p.2], Hg, za, ba, _, callA_keep (rs := [_]) rfl ?_, h13.rd, h13.kr, t2.comp ta, (a, p), trivial, .inl ⟨rfl, .inl ⟨rfl, .inl ⟨rfl, trivial⟩⟩⟩, ?_⟩
  · rw [f110_eq]
    simp only [hb, obs, e2, fldA_ptr, Nat.zero_add, s6, oms, ea, sb, h10.ld (n := 3) rfl (by simp), sg, h13.ld (n := 3) rfl (by simp)]
    rfl
  · simp [fe, fv]

theorem FEnd_ne {w : List Int} (h : FEnd w) : w ≠ [] := Seq_ne (fun _ => one_ne) h
theorem someEnd : RS r M lo (fun H => callA cfg O 109 [.ptr r 0, .fn 110 [.ptr r 0] []] lo H) (FS FEnd) (postS 3 enc_End fe fun _ => True) :=
  call109 len_End (fun w => FEnd_ne) fun lo' => call110 (lo := lo')
end
end Snp
end Go.Proofs.Ytangmjeafnkfaaa
