import Derived.Test.YtkhbbjfdbbnojaaPaN
set_option linter.unusedVariables false
set_option linter.unusedSimpArgs false
namespace Go.Proofs.Ytkhbbjfdbbnojaa
open Go Go.AM
namespace Pa

/-! ### Counts taken off, pages that nobody uses any more -/
def subC (U l : List Int) : List Int := U.mapIdx fun j u => u - ((l.count (j : Int) : Nat) : Int)
theorem subC_len (U l : List Int) : (subC U l).length = U.length := by simp [subC]
theorem subC_get {U l : List Int} {j : Nat} (h : j < U.length) : (subC U l)[j]'(by rw [subC_len]; exact h) = U[j] - ((l.count (j : Int) : Nat) : Int) := by simp [subC]
theorem subC_nil (U : List Int) : subC U [] = U := by
  apply List.ext_getElem (subC_len _ _)
  intro j h1 h2
  rw [subC_get h2]; simp
theorem subC_neg {U l : List Int} {x : Int} (h : x < 0) : subC U (l ++ [x]) = subC U l := by
  apply List.ext_getElem (by rw [subC_len, subC_len])
  intro j h1 h2
  rw [subC_len] at h2
  rw [subC_get h2, subC_get h2, List.count_append, List.count_singleton]
  have : ¬ (x == (j : Int)) = true := by simp; omega
  rw [if_neg this]; simp
theorem subC_at {U l : List Int} {q : Nat} (h : q < U.length) : subC U (l ++ [(q : Int)]) = (subC U l).set q ((subC U l)[q]'(by rw [subC_len]; exact h) - 1) := by
  apply List.ext_getElem (by rw [List.length_set, subC_len, subC_len])
  intro j h1 h2
  rw [subC_len] at h1
  rw [subC_get h1, List.count_append, List.count_singleton, List.getElem_set]
  by_cases e : q = j
  · subst e
    have hg := subC_get (l := l) h
    rw [if_pos rfl, if_pos (by simp), hg]
    omega
  · rw [if_neg e, subC_get h1, if_neg (by simp; omega)]
    simp

def zc (U l : List Int) (j : Nat) : Bool := decide (l.count (j : Int) ≠ 0 ∧ U.getD j 0 = ((l.count (j : Int) : Nat) : Int))
def zP (P : List Pg) (U l : List Int) : List Pg := P.mapIdx fun j p => if zc U l j = true then zg else p
theorem zP_len (P : List Pg) (U l : List Int) : (zP P U l).length = P.length := by simp [zP]
theorem zP_get {P : List Pg} {U l : List Int} {j : Nat} (h : j < P.length) : (zP P U l)[j]'(by rw [zP_len]; exact h) = if zc U l j = true then zg else P[j] := by simp [zP]
theorem zP_congr {P : List Pg} {U l l' : List Int} (h : ∀ j, j < P.length → zc U l j = zc U l' j) : zP P U l = zP P U l' := by
  apply List.ext_getElem (by rw [zP_len, zP_len])
  intro j h1 h2
  rw [zP_len] at h1
  rw [zP_get h1, zP_get h1, h j h1]
theorem zP_nil (P : List Pg) (U : List Int) : zP P U [] = P := by
  apply List.ext_getElem (zP_len _ _ _)
  intro j h1 h2
  rw [zP_get h2]
  simp [zc]
theorem count_ne {l : List Int} {x : Int} {j : Nat} (h : x ≠ (j : Int)) : (l ++ [x]).count (j : Int) = l.count (j : Int) := by
  rw [List.count_append, List.count_singleton, if_neg (by simpa using h)]; simp
theorem count_eq {l : List Int} {q : Nat} : (l ++ [(q : Int)]).count (q : Int) = l.count (q : Int) + 1 := by
  rw [List.count_append, List.count_singleton, if_pos (by simp)]
theorem zP_neg {P : List Pg} {U l : List Int} {x : Int} (h : x < 0) : zP P U (l ++ [x]) = zP P U l :=
  zP_congr fun j _ => by unfold zc; rw [count_ne (by omega)]
theorem zP_hit {P : List Pg} {U l : List Int} {q : Nat} (hq : q < U.length) (h : U[q] = ((l.count (q : Int) : Nat) : Int) + 1) : zP P U (l ++ [(q : Int)]) = (zP P U l).set q zg := by
  apply List.ext_getElem (by rw [List.length_set, zP_len, zP_len])
  intro j h1 h2
  rw [zP_len] at h1
  rw [zP_get h1, List.getElem_set]
  by_cases e : q = j
  · subst e
    rw [if_pos rfl, if_pos]
    unfold zc
    rw [count_eq, decide_eq_true]
    refine ⟨by omega, ?_⟩
    rw [List.getD_eq_getElem?_getD, List.getElem?_eq_getElem hq]
    simp [h]
  · rw [if_neg e, zP_get h1]
    have : zc U (l ++ [(q : Int)]) j = zc U l j := by unfold zc; rw [count_ne (by omega)]
    rw [this]
theorem zP_no {P : List Pg} {U l : List Int} {q : Nat} (hq : q < U.length) (h : U[q] ≠ ((l.count (q : Int) : Nat) : Int) + 1) (hb : ((l.count (q : Int) : Nat) : Int) + 1 ≤ U[q]) : zP P U (l ++ [(q : Int)]) = zP P U l := by
  refine zP_congr fun j hj => ?_
  unfold zc
  by_cases e : q = j
  · subst e
    have hg : U.getD q 0 = U[q] := by rw [List.getD_eq_getElem?_getD, List.getElem?_eq_getElem hq]; rfl
    rw [hg, count_eq, decide_eq_false (by omega), decide_eq_false (by omega)]
  · rw [count_ne (by omega)]
theorem count_take_le {r : List Int} {i : Nat} (h : i < r.length) (x : Int) (e : r[i] = x) : (r.take i).count x + 1 ≤ r.count x := by
  have h1 : r.count x = (r.take (i + 1)).count x + (r.drop (i + 1)).count x := by rw [← List.count_append, List.take_append_drop]
  rw [take_snoc h, List.count_append, List.count_singleton, if_pos (by simp [e])] at h1
  omega

section
variable {s : SD} {H : Heap} {fx : List (Nat × AObj)} {ls : List Ll} {P : List Pg} {U : List Int} {R : List Dd} {oP oU oR : AV} {d : Nat}

theorem ent42_no (hl : ∀ d ∈ s.R, d.2.2.length < 2 ^ 63) {r : Int} (h : thr s r ≠ 0) : O.ent 42 [avS s, I r] [] [] = some ([avS eS, I (thr s r)], []) := by
  have b1 : boxO [] (AV.cells (avS s)) [] = some (.ptr 0 0, [bxS s]) := boxS s []
  have b2 : boxO [] [.p nilS, .p nilS, .p nilS] [bxS s] = some (.ptr 1 0, [bxS s, .box [.p nilS, .p nilS, .p nilS]]) := rfl
  have g0 : ([bxS s, .box [.p nilS, .p nilS, .p nilS]] : Heap)[0]? = some (bxS s) := rfl
  have l0 : litA false 1 [I r] [bxS s, .box [.p nilS, .p nilS, .p nilS]] = some (V (some false) true [r], [bxS s, .box [.p nilS, .p nilS, .p nilS]]) := rfl
  have c := call107 hl (l := [r]) (nl := some false) (tg := true) (by simp) [] [bxS s, .box [.p nilS, .p nilS, .p nilS]]
  rw [thr_one] at c
  have bz : buildA [.p nilS, .p nilS, .p nilS] [] = some (.agg [.p nilS, .p nilS, .p nilS]) := rfl
  have s1 : stA 3 (.ptr 1 0) (.agg [.p nilS, .p nilS, .p nilS]) [] [bxS s, .box [.p nilS, .p nilS, .p nilS]] = some [bxS s, .box [.p nilS, .p nilS, .p nilS]] := rfl
  have l1 : ld true 3 (.ptr 1 0) [bxS s, .box [.p nilS, .p nilS, .p nilS]] = some (.agg [.p nilS, .p nilS, .p nilS]) := rfl
  rw [f42_eq]
  simp only [b1, b2, ldS0 g0, l0, c, h, bz, s1, l1, obs, oms, bin_add, bin_sub, bin_lss, bin_leq, bin_gtr, bin_geq, bin_eql, bin_neq, bin_eqlB, bin_neqB, un_not, cond_B, gd_B, gd_undef, gdH_B, gdH_undef, pickA_B, extractA_tup, lenA_sl, lenA_row, fldA_fp, fldA_ptr, fldA_rptr, List.getElem?_cons_zero, List.getElem?_cons_succ, decide_true, decide_false, if_true, if_false, Bool.true_eq_false, Bool.false_eq_true, Bool.not_true, Bool.not_false]
  rfl

theorem loop42 {v : Nat} {r : List Int} {nl : Option Bool} {tg : Bool} (hd : ∀ q ∈ fx, q.1 ≠ d) (hd1 : 1 ≠ d) (h1m : (1, AObj.box [.p nilS, .p nilS, .p nilS]) ∈ fx) (hv : v < R.length)
    (hU : ∀ u ∈ U, 0 ≤ u ∧ u < 2 ^ 40) (hul : U.length = P.length) (hr : r.length ≤ 16) (hx : ∀ x ∈ r, x < U.length) (hcnt : ∀ (q : Nat) (h : q < U.length), ((r.count (q : Int) : Nat) : Int) ≤ U[q]) :
    ∀ (c i : Nat) (H : Heap), r.length - i = c → i ≤ r.length → Own H ((d, .box [oP, oU, oR]) :: fx) ls (zP P U (r.take i)) (subC U (r.take i)) R oP oU oR →
      ∃ t, L42_14 [I v, .ptr 1 0, .ptr d 0, V nl tg r, I r.length, I i] [] H = some ([avS t, I 0], []) ∧ t.P = zP P U r ∧ t.U = subC U r ∧ ints t.R = (ints R).set v [] := by
  intro c
  induction c with
  | zero =>
    intro i H hc hi h
    have : i = r.length := by omega
    subst this
    rw [List.take_length] at h
    obtain ⟨ir, gr, er⟩ := h.r.row (by omega)
    subst er
    have hdb := h.cx.box (d, _) (List.mem_cons_self ..)
    have eR : ld false 1 (.ptr d (0 + 2)) H = some (.row ir gr 0 R.length) := ldBoxJ (j := 2) hdb
    have cR := Cx.cell [] h.cx hv
    obtain ⟨eS2, hS2⟩ := cR.2.2.2 nilS []
    have lr : lR (.row ir gr 0 R.length) (R.set v (some true, true, [])) = (.row ir gr 0 R.length, 1, R.length, (R.map us).set v nilS) := by
      rw [lR, List.length_set, List.map_set]; rfl
    have h2 : Own (H.set ir (.row gr 1 ((R.map us).set v nilS))) ((d, .box [oP, oU, .row ir gr 0 R.length]) :: fx) ls (zP P U r) (subC U r) (R.set v (some true, true, [])) oP oU (.row ir gr 0 R.length) :=
      ⟨by rw [lr]; exact hS2, h.p, h.u, by rw [List.length_set]; exact h.r⟩
    have hdb2 := h2.cx.box (d, _) (List.mem_cons_self ..)
    have h1b := h2.cx.box (1, [.p nilS, .p nilS, .p nilS]) (List.mem_cons_of_mem _ h1m)
    have hleaf : [oP, oU, .row ir gr 0 R.length].all AV.leaf = true := leaf3 (h2.cx.lst (lP oP (zP P U r)) (by simp)) (h2.cx.lst (lI oU (subC U r)) (by simp)) (h2.cx.lst (lR _ (R.set v (some true, true, []))) (by simp))
    have e3 := ldBox3 hdb2
    have s2 := stBox3 h1b hleaf
    have l2 : ld true 3 (.ptr 1 0) ((H.set ir (.row gr 1 ((R.map us).set v nilS))).set 1 (.box [oP, oU, .row ir gr 0 R.length])) = some (.agg [oP, oU, .row ir gr 0 R.length]) := ldBox3 (setAt h1b)
    have h3 : Own ((H.set ir (.row gr 1 ((R.map us).set v nilS))).set 1 (.box [oP, oU, .row ir gr 0 R.length])) [(1, .box [oP, oU, .row ir gr 0 R.length])] ls (zP P U r) (subC U r) (R.set v (some true, true, [])) oP oU (.row ir gr 0 R.length) :=
      (h2.sub (fx' := [(1, .box [.p nilS, .p nilS, .p nilS])]) (by intro q hq; simp at hq; subst hq; exact List.mem_cons_of_mem _ h1m)).cx.setBox (by simp) _ |> fun c => ⟨c, h2.p, h2.u, h2.r⟩
    obtain ⟨t, el, tP, tU, tR⟩ := leaveOwn h3 [] [.v (.int .i64 0)]
    refine ⟨t, ?_, tP, tU, by rw [tR]; simp [ints, List.map_set]⟩
    rw [L42_14_eq]
    simp only [Int.lt_irrefl, eR, cR.1, eS2, e3, s2, l2, obs, oms, bin_add, bin_sub, bin_lss, bin_leq, bin_gtr, bin_geq, bin_eql, bin_neq, bin_eqlB, bin_neqB, un_not, cond_B, gd_B, gd_undef, gdH_B, gdH_undef, pickA_B, extractA_tup, lenA_sl, lenA_row, fldA_fp, fldA_ptr, fldA_rptr, List.getElem?_cons_zero, List.getElem?_cons_succ, decide_true, decide_false, if_true, if_false, Bool.true_eq_false, Bool.false_eq_true, Bool.not_true, Bool.not_false]
    exact el
  | succ c ih =>
    intro i H hc hi h
    have hi' : i < r.length := by omega
    have hlt : (i : Int) < r.length := by omega
    have w : IntKind.i64.wrap ((i : Int) + 1) = ((i + 1 : Nat) : Int) := by rw [wrap_id (by omega), nxt]
    have hts := take_snoc hi'
    by_cases h0 : r[i] < 0
    · rw [show subC U (r.take i) = subC U (r.take (i + 1)) by rw [hts, subC_neg h0], show zP P U (r.take i) = zP P U (r.take (i + 1)) by rw [hts, zP_neg h0]] at h
      obtain ⟨t, fin, hfin⟩ := ih (i + 1) _ (by omega) (by omega) h
      refine ⟨t, ?_, hfin⟩
      rw [L42_14_eq]
      simp only [hlt, idxV hi', ldV hi', h0, L42_27_eq, w, obs, oms, bin_add, bin_sub, bin_lss, bin_leq, bin_gtr, bin_geq, bin_eql, bin_neq, bin_eqlB, bin_neqB, un_not, cond_B, gd_B, gd_undef, gdH_B, gdH_undef, pickA_B, extractA_tup, lenA_sl, lenA_row, fldA_fp, fldA_ptr, fldA_rptr, List.getElem?_cons_zero, List.getElem?_cons_succ, decide_true, decide_false, if_true, if_false, Bool.true_eq_false, Bool.false_eq_true, Bool.not_true, Bool.not_false]
      exact fin
    · obtain ⟨q, hq⟩ := Int.eq_ofNat_of_zero_le (show 0 ≤ r[i] by omega)
      have hqU : q < U.length := by have := hx _ (List.getElem_mem hi'); omega
      have hqA : q < (subC U (r.take i)).length := by rw [subC_len]; exact hqU
      obtain ⟨iu, gu, eu⟩ := h.u.row (by omega)
      subst eu
      have hdb := h.cx.box (d, _) (List.mem_cons_self ..)
      have eU : ld false 1 (.ptr d (0 + 1)) H = some (.row iu gu 0 (subC U (r.take i)).length) := ldBoxJ (j := 1) hdb
      have cU := Cx.cell [lR oR R, lP oP (zP P U (r.take i))] h.cx hqA
      have eUq : ld false 1 (.rptr iu gu q) H = some (I ((subC U (r.take i))[q])) := by rw [cU.2.1]; simp [hqA]
      have hb := hU _ (List.getElem_mem hqU)
      have hct : (r.take i).count (q : Int) ≤ 16 := Nat.le_trans List.count_le_length (by simp; omega)
      have hct1 := count_take_le hi' (q : Int) hq
      have hct2 := hcnt q hqU
      have hg := subC_get (l := r.take i) hqU
      have w2 : IntKind.i64.wrap ((subC U (r.take i))[q] - 1) = (subC U (r.take i))[q] - 1 := wrap_id (by omega)
      obtain ⟨eS2, hS2⟩ := cU.2.2.2 (Ia ((subC U (r.take i))[q] - 1)) []
      have hadd := subC_at (l := r.take i) hqU
      rw [hq] at hts
      rw [← hts] at hadd
      have hlen2 : (subC U (r.take (i + 1))).length = (subC U (r.take i)).length := by rw [subC_len, subC_len]
      have lu : lI (.row iu gu 0 (subC U (r.take i)).length) (subC U (r.take (i + 1))) = (.row iu gu 0 (subC U (r.take i)).length, 1, (subC U (r.take i)).length, ((subC U (r.take i)).map Ia).set q (Ia ((subC U (r.take i))[q] - 1))) := by
        rw [lI, hlen2]
        congr 3
        rw [hadd, List.map_set]
      have h2 : Own (H.set iu (.row gu 1 (((subC U (r.take i)).map Ia).set q (Ia ((subC U (r.take i))[q] - 1))))) ((d, .box [oP, .row iu gu 0 (subC U (r.take i)).length, oR]) :: fx) ls (zP P U (r.take i)) (subC U (r.take (i + 1))) R oP (.row iu gu 0 (subC U (r.take i)).length) oR :=
        ⟨by rw [lu]; exact hS2, h.p, by rw [hlen2]; exact h.u, h.r⟩
      generalize hH2 : H.set iu (.row gu 1 (((subC U (r.take i)).map Ia).set q (Ia ((subC U (r.take i))[q] - 1)))) = H2 at h2 eS2
      have hdb2 := h2.cx.box (d, _) (List.mem_cons_self ..)
      have eU2 : ld false 1 (.ptr d (0 + 1)) H2 = some (.row iu gu 0 (subC U (r.take i)).length) := ldBoxJ (j := 1) hdb2
      have cU2 := Cx.cell (m := (subC U (r.take i)).length) (cs := (subC U (r.take (i + 1))).map Ia) [lR oR R, lP oP (zP P U (r.take i))] (by have := h2.cx; rw [lI, hlen2] at this; exact this) hqA
      have hval : (subC U (r.take (i + 1)))[q]'(by omega) = (subC U (r.take i))[q] - 1 := by simp [hadd]
      have eUq2 : ld false 1 (.rptr iu gu q) H2 = some (I ((subC U (r.take i))[q] - 1)) := by
        rw [cU2.2.1, List.getElem?_map, List.getElem?_eq_getElem (by omega), hval]; rfl
      by_cases hz : (subC U (r.take i))[q] - 1 = 0
      · have hqP : q < (zP P U (r.take i)).length := by rw [zP_len]; omega
        obtain ⟨ip, gp, ep⟩ := h2.p.row (by omega)
        subst ep
        have eP : ld false 1 (.ptr d (0 + 0)) H2 = some (.row ip gp 0 (zP P U (r.take i)).length) := ldBoxJ (j := 0) hdb2
        have hLP : Lst 4 (.row ip gp 0 (zP P U (r.take i)).length) H2 (zP P U (r.take i)).length ((zP P U (r.take i)).flatMap encG) := h2.cx.lst (lP _ (zP P U (r.take i))) (by simp)
        have e5 := stG (p := zg) hLP.at hqP
        have hhit := zP_hit (P := P) (U := U) (l := r.take i) hqU (by omega)
        rw [← hts] at hhit
        have lp : lP (.row ip gp 0 (zP P U (r.take i)).length) ((zP P U (r.take i)).set q zg) = (.row ip gp 0 (zP P U (r.take i)).length, 4, (zP P U (r.take i)).length, ((zP P U (r.take i)).set q zg).flatMap encG) := by simp [lP]
        have h5 : Own (H2.set ip (.row gp 4 (((zP P U (r.take i)).set q zg).flatMap encG))) ((d, .box [.row ip gp 0 (zP P U (r.take i)).length, .row iu gu 0 (subC U (r.take i)).length, oR]) :: fx) ls (zP P U (r.take (i + 1))) (subC U (r.take (i + 1))) R (.row ip gp 0 (zP P U (r.take i)).length) (.row iu gu 0 (subC U (r.take i)).length) oR :=
          ⟨by rw [hhit, lp]; exact Cx.setRow [lR oR R] (cs' := ((zP P U (r.take i)).set q zg).flatMap encG) h2.cx (by simp only [pg_len, List.length_set]), by rw [hhit, List.length_set]; exact h2.p, h2.u, h2.r⟩
        obtain ⟨t, fin, hfin⟩ := ih (i + 1) _ (by omega) (by omega) h5
        refine ⟨t, ?_, hfin⟩
        rw [L42_14_eq]
        have hge : ¬ ((q : Int) < 0) := by omega
        rw [hz] at w2 eS2 eUq2
        simp only [hlt, idxV hi', ldV hi', hq, hge, eU, cU.1, eUq, hz, w2, eS2, eU2, eUq2, eq_self, eP, buildZ, rowI (k := 4) hqP, e5, L42_27_eq, w, obs, oms, bin_add, bin_sub, bin_lss, bin_leq, bin_gtr, bin_geq, bin_eql, bin_neq, bin_eqlB, bin_neqB, un_not, cond_B, gd_B, gd_undef, gdH_B, gdH_undef, pickA_B, extractA_tup, lenA_sl, lenA_row, fldA_fp, fldA_ptr, fldA_rptr, List.getElem?_cons_zero, List.getElem?_cons_succ, decide_true, decide_false, if_true, if_false, Bool.true_eq_false, Bool.false_eq_true, Bool.not_true, Bool.not_false]
        exact fin
      · have hno := zP_no (P := P) (U := U) (l := r.take i) hqU (by omega) (by omega)
        rw [← hts] at hno
        rw [← hno] at h2
        obtain ⟨t, fin, hfin⟩ := ih (i + 1) _ (by omega) (by omega) h2
        refine ⟨t, ?_, hfin⟩
        rw [L42_14_eq]
        have hge : ¬ ((q : Int) < 0) := by omega
        simp only [hlt, idxV hi', ldV hi', hq, hge, eU, cU.1, eUq, w2, eS2, eU2, eUq2, hz, L42_27_eq, w, obs, oms, bin_add, bin_sub, bin_lss, bin_leq, bin_gtr, bin_geq, bin_eql, bin_neq, bin_eqlB, bin_neqB, un_not, cond_B, gd_B, gd_undef, gdH_B, gdH_undef, pickA_B, extractA_tup, lenA_sl, lenA_row, fldA_fp, fldA_ptr, fldA_rptr, List.getElem?_cons_zero, List.getElem?_cons_succ, decide_true, decide_false, if_true, if_false, Bool.true_eq_false, Bool.false_eq_true, Bool.not_true, Bool.not_false]
        exact fin

theorem cnt_row {R : List (List Int)} {v : Nat} (h : v < R.length) (x : Int) : R[v].count x ≤ cnt R x := by
  have h1 := cnt_take (p := x) h
  have h2 : cnt R x = cnt (R.take (v + 1)) x + cnt (R.drop (v + 1)) x := by
    unfold cnt
    rw [← List.count_append, ← List.flatten_append, List.take_append_drop]
  omega

theorem ent42_yes (hk : Kns s) (hm : Sm s) {v : Nat} (h : thr s v = 0) (hc : chk s = 0) (hv : v < s.R.length) (h16 : s.R[v].2.2.length = 16) :
    ∃ t, O.ent 42 [avS s, I v] [] [] = some ([avS t, I 0], []) ∧ t.P = zP s.P s.U s.R[v].2.2 ∧ t.U = subC s.U s.R[v].2.2 ∧ ints t.R = (ints s.R).set v [] := by
  obtain ⟨hp, hr, hul, hR, hU⟩ := chk0 hc
  have hil : (ints s.R).length = s.R.length := by simp [ints]
  have hl61 : ∀ d ∈ s.R, d.2.2.length < 2 ^ 63 := fun d hd => by have := hm.l d hd; omega
  have hat : (ints s.R)[v]'(by omega) = s.R[v].2.2 := by simp [ints]
  have hrow := (hR _ (hat ▸ List.getElem_mem (by omega : v < (ints s.R).length))).2
  have b1 : boxO [] (AV.cells (avS s)) [] = some (.ptr 0 0, [bxS s]) := boxS s []
  have b2 : boxO [] [.p nilS, .p nilS, .p nilS] [bxS s] = some (.ptr 1 0, [bxS s, .box [.p nilS, .p nilS, .p nilS]]) := rfl
  have g0 : ([bxS s, .box [.p nilS, .p nilS, .p nilS]] : Heap)[0]? = some (bxS s) := rfl
  have l0 : litA false 1 [I v] [bxS s, .box [.p nilS, .p nilS, .p nilS]] = some (V (some false) true [(v : Int)], [bxS s, .box [.p nilS, .p nilS, .p nilS]]) := rfl
  have c2 := call107 hl61 (l := [(v : Int)]) (nl := some false) (tg := true) (by simp) [] [bxS s, .box [.p nilS, .p nilS, .p nilS]]
  rw [thr_one, h] at c2
  obtain ⟨oP, oU, oR, R', H1, e104, hn1, h1, hR'⟩ := ent104 hk hm ((cellsS s).map .p) [.p nilS, .p nilS, .p nilS]
  have c104 := callA_keep (cfg := cfg) (lo := []) (g := 104) rfl e104
  have hR'l : R'.length = s.R.length := by have := congrArg List.length hR'; simpa [ints] using this
  have b3 : boxO [] [.p nilS, .p nilS, .p nilS] H1 = some (.ptr H1.length 0, H1 ++ [.box [.p nilS, .p nilS, .p nilS]]) := boxO_p [nilS, nilS, nilS] H1
  have hleaf : [oP, oU, oR].all AV.leaf = true := leaf3 (h1.cx.lst (lP oP s.P) (by simp)) (h1.cx.lst (lI oU s.U) (by simp)) (h1.cx.lst (lR oR R') (by simp))
  have s3 := stBox3 (H := H1 ++ [.box [.p nilS, .p nilS, .p nilS]]) (id := H1.length) (atE H1 _) hleaf
  have e3 : (H1 ++ [AObj.box [.p nilS, .p nilS, .p nilS]]).set H1.length (.box [oP, oU, oR]) = H1 ++ [.box [oP, oU, oR]] := by simp
  rw [e3] at s3
  have h2 := h1.newB [oP, oU, oR]
  have hd1 : 1 ≠ H1.length := h1.cx.lt (1, .box [.p nilS, .p nilS, .p nilS]) (by simp)
  have hd : ∀ q ∈ [(0, AObj.box ((cellsS s).map .p)), (1, .box [.p nilS, .p nilS, .p nilS])], q.1 ≠ H1.length := h1.cx.lt
  generalize hH2 : H1 ++ [AObj.box [oP, oU, oR]] = H2 at h2 s3
  have hdb := h2.cx.box (H1.length, _) (List.mem_cons_self ..)
  obtain ⟨ir, gr, er⟩ := h2.r.row (by omega)
  subst er
  have hv' : v < R'.length := by omega
  have eR : ld false 1 (.ptr H1.length (0 + 2)) H2 = some (.row ir gr 0 R'.length) := ldBoxJ (j := 2) hdb
  have cR := Cx.cell [] h2.cx hv'
  have hatR : R'[v].2.2 = s.R[v].2.2 := by
    have : (ints R')[v]'(by simp [ints]; omega) = (ints s.R)[v]'(by omega) := by simp [hR']
    rw [hat] at this
    simpa [ints] using this
  have eRv : ld false 1 (.rptr ir gr v) H2 = some (V R'[v].1 R'[v].2.1 R'[v].2.2) := by
    rw [cR.2.1, List.getElem?_map, List.getElem?_eq_getElem hv']; rfl
  rw [hatR] at eRv
  have h1m : (1, AObj.box [.p nilS, .p nilS, .p nilS]) ∈ [(0, AObj.box ((cellsS s).map .p)), (1, .box [.p nilS, .p nilS, .p nilS])] := by simp
  have h2' : Own H2 ((H1.length, .box [oP, oU, .row ir gr 0 R'.length]) :: [(0, .box ((cellsS s).map .p)), (1, .box [.p nilS, .p nilS, .p nilS])]) [] (zP s.P s.U (s.R[v].2.2.take 0)) (subC s.U (s.R[v].2.2.take 0)) R' oP oU (.row ir gr 0 R'.length) := by
    rw [List.take_zero, zP_nil, subC_nil]; exact h2
  obtain ⟨t, fin, tP, tU, tR⟩ := loop42 (nl := R'[v].1) (tg := R'[v].2.1) hd hd1 h1m hv' (okU_bd hc) hul (by omega) (fun y hy => by have := (hrow y hy).2; omega) (fun q hq => by
    have h1 := (hU q (Nat.zero_le _) (by omega)).1
    rw [List.getElem?_eq_getElem hq, Option.some.injEq] at h1
    have h2 := cnt_row (R := ints s.R) (v := v) (by omega) (q : Int)
    rw [hat] at h2
    rw [h1]
    omega) s.R[v].2.2.length 0 _ rfl (by omega) h2'
  refine ⟨t, ?_, tP, tU, by rw [tR, hR']⟩
  rw [f42_eq]
  simp only [b1, b2, ldS0 g0, l0, c2, c104, ret, b3, s3, eR, cR.1, eRv, obs, oms, bin_add, bin_sub, bin_lss, bin_leq, bin_gtr, bin_geq, bin_eql, bin_neq, bin_eqlB, bin_neqB, un_not, cond_B, gd_B, gd_undef, gdH_B, gdH_undef, pickA_B, extractA_tup, lenA_sl, lenA_row, fldA_fp, fldA_ptr, fldA_rptr, List.getElem?_cons_zero, List.getElem?_cons_succ, decide_true, decide_false, if_true, if_false, Bool.true_eq_false, Bool.false_eq_true, Bool.not_true, Bool.not_false]
  exact fin
end
end Pa
end Go.Proofs.Ytkhbbjfdbbnojaa

set_option linter.unusedVariables false
set_option linter.unusedSimpArgs false
namespace Go.Proofs.Ytkhbbjfdbbnojaa
open Go Go.AM
namespace Pa

/-! ### The reference's counted -/
def cP (s : SD) : List Pg := s.P.mapIdx fun j p => if cnt (ints s.R) (j : Int) = 0 then zg else p
theorem cP_len (s : SD) : (cP s).length = s.P.length := by simp [cP]
theorem cP_get {s : SD} {j : Nat} (h : j < s.P.length) : (cP s)[j]'(by rw [cP_len]; exact h) = if cnt (ints s.R) (j : Int) = 0 then zg else s.P[j] := by simp [cP]

theorem arrSt2 (H : Heap) (lo : List Nat) (p q : Pg) : stA 4 (.rptr H.length 0 0) (avG q) lo (H ++ [.row 0 1 (encG p)]) = some (H ++ [.row 0 1 (encG q)]) := by
  have hl := len4 q
  simp only [stA, avG, atE]
  rw [if_pos (by simp [AV.cells, len4])]
  simp only [AV.cells, toPVs_p, obs, atE]
  rw [if_pos (by simp)]
  have hs : splice (encG p) 0 (encG q) = encG q := by
    obtain ⟨x, y, z, w⟩ := p
    obtain ⟨x, y, z, w⟩ := q
    rfl
  simp [hs]
theorem litG (p : Pg) (H : Heap) : litA false 4 [avG p] H = some (.p (.sl (some false) true 1 (encG p)), H) := by
  obtain ⟨x, y, z, w⟩ := p
  rfl
theorem leaf3p {a b : AV} {x : PV} {H : Heap} {s1 s2 m1 m2 : Nat} {c1 c2 : List PV} (h1 : Lst s1 a H m1 c1) (h2 : Lst s2 b H m2 c2) : [a, b, .p x].all AV.leaf = true := by
  simp [(lst_leaf h1).2, (lst_leaf h2).2]; rfl

theorem lP_snoc (o : AV) (A : List Pg) (p : Pg) : lP o (A ++ [p]) = (o, 4, A.length + 1, A.flatMap encG ++ encG p) := by simp [lP]
theorem lI_snoc (o : AV) (A : List Int) (x : Int) : lI o (A ++ [x]) = (o, 1, A.length + 1, A.map Ia ++ [Ia x]) := by simp [lI]
theorem lR_snoc (o : AV) (A : List Dd) (x : Dd) : lR o (A ++ [x]) = (o, 1, A.length + 1, A.map us ++ [us x]) := by simp [lR]
theorem len_snoc {α : Type} (A : List α) (x : α) : (A ++ [x]).length = A.length + 1 := by simp

section
variable {s : SD} {fx : List (Nat × AObj)} {ls : List Ll}

theorem leave2p {H : Heap} {oP oU : AV} {P : List Pg} {U : List Int} {R : List Dd} {nr : Option Bool} {tr : Bool} (h : Cx H fx (lP oP P :: lI oU U :: ls)) (hp : RN oP P.length) (hu : RN oU U.length) (lo : List Nat) :
    ∃ t : SD, leave 5 lo [.agg [oP, oU, .p (.sl nr tr R.length (R.map us))]] H = some ([avS t], []) ∧ t.P = P ∧ t.U = U ∧ t.R = R := by
  obtain ⟨n1, t1, H1, e1, h1, _⟩ := h.toPV
  obtain ⟨n2, t2, H2, e2, h2, _⟩ := h1.toPV
  refine ⟨⟨n1, t1, P, n2, t2, U, nr, tr, R⟩, ?_, rfl, rfl, rfl⟩
  have e3 : frzLeaf H2 (.p (.sl nr tr R.length (R.map us))) = some (.p (.sl nr tr R.length (R.map us)), H2) := rfl
  have ea : frzA H (.agg [oP, oU, .p (.sl nr tr R.length (R.map us))]) = some (avS ⟨n1, t1, P, n2, t2, U, nr, tr, R⟩, H2) := by
    simp only [frzA, frzLeaves, frz_rn hp e1, frz_rn hu e2, e3, obs, oms]
    rfl
  simp only [leave, frzAll, ea, obs, oms]
  rfl

theorem loop109 (hp : s.P.length ≤ 400) (hb : (ints s.R).flatten.length < 2 ^ 62) (hr : s.R.length < 2 ^ 62) :
    ∀ (c i : Nat) (H : Heap) (oP oU : AV), s.P.length - i = c → i ≤ s.P.length → Cx H [(2, .box [oP, oU, .p (pvR s)]), (0, bxS s), (1, .box [.p nilS, .p nilS, .p nilS])] [lP oP ((cP s).take i), lI oU ((cntL s).take i)] → RN oP ((cP s).take i).length → RN oU ((cntL s).take i).length →
      ∃ t, L109_8 [.ptr 0 0, .ptr 1 0, .ptr 2 0, I i] [] H = some ([avS t], []) ∧ t.P = cP s ∧ t.U = cntL s ∧ t.R = s.R := by
  intro c
  induction c with
  | zero =>
    intro i H oP oU hc hi h hrp hru
    have : i = s.P.length := by omega
    subst this
    rw [List.take_of_length_le (by rw [cP_len]; omega)] at h hrp
    rw [List.take_of_length_le (by rw [cntL_len]; omega)] at h hru
    have g0 : H[0]? = some (bxS s) := h.at (by simp)
    have g1 := h.box (1, [.p nilS, .p nilS, .p nilS]) (by simp)
    have g2 := h.box (2, [oP, oU, .p (pvR s)]) (by simp)
    have e3 := ldBox3 g2
    have hleaf : [oP, oU, .p (pvR s)].all AV.leaf = true := leaf3p (h.lst (lP oP (cP s)) (by simp)) (h.lst (lI oU (cntL s)) (by simp))
    have s1 := stBox3 g1 hleaf
    have h2 : Cx (H.set 1 (.box [oP, oU, .p (pvR s)])) [(1, .box [oP, oU, .p (pvR s)])] [lP oP (cP s), lI oU (cntL s)] :=
      Cx.setBox (fx := []) (xs := [.p nilS, .p nilS, .p nilS]) (h.mono (by intro q hq; simp at hq; subst hq; simp) (List.Sublist.refl _)) (by simp) _
    have l1 := ldBox3 (h2.box (1, _) (List.mem_cons_self ..))
    obtain ⟨t, el, hh⟩ := leave2p (R := s.R) (nr := s.nr) (tr := s.tr) h2 hrp hru []
    refine ⟨t, ?_, hh⟩
    rw [L109_8_eq]
    simp only [fldA_ptr, ldP0 g0, Int.lt_irrefl, e3, s1, l1, obs, oms, bin_add, bin_sub, bin_lss, bin_leq, bin_gtr, bin_geq, bin_eql, bin_neq, bin_eqlB, bin_neqB, un_not, cond_B, gd_B, gd_undef, gdH_B, gdH_undef, pickA_B, extractA_tup, lenA_sl, lenA_row, fldA_fp, fldA_ptr, fldA_rptr, List.getElem?_cons_zero, List.getElem?_cons_succ, decide_true, decide_false, if_true, if_false, Bool.true_eq_false, Bool.false_eq_true, Bool.not_true, Bool.not_false]
    exact el
  | succ c ih =>
    intro i H oP oU hc hi h hrp hru
    have hi' : i < s.P.length := by omega
    have hlt : (i : Int) < s.P.length := by omega
    have w : IntKind.i64.wrap ((i : Int) + 1) = ((i + 1 : Nat) : Int) := by rw [wrap_id (by omega), nxt]
    have g0 : H[0]? = some (bxS s) := h.at (by simp)
    have c8 := call108 hb hr (i : Int) [] H
    have m1 := arrNewG H
    have m2 := arrStG H [] s.P[i]
    have hcp : i < (cP s).length := by rw [cP_len]; exact hi'
    have hcu : i < (cntL s).length := by rw [cntL_len]; exact hi'
    have tp : (cP s).take (i + 1) = (cP s).take i ++ [(cP s)[i]] := by rw [List.take_add_one, List.getElem?_eq_getElem hcp]; rfl
    have tu : (cntL s).take (i + 1) = (cntL s).take i ++ [(cntL s)[i]] := by rw [List.take_add_one, List.getElem?_eq_getElem hcu]; rfl
    have lp' : ((cP s).take i).length = i := by rw [List.length_take]; omega
    have lu' : ((cntL s).take i).length = i := by rw [List.length_take]; omega
    -- the end of a round, over the page as it is to be
    have fin : ∀ p : Pg, (cP s)[i] = p → ∃ t, L109_21 [.ptr 0 0, .ptr 1 0, .ptr 2 0, I i, I (cnt (ints s.R) (i : Int) : Nat), .rptr H.length 0 0] [] (H ++ [.row 0 1 (encG p)]) = some ([avS t], []) ∧ t.P = cP s ∧ t.U = cntL s ∧ t.R = s.R := by
      intro p hpe
      have h1 := h.push [.row 0 1 (encG p)]
      have m3 := arrLdG H p
      generalize hH1 : H ++ [AObj.row 0 1 (encG p)] = H1 at h1 m3
      have g2 := h1.box (2, [oP, oU, .p (pvR s)]) (by simp)
      have eP : ld false 1 (.ptr 2 (0 + 0)) H1 = some oP := ldBoxJ (j := 0) g2
      obtain ⟨oP', H2, e2, h2, idP, gP, eoP⟩ := Cx.app (bytes := 32) [] h1 (cellsP (sz := 4) (m := 1) (nl := some false) (tg := true) (cs := encG p) rfl H1) rfl (by omega) (by simp only [room]; omega)
      have g2b := h2.box (2, [oP, oU, .p (pvR s)]) (by simp)
      have e3 := stBoxJ (j := 0) (o := oP') g2b (by omega) (by rw [eoP]; rfl) (by rw [eoP]; rfl)
      have h3 := h2.setBox (by simp) ([oP, oU, .p (pvR s)].set 0 oP')
      have g2c := h3.box (2, _) (List.mem_cons_self ..)
      have eU : ld false 1 (.ptr 2 (0 + 1)) (H2.set 2 (.box ([oP, oU, .p (pvR s)].set 0 oP'))) = some oU := ldBoxJ (a := oP') (b := oU) (c := .p (pvR s)) (j := 1) g2c
      have hlit : litA false 1 [I (cnt (ints s.R) (i : Int) : Nat)] (H2.set 2 (.box ([oP, oU, .p (pvR s)].set 0 oP'))) = some (.p (.sl (some false) true 1 [Ia (cnt (ints s.R) (i : Int) : Nat)]), H2.set 2 (.box ([oP, oU, .p (pvR s)].set 0 oP'))) := rfl
      generalize hH3 : H2.set 2 (.box ([oP, oU, .p (pvR s)].set 0 oP')) = H3 at h3 e3 eU hlit g2c
      obtain ⟨oU', H4, e4, h4, idU, gU, eoU⟩ := Cx.app (bytes := 8) [(oP', 4, ((cP s).take i).length + 1, ((cP s).take i).flatMap encG ++ encG p)] h3 (cells1 (Ia (cnt (ints s.R) (i : Int) : Nat)) H3) rfl (by omega) (by simp only [room]; omega)
      have g2d := h4.box (2, _) (List.mem_cons_self ..)
      have e5 := stBoxJ (a := oP') (b := oU) (c := .p (pvR s)) (id := 2) (j := 1) (o := oU') g2d (by omega) (by rw [eoU]; rfl) (by rw [eoU]; rfl)
      have h5 := h4.setBox (by simp) ([oP', oU, .p (pvR s)].set 1 oU')
      have ep : lP oP' ((cP s).take (i + 1)) = (oP', 4, ((cP s).take i).length + 1, ((cP s).take i).flatMap encG ++ encG p) := by
        rw [tp, hpe]; exact lP_snoc ..
      have eu : lI oU' ((cntL s).take (i + 1)) = (oU', 1, ((cntL s).take i).length + 1, ((cntL s).take i).map Ia ++ [Ia (cnt (ints s.R) (i : Int) : Nat)]) := by
        rw [tu, cntL_get hi']; exact lI_snoc ..
      obtain ⟨t, f, hh⟩ := ih (i + 1) _ oP' oU' (by omega) (by omega) (by rw [ep, eu]; exact h5) (.inr ⟨idP, gP, by rw [eoP, tp, len_snoc]⟩) (.inr ⟨idU, gU, by rw [eoU, tu, len_snoc]⟩)
      refine ⟨t, ?_, hh⟩
      rw [L109_21_eq]
      simp only [eP, m3, litG, e2, e3, eU, hlit, e4, e5, w, obs, oms, bin_add, bin_sub, bin_lss, bin_leq, bin_gtr, bin_geq, bin_eql, bin_neq, bin_eqlB, bin_neqB, un_not, cond_B, gd_B, gd_undef, gdH_B, gdH_undef, pickA_B, extractA_tup, lenA_sl, lenA_row, fldA_fp, fldA_ptr, fldA_rptr, List.getElem?_cons_zero, List.getElem?_cons_succ, decide_true, decide_false, if_true, if_false, Bool.true_eq_false, Bool.false_eq_true, Bool.not_true, Bool.not_false]
      exact f
    by_cases h0 : cnt (ints s.R) (i : Int) = 0
    · have hz : ((cnt (ints s.R) (i : Int) : Nat) : Int) = 0 := by omega
      have m4 := arrSt2 H [] s.P[i] zg
      obtain ⟨t, f, hh⟩ := fin zg (by rw [cP_get hi', if_pos h0])
      refine ⟨t, ?_, hh⟩
      rw [hz] at f
      rw [L109_8_eq]
      simp only [fldA_ptr, ldP0 g0, ldS0 g0, hlt, c8, idxG hi', ldG hi', m1, m2, hz, eq_self, buildZ, m4, obs, oms, bin_add, bin_sub, bin_lss, bin_leq, bin_gtr, bin_geq, bin_eql, bin_neq, bin_eqlB, bin_neqB, un_not, cond_B, gd_B, gd_undef, gdH_B, gdH_undef, pickA_B, extractA_tup, lenA_sl, lenA_row, fldA_fp, fldA_ptr, fldA_rptr, List.getElem?_cons_zero, List.getElem?_cons_succ, decide_true, decide_false, if_true, if_false, Bool.true_eq_false, Bool.false_eq_true, Bool.not_true, Bool.not_false]
      exact f
    · have hz : ¬ ((cnt (ints s.R) (i : Int) : Nat) : Int) = 0 := by omega
      obtain ⟨t, f, hh⟩ := fin s.P[i] (by rw [cP_get hi', if_neg h0])
      refine ⟨t, ?_, hh⟩
      rw [L109_8_eq]
      simp only [fldA_ptr, ldP0 g0, ldS0 g0, hlt, c8, idxG hi', ldG hi', m1, m2, hz, obs, oms, bin_add, bin_sub, bin_lss, bin_leq, bin_gtr, bin_geq, bin_eql, bin_neq, bin_eqlB, bin_neqB, un_not, cond_B, gd_B, gd_undef, gdH_B, gdH_undef, pickA_B, extractA_tup, lenA_sl, lenA_row, fldA_fp, fldA_ptr, fldA_rptr, List.getElem?_cons_zero, List.getElem?_cons_succ, decide_true, decide_false, if_true, if_false, Bool.true_eq_false, Bool.false_eq_true, Bool.not_true, Bool.not_false]
      exact f

theorem ent109 (hp : s.P.length ≤ 400) (hb : (ints s.R).flatten.length < 2 ^ 62) (hr : s.R.length < 2 ^ 62) :
    ∃ t, O.ent 109 [avS s] [] [] = some ([avS t], []) ∧ t.P = cP s ∧ t.U = cntL s ∧ t.R = s.R := by
  have b1 : boxO [] (AV.cells (avS s)) [] = some (.ptr 0 0, [bxS s]) := boxS s []
  have b2 : boxO [] [.p nilS, .p nilS, .p nilS] [bxS s] = some (.ptr 1 0, [bxS s, .box [.p nilS, .p nilS, .p nilS]]) := rfl
  have b3 : boxO [] [.p nilS, .p nilS, .p nilS] [bxS s, .box [.p nilS, .p nilS, .p nilS]] = some (.ptr 2 0, [bxS s, .box [.p nilS, .p nilS, .p nilS], .box [.p nilS, .p nilS, .p nilS]]) := rfl
  have g0 : ([bxS s, .box [.p nilS, .p nilS, .p nilS]] : Heap)[0]? = some (bxS s) := rfl
  have bb : buildA [.p nilS, .p nilS, .p nilS] [(2, 1, .p (pvR s))] = some (.agg [.p nilS, .p nilS, .p (pvR s)]) := rfl
  have s1 : stA 3 (.ptr 2 0) (.agg [.p nilS, .p nilS, .p (pvR s)]) [] [bxS s, .box [.p nilS, .p nilS, .p nilS], .box [.p nilS, .p nilS, .p nilS]] = some [bxS s, .box [.p nilS, .p nilS, .p nilS], .box [.p nilS, .p nilS, .p (pvR s)]] := rfl
  have h0 : Cx [bxS s, .box [.p nilS, .p nilS, .p nilS], .box [.p nilS, .p nilS, .p (pvR s)]] [(2, .box [.p nilS, .p nilS, .p (pvR s)]), (0, bxS s), (1, .box [.p nilS, .p nilS, .p nilS])] [] := by
    refine ⟨fun q hq => ?_, fun _ h => (by cases h), .nil⟩
    simp at hq
    rcases hq with e | e | e <;> subst e <;> exact ⟨rfl, rfl⟩
  obtain ⟨t, fin, hh⟩ := loop109 hp hb hr s.P.length 0 _ (.p nilS) (.p nilS) rfl (by omega) ((h0.newNil 1).newNil 4) (.inl ⟨rfl, rfl⟩) (.inl ⟨rfl, rfl⟩)
  refine ⟨t, ?_, hh⟩
  rw [f109_eq]
  simp only [b1, b2, fldA_ptr, ldR0 g0, bb, b3, s1, obs, oms, bin_add, bin_sub, bin_lss, bin_leq, bin_gtr, bin_geq, bin_eql, bin_neq, bin_eqlB, bin_neqB, un_not, cond_B, gd_B, gd_undef, gdH_B, gdH_undef, pickA_B, extractA_tup, lenA_sl, lenA_row, fldA_fp, fldA_ptr, fldA_rptr, List.getElem?_cons_zero, List.getElem?_cons_succ, decide_true, decide_false, if_true, if_false, Bool.true_eq_false, Bool.false_eq_true, Bool.not_true, Bool.not_false]
  exact fin
end
end Pa
end Go.Proofs.Ytkhbbjfdbbnojaa

set_option linter.unusedVariables false
set_option linter.unusedSimpArgs false
namespace Go.Proofs.Ytkhbbjfdbbnojaa
open Go Go.AM
namespace Pa

theorem flat16 : ∀ {R : List (List Int)}, (∀ l ∈ R, l.length ≤ 16) → R.flatten.length ≤ 16 * R.length
  | [], _ => by simp
  | l :: R, h => by
    have h1 := h l (by simp)
    have h2 := flat16 (R := R) fun x hx => h x (List.mem_cons_of_mem _ hx)
    rw [List.flatten_cons, List.length_append, List.length_cons]
    omega

theorem call109 {s : SD} {x : AV} {H H' : Heap} (hf : frzA H x = some (avS s, H')) (hp : s.P.length ≤ 400) (hb : (ints s.R).flatten.length < 2 ^ 62) (hr : s.R.length < 2 ^ 62) (lo : List Nat) :
    ∃ t, callA cfg O 109 [x] lo H = some (avS t, H') ∧ t.P = cP s ∧ t.U = cntL s ∧ t.R = s.R := by
  obtain ⟨t, e, hh⟩ := ent109 hp hb hr
  refine ⟨t, ?_, hh⟩
  have e1 : callA cfg O 109 [x] lo H = (frzAll H [x]).bind fun q => if q.1.all (AV.ltd 0) = true then (O.ent 109 q.1 [] []).bind fun r => if r.1.all (AV.ltd 0) = true then some (ret r.1, q.2) else none else none := rfl
  have e2 : frzAll H [x] = some ([avS s], H') := by simp only [frzAll, hf, obs, oms]
  rw [e1, e2]
  simp only [obs]
  have h1 : [avS s].all (AV.ltd 0) = true := rfl
  have h2 : [avS t].all (AV.ltd 0) = true := rfl
  rw [if_pos h1, e]
  simp only [obs]
  rw [if_pos h2]
  rfl

section
variable {s : SD} {H : Heap} {fx : List (Nat × AObj)} {ls : List Ll} {oR : AV}

/-- A frozen row copied, and put behind a list of rows. -/
theorem Cx.appCopy {R' : List Dd} {l : List Int} {y : AV} (l1 : List Ll) (h : Cx H fx (l1 ++ lR oR R' :: ls)) (hy : cellsA 1 y H = some (l.length, l.map Ia)) (hl : l.length < 2 ^ 40) (hR : R'.length < 2 ^ 40) :
    ∃ nl tg c H1 H2 oR' H3, appA 1 8 (.p (.sl (some false) true 0 [])) y H = some (c, H1) ∧ litA false 1 [c] H1 = some (.p (.sl (some false) true 1 [us (nl, tg, l)]), H2) ∧ appA 1 24 oR (.p (.sl (some false) true 1 [us (nl, tg, l)])) H2 = some (oR', H3) ∧
      Cx H3 fx (l1 ++ lR oR' (R' ++ [(nl, tg, l)]) :: ls) ∧ RN oR' (R' ++ [(nl, tg, l)]).length := by
  have e1 := cloneApp (sz := 1) (bytes := 8) hy (by simp only [room]; omega)
  have h1 := h.newRow (sz := 1) (m := l.length) (cs := l.map Ia) (by simp)
  obtain ⟨nl, tg, H2, e2, h2⟩ := Cx.lit (o := .row H.length 0 0 l.length) (d := l) h1
  obtain ⟨oR', H3, e3, h3, id, g, eo⟩ := Cx.app (bytes := 24) l1 h2 (cells1 (us (nl, tg, l)) H2) rfl (by omega) (by simp only [room]; omega)
  refine ⟨nl, tg, _, _, H2, oR', H3, e1, e2, e3, ?_, .inr ⟨id, g, by rw [eo, len_snoc]⟩⟩
  rw [lR_snoc]
  exact h3

theorem loop48 {v : Nat} (hv : v < s.R.length) (hp : s.P.length ≤ 400) (hr : s.R.length ≤ 40) (hl : ∀ d ∈ s.R, d.2.2.length ≤ 16) :
    ∀ (c i : Nat) (H : Heap) (oR : AV) (R' : List Dd), s.R.length - i = c → i ≤ s.R.length → Cx H [(0, bxS s), (1, .box [.p nilS, .p nilS, .p nilS])] [lR oR R'] → RN oR R'.length → ints R' = ((ints s.R).set v []).take i →
      ∃ (s2 t : SD), L48_8 [I v, .ptr 0 0, .ptr 1 0, oR, I i] [] H = some ([avS t], []) ∧ s2.P = s.P ∧ ints s2.R = (ints s.R).set v [] ∧ t.P = cP s2 ∧ t.U = cntL s2 ∧ t.R = s2.R := by
  have hil : (ints s.R).length = s.R.length := by simp [ints]
  intro c
  induction c with
  | zero =>
    intro i H oR R' hc hi h hrn hR
    have : i = s.R.length := by omega
    subst this
    rw [List.take_of_length_le (by rw [List.length_set]; omega)] at hR
    have g0 : H[0]? = some (bxS s) := h.at (by simp)
    have hRl : R'.length = s.R.length := by have := congrArg List.length hR; simpa [ints] using this
    obtain ⟨n3, t3, H3, e3, h3, _⟩ := h.toPV
    have hleaf : oR.cells = [oR] ∧ oR.leaf = true := lst_leaf (h.lst (lR oR R') (by simp))
    have bb : buildA [.p nilS, .p nilS, .p nilS] [(0, 1, .p (pvP s)), (2, 1, oR)] = some (.agg [.p (pvP s), .p nilS, oR]) := by
      have hc1 : (AV.p (pvP s)).cells = [.p (pvP s)] := rfl
      have hl1 : (AV.p (pvP s)).leaf = true := rfl
      simp only [buildA, hleaf.1, hc1, hl1, List.all_cons, List.all_nil, hleaf.2, splice, List.length_set, List.length_cons, List.length_nil]
      rfl
    have hf : frzA H (.agg [.p (pvP s), .p nilS, oR]) = some (avS ⟨s.np, s.tp, s.P, some true, true, [], n3, t3, R'⟩, H3) := by
      have f1 : frzLeaf H (.p (pvP s)) = some (.p (pvP s), H) := rfl
      have f2 : frzLeaf H (.p nilS) = some (.p nilS, H) := rfl
      simp only [frzA, frzLeaves, f1, f2, frz_rn hrn e3, obs, oms]
      rfl
    have hfl : (ints R').flatten.length ≤ 16 * (ints R').length := flat16 (by
      intro l hl'
      rw [hR] at hl'
      rcases List.mem_or_eq_of_mem_set hl' with e | e
      · obtain ⟨d, hd, e2⟩ := List.mem_map.mp e
        rw [← e2]; exact hl d hd
      · subst e; simp)
    have hil2 : (ints R').length = R'.length := by simp [ints]
    obtain ⟨t, e109, tP, tU, tR⟩ := call109 hf hp (by show (ints R').flatten.length < _; omega) (by show R'.length < _; omega) []
    have g1 := h3.box (1, [.p nilS, .p nilS, .p nilS]) (by simp)
    have hlf : ((cellsS t).map AV.p).all AV.leaf = true := rfl
    have s1 : stA 3 (.ptr 1 0) (avS t) [] H3 = some (H3.set 1 (bxS t)) := stBox3 g1 hlf
    have l1 : ld true 3 (.ptr 1 0) (H3.set 1 (bxS t)) = some (avS t) := ldBox3 (setAt g1)
    refine ⟨⟨s.np, s.tp, s.P, some true, true, [], n3, t3, R'⟩, t, ?_, rfl, hR, tP, tU, tR⟩
    rw [L48_8_eq]
    simp only [fldA_ptr, ldR0 g0, ldP0 g0, Int.lt_irrefl, bb, e109, s1, l1, obs, oms, bin_add, bin_sub, bin_lss, bin_leq, bin_gtr, bin_geq, bin_eql, bin_neq, bin_eqlB, bin_neqB, un_not, cond_B, gd_B, gd_undef, gdH_B, gdH_undef, pickA_B, extractA_tup, lenA_sl, lenA_row, fldA_fp, fldA_ptr, fldA_rptr, List.getElem?_cons_zero, List.getElem?_cons_succ, decide_true, decide_false, if_true, if_false, Bool.true_eq_false, Bool.false_eq_true, Bool.not_true, Bool.not_false]
    rfl
  | succ c ih =>
    intro i H oR R' hc hi h hrn hR
    have hi' : i < s.R.length := by omega
    have hlt : (i : Int) < s.R.length := by omega
    have w : IntKind.i64.wrap ((i : Int) + 1) = ((i + 1 : Nat) : Int) := by rw [wrap_id (by omega), nxt]
    have g0 : H[0]? = some (bxS s) := h.at (by simp)
    have hRl : R'.length = i := by have := congrArg List.length hR; simp [ints] at this; omega
    have hat : (ints s.R)[i]'(by omega) = s.R[i].2.2 := by simp [ints]
    have hts : ((ints s.R).set v []).take (i + 1) = ((ints s.R).set v []).take i ++ [((ints s.R).set v [])[i]'(by rw [List.length_set]; omega)] := by
      rw [List.take_add_one, List.getElem?_eq_getElem (by rw [List.length_set]; omega)]; rfl
    by_cases he : i = v
    · subst he
      have hlit : litA false 1 [.p nilS] H = some (.p (.sl (some false) true 1 [nilS]), H) := rfl
      obtain ⟨oR', H2, e2, h2, id, g, eo⟩ := Cx.app (bytes := 24) [] h (cells1 nilS H) rfl (by omega) (by simp only [room]; omega)
      obtain ⟨s2, t, fin, hh⟩ := ih (i + 1) H2 oR' (R' ++ [(some true, true, [])]) (by omega) (by omega) (by rw [lR_snoc]; exact h2) (.inr ⟨id, g, by rw [eo, len_snoc]⟩) (by
        rw [hts, ← hR, List.getElem_set_self]; simp [ints])
      refine ⟨s2, t, ?_, hh⟩
      rw [L48_8_eq]
      simp only [fldA_ptr, ldR0 g0, hlt, eq_self, hlit, e2, L48_11_eq, w, obs, oms, bin_add, bin_sub, bin_lss, bin_leq, bin_gtr, bin_geq, bin_eql, bin_neq, bin_eqlB, bin_neqB, un_not, cond_B, gd_B, gd_undef, gdH_B, gdH_undef, pickA_B, extractA_tup, lenA_sl, lenA_row, fldA_fp, fldA_ptr, fldA_rptr, List.getElem?_cons_zero, List.getElem?_cons_succ, decide_true, decide_false, if_true, if_false, Bool.true_eq_false, Bool.false_eq_true, Bool.not_true, Bool.not_false]
      exact fin
    · have hne : ¬ ((i : Int) = (v : Int)) := by omega
      have hlit : litA false 1 [] H = some (.p (.sl (some false) true 0 []), H) := rfl
      have hli := hl _ (List.getElem_mem hi')
      obtain ⟨nl, tg, cc, H1, H2, oR', H3, e1, e2, e3, h3, hrn3⟩ := Cx.appCopy (R' := R') (l := s.R[i].2.2) (y := V s.R[i].1 s.R[i].2.1 s.R[i].2.2) [] h (cellsP (by simp) H) (by omega) (by omega)
      obtain ⟨s2, t, fin, hh⟩ := ih (i + 1) H3 oR' (R' ++ [(nl, tg, s.R[i].2.2)]) (by omega) (by omega) h3 hrn3 (by
        rw [hts, ← hR, List.getElem_set_ne (by omega), hat]; simp [ints])
      refine ⟨s2, t, ?_, hh⟩
      rw [L48_8_eq]
      simp only [fldA_ptr, ldR0 g0, hlt, hne, hlit, idxW hi', ldW hi', e1, e2, e3, L48_11_eq, w, obs, oms, bin_add, bin_sub, bin_lss, bin_leq, bin_gtr, bin_geq, bin_eql, bin_neq, bin_eqlB, bin_neqB, un_not, cond_B, gd_B, gd_undef, gdH_B, gdH_undef, pickA_B, extractA_tup, lenA_sl, lenA_row, fldA_fp, fldA_ptr, fldA_rptr, List.getElem?_cons_zero, List.getElem?_cons_succ, decide_true, decide_false, if_true, if_false, Bool.true_eq_false, Bool.false_eq_true, Bool.not_true, Bool.not_false]
      exact fin

theorem ent48 {v : Nat} (hv : v < s.R.length) (hp : s.P.length ≤ 400) (hr : s.R.length ≤ 40) (hl : ∀ d ∈ s.R, d.2.2.length ≤ 16) :
    ∃ (s2 t : SD), O.ent 48 [avS s, I v] [] [] = some ([avS t], []) ∧ s2.P = s.P ∧ ints s2.R = (ints s.R).set v [] ∧ t.P = cP s2 ∧ t.U = cntL s2 ∧ t.R = s2.R := by
  have b1 : boxO [] (AV.cells (avS s)) [] = some (.ptr 0 0, [bxS s]) := boxS s []
  have b2 : boxO [] [.p nilS, .p nilS, .p nilS] [bxS s] = some (.ptr 1 0, [bxS s, .box [.p nilS, .p nilS, .p nilS]]) := rfl
  have h0 : Cx [bxS s, .box [.p nilS, .p nilS, .p nilS]] [(0, bxS s), (1, .box [.p nilS, .p nilS, .p nilS])] [] := by
    refine ⟨fun q hq => ?_, fun _ h => (by cases h), .nil⟩
    simp at hq
    rcases hq with e | e <;> subst e <;> exact ⟨rfl, rfl⟩
  obtain ⟨s2, t, fin, hh⟩ := loop48 hv hp hr hl s.R.length 0 _ (.p nilS) [] rfl (by omega) (h0.newNil 1) (.inl ⟨rfl, rfl⟩) (by simp [ints])
  refine ⟨s2, t, ?_, hh⟩
  rw [f48_eq]
  simp only [b1, b2, obs]
  exact fin
end
end Pa
end Go.Proofs.Ytkhbbjfdbbnojaa

set_option linter.unusedVariables false
set_option linter.unusedSimpArgs false
namespace Go.Proofs.Ytkhbbjfdbbnojaa
open Go Go.AM
namespace Pa

/-- What the reference's PagesSet ends with. -/
def RefEnd (P : List Pg) (R2 : List (List Int)) (n : Nat) (t : SD) (k f : Int) : Prop :=
  if P.length > 400 ∨ R2.length > 40 then t = eS ∧ k = 0 ∧ f = 2 else ∃ s2 : SD, s2.P = P ∧ ints s2.R = R2 ∧ t.P = cP s2 ∧ t.U = cntL s2 ∧ t.R = s2.R ∧ k = (n : Int) ∧ f = 0

theorem rt_emp {R : List (List Int)} (h : rtN R < R.length) : R[rtN R].length = 0 := by
  have h' : R.findIdx (fun l => decide (l.length = 0)) < R.length := h
  have := List.findIdx_getElem (w := h')
  exact of_decide_eq_true this
theorem rt_le {R : List (List Int)} {i : Nat} (hi : i < R.length) (h : R[i].length = 0) : rtN R ≤ i := by
  by_cases hlt : i < rtN R
  · have := List.not_of_lt_findIdx (xs := R) (p := fun l => decide (l.length = 0)) hlt
    simp [h] at this
  · omega

section
variable {s : SD} {H : Heap} {fx : List (Nat × AObj)} {ls : List Ll} {oR oP : AV}
abbrev bz : AObj := .box [.p nilS, .p nilS, .p nilS]

theorem end47 {P' : List Pg} {R' : List Dd} (h : Cx H [(0, bxS s), (1, bz)] (lR oR R' :: lP oP P' :: ls)) (hR : RN oR R'.length) (hP : RN oP P'.length) (hl : ∀ l ∈ ints R', l.length ≤ 16) (hb : R'.length < 2 ^ 40) (hb2 : P'.length < 2 ^ 40) (n : Nat) :
    ∃ t k f, L47_77 [.ptr 1 0, oP, oR, I n] [] H = some ([avS t, I k, I f], []) ∧ RefEnd P' (ints R') n t k f := by
  have hil : (ints R').length = R'.length := by simp [ints]
  have hLP : Lst 4 oP H P'.length (P'.flatMap encG) := h.lst (lP oP P') (by simp)
  have hLR : Lst 1 oR H R'.length (R'.map us) := h.lst (lR oR R') (by simp)
  have lenP : lenA .slice oP H = some (I P'.length) := hLP.len H
  have lenR : lenA .slice oR H = some (I R'.length) := hLR.len H
  have g1 := h.box (1, [.p nilS, .p nilS, .p nilS]) (by simp)
  have bn : buildA [.p nilS, .p nilS, .p nilS] [] = some (.agg [.p nilS, .p nilS, .p nilS]) := rfl
  have s0 := stBox3 (H := H) (x := .p nilS) (y := .p nilS) (z := .p nilS) g1 rfl
  have l0 : ld true 3 (.ptr 1 0) (H.set 1 (.box [.p nilS, .p nilS, .p nilS])) = some (.agg [.p nilS, .p nilS, .p nilS]) := ldBox3 (setAt g1)
  have no : leave 0 [] [.agg [.p nilS, .p nilS, .p nilS], I 0, I 2] (H.set 1 (.box [.p nilS, .p nilS, .p nilS])) = some ([avS eS, I 0, I 2], []) := rfl
  by_cases hp : (400 : Int) < P'.length
  · refine ⟨eS, 0, 2, ?_, ?_⟩
    · rw [L47_77_eq]
      simp only [lenP, hp, bn, s0, l0, obs, oms, bin_add, bin_sub, bin_lss, bin_leq, bin_gtr, bin_geq, bin_eql, bin_neq, bin_eqlB, bin_neqB, un_not, cond_B, gd_B, gd_undef, gdH_B, gdH_undef, pickA_B, extractA_tup, lenA_sl, lenA_row, fldA_fp, fldA_ptr, fldA_rptr, List.getElem?_cons_zero, List.getElem?_cons_succ, decide_true, decide_false, if_true, if_false, Bool.true_eq_false, Bool.false_eq_true, Bool.not_true, Bool.not_false]
      exact no
    · rw [RefEnd, if_pos (.inl (by omega))]
      exact ⟨rfl, rfl, rfl⟩
  · by_cases hr40 : (40 : Int) < R'.length
    · refine ⟨eS, 0, 2, ?_, ?_⟩
      · rw [L47_77_eq]
        simp only [lenP, hp, lenR, hr40, bn, s0, l0, obs, oms, bin_add, bin_sub, bin_lss, bin_leq, bin_gtr, bin_geq, bin_eql, bin_neq, bin_eqlB, bin_neqB, un_not, cond_B, gd_B, gd_undef, gdH_B, gdH_undef, pickA_B, extractA_tup, lenA_sl, lenA_row, fldA_fp, fldA_ptr, fldA_rptr, List.getElem?_cons_zero, List.getElem?_cons_succ, decide_true, decide_false, if_true, if_false, Bool.true_eq_false, Bool.false_eq_true, Bool.not_true, Bool.not_false]
        exact no
      · rw [RefEnd, if_pos (.inr (by omega))]
        exact ⟨rfl, rfl, rfl⟩
    · have hleafP := lst_leaf hLP
      have hleafR := lst_leaf hLR
      have bb : buildA [.p nilS, .p nilS, .p nilS] [(0, 1, oP), (2, 1, oR)] = some (.agg [oP, .p nilS, oR]) := by
        simp only [buildA, hleafP.1, hleafR.1, List.all_cons, List.all_nil, hleafP.2, hleafR.2, splice, List.length_set, List.length_cons, List.length_nil]
        rfl
      obtain ⟨n1, t1, H1, e1, h1, _⟩ := (h.perm (List.Perm.swap _ _ _)).toPV
      obtain ⟨n3, t3, H3, e3, h3, _⟩ := h1.toPV
      have hf : frzA H (.agg [oP, .p nilS, oR]) = some (avS ⟨n1, t1, P', some true, true, [], n3, t3, R'⟩, H3) := by
        have f2 : frzLeaf H1 (.p nilS) = some (.p nilS, H1) := rfl
        simp only [frzA, frzLeaves, frz_rn hP e1, f2, frz_rn hR e3, obs, oms]
        rfl
      have hfl := flat16 hl
      obtain ⟨t, e109, tP, tU, tR⟩ := call109 hf (by show P'.length ≤ _; omega) (by show (ints R').flatten.length < _; omega) (by show R'.length < _; omega) []
      have g3 := h3.box (1, [.p nilS, .p nilS, .p nilS]) (by simp)
      have hlf : ((cellsS t).map AV.p).all AV.leaf = true := rfl
      have s1 : stA 3 (.ptr 1 0) (avS t) [] H3 = some (H3.set 1 (bxS t)) := stBox3 g3 hlf
      have l1 : ld true 3 (.ptr 1 0) (H3.set 1 (bxS t)) = some (avS t) := ldBox3 (setAt g3)
      refine ⟨t, n, 0, ?_, ?_⟩
      · rw [L47_77_eq]
        simp only [lenP, hp, lenR, hr40, bb, e109, s1, l1, obs, oms, bin_add, bin_sub, bin_lss, bin_leq, bin_gtr, bin_geq, bin_eql, bin_neq, bin_eqlB, bin_neqB, un_not, cond_B, gd_B, gd_undef, gdH_B, gdH_undef, pickA_B, extractA_tup, lenA_sl, lenA_row, fldA_fp, fldA_ptr, fldA_rptr, List.getElem?_cons_zero, List.getElem?_cons_succ, decide_true, decide_false, if_true, if_false, Bool.true_eq_false, Bool.false_eq_true, Bool.not_true, Bool.not_false]
        rfl
      · rw [RefEnd, if_neg (by omega)]
        exact ⟨_, rfl, rfl, tP, tU, tR, rfl, rfl⟩

theorem loop58 {oX : AV} {r : List Int} {P' : List Pg} (hr : s.R.length ≤ 40) (hl : ∀ d ∈ s.R, d.2.2.length ≤ 16) (hrl : r.length ≤ 16) (hP : RN oP P'.length) (hb2 : P'.length < 2 ^ 40) :
    ∀ (c i : Nat) (H : Heap) (oR : AV) (R' : List Dd), s.R.length - i = c → i ≤ s.R.length → Cx H [(0, bxS s), (1, bz)] (lR oR R' :: lP oP P' :: lI oX r :: ls) → RN oR R'.length → ints R' = ((ints s.R).set (rtN (ints s.R)) r).take i →
      ∃ t k f, L47_58 [.ptr 0 0, .ptr 1 0, oX, oP, oR, I (if rtN (ints s.R) < i then ((rtN (ints s.R) : Nat) : Int) else -1), I i] [] H = some ([avS t, I k, I f], []) ∧ RefEnd P' (rtR (ints s.R) r) (rtN (ints s.R)) t k f := by
  have hil : (ints s.R).length = s.R.length := by simp [ints]
  have hrow16 : ∀ l ∈ ints s.R, l.length ≤ 16 := by
    intro l hl'
    obtain ⟨d, hd, e2⟩ := List.mem_map.mp hl'
    rw [← e2]; exact hl d hd
  intro c
  induction c with
  | zero =>
    intro i H oR R' hc hi h hrn hR
    have : i = s.R.length := by omega
    subst this
    rw [List.take_of_length_le (by rw [List.length_set]; omega)] at hR
    have g0 : H[0]? = some (bxS s) := h.at (by simp)
    have hRl : R'.length = s.R.length := by have := congrArg List.length hR; simpa [ints] using this
    have hR16 : ∀ l ∈ ints R', l.length ≤ 16 := by
      intro l hl'
      rw [hR] at hl'
      rcases List.mem_or_eq_of_mem_set hl' with e | e
      · exact hrow16 l e
      · subst e; exact hrl
    by_cases hN : rtN (ints s.R) < s.R.length
    · have hge : ¬ (((rtN (ints s.R) : Nat) : Int) < 0) := by omega
      obtain ⟨t, k, f, fin, hf⟩ := end47 h hrn hP hR16 (by omega) hb2 (rtN (ints s.R))
      refine ⟨t, k, f, ?_, ?_⟩
      · rw [L47_58_eq, if_pos hN]
        simp only [fldA_ptr, ldR0 g0, Int.lt_irrefl, hge, obs, oms, bin_add, bin_sub, bin_lss, bin_leq, bin_gtr, bin_geq, bin_eql, bin_neq, bin_eqlB, bin_neqB, un_not, cond_B, gd_B, gd_undef, gdH_B, gdH_undef, pickA_B, extractA_tup, lenA_sl, lenA_row, fldA_fp, fldA_ptr, fldA_rptr, List.getElem?_cons_zero, List.getElem?_cons_succ, decide_true, decide_false, if_true, if_false, Bool.true_eq_false, Bool.false_eq_true, Bool.not_true, Bool.not_false]
        exact fin
      · rw [rtR, if_pos (by omega), ← hR]; exact hf
    · have hNe : rtN (ints s.R) = s.R.length := by
        have := List.findIdx_le_length (xs := ints s.R) (p := fun l => decide (l.length = 0))
        have h2 : rtN (ints s.R) ≤ (ints s.R).length := this
        omega
      have hlt : ((-1 : Int) < 0) := by omega
      have lenR : lenA .slice oR H = some (I R'.length) := (h.lst (lR oR R') (by simp) : Lst 1 oR H R'.length (R'.map us)).len H
      rw [hRl] at lenR
      have hp : Cx H [(0, bxS s), (1, bz)] (gLl (oX, r) :: ([lR oR R', lP oP P'] ++ ls)) := h.perm (List.perm_middle (l₁ := [lR oR R', lP oP P']))
      obtain ⟨nl, tg, H2, e2, h2⟩ := Cx.lit hp
      obtain ⟨oR', H3, e3, h3, id, g, eo⟩ := Cx.app (bytes := 24) [] h2 (cells1 (us (nl, tg, r)) H2) rfl (by omega) (by simp only [room]; omega)
      have h4 : Cx H3 [(0, bxS s), (1, bz)] (lR oR' (R' ++ [(nl, tg, r)]) :: lP oP P' :: ls) := by rw [lR_snoc]; exact h3
      have hset : (ints s.R).set (rtN (ints s.R)) r = ints s.R := by rw [hNe, ← hil]; exact List.set_eq_of_length_le (Nat.le_refl _)
      have hR2 : ints (R' ++ [(nl, tg, r)]) = rtR (ints s.R) r := by
        rw [rtR, if_neg (by omega)]
        rw [hset] at hR
        rw [← hR]; simp [ints]
      obtain ⟨t, k, f, fin, hf⟩ := end47 h4 (.inr ⟨id, g, by rw [eo, len_snoc]⟩) hP (by
        intro l hl'
        have : ints (R' ++ [(nl, tg, r)]) = ints R' ++ [r] := by simp [ints]
        rw [this] at hl'
        rcases List.mem_append.mp hl' with e | e
        · exact hR16 l e
        · simp at e; subst e; exact hrl) (by rw [len_snoc]; omega) hb2 s.R.length
      refine ⟨t, k, f, ?_, ?_⟩
      · rw [L47_58_eq, if_neg hN]
        simp only [fldA_ptr, ldR0 g0, Int.lt_irrefl, hlt, lenR, e2, e3, obs, oms, bin_add, bin_sub, bin_lss, bin_leq, bin_gtr, bin_geq, bin_eql, bin_neq, bin_eqlB, bin_neqB, un_not, cond_B, gd_B, gd_undef, gdH_B, gdH_undef, pickA_B, extractA_tup, lenA_sl, lenA_row, fldA_fp, fldA_ptr, fldA_rptr, List.getElem?_cons_zero, List.getElem?_cons_succ, decide_true, decide_false, if_true, if_false, Bool.true_eq_false, Bool.false_eq_true, Bool.not_true, Bool.not_false]
        exact fin
      · rw [hR2] at hf
        have e9 : RefEnd P' (rtR (ints s.R) r) (rtN (ints s.R)) t k f = RefEnd P' (rtR (ints s.R) r) s.R.length t k f := by rw [hNe]
        rw [e9]
        exact hf
  | succ c ih =>
    intro i H oR R' hc hi h hrn hR
    have hi' : i < s.R.length := by omega
    have hlt : (i : Int) < s.R.length := by omega
    have w : IntKind.i64.wrap ((i : Int) + 1) = ((i + 1 : Nat) : Int) := by rw [wrap_id (by omega), nxt]
    have g0 : H[0]? = some (bxS s) := h.at (by simp)
    have hRl : R'.length = i := by have := congrArg List.length hR; simp [ints] at this; omega
    have hat : (ints s.R)[i]'(by omega) = s.R[i].2.2 := by simp [ints]
    have hts : ((ints s.R).set (rtN (ints s.R)) r).take (i + 1) = ((ints s.R).set (rtN (ints s.R)) r).take i ++ [((ints s.R).set (rtN (ints s.R)) r)[i]'(by rw [List.length_set]; omega)] := by
      rw [List.take_add_one, List.getElem?_eq_getElem (by rw [List.length_set]; omega)]; rfl
    have hli := hl _ (List.getElem_mem hi')
    have hlit : litA false 1 [] H = some (.p (.sl (some false) true 0 []), H) := rfl
    by_cases he : i = rtN (ints s.R)
    · have hemp := rt_emp (R := ints s.R) (by omega)
      have hat0 : (s.R[i].2.2.length : Int) = 0 := by
        rw [← hat]
        have : (ints s.R)[i]'(by omega) = (ints s.R)[rtN (ints s.R)]'(by omega) := by simp [← he]
        rw [this]; omega
      have hnn : ¬ rtN (ints s.R) < i := by omega
      have hneg : ((-1 : Int) < 0) := by omega
      obtain ⟨nl, tg, cc, H1, H2, oR', H3, e1, e2, e3, h3, hrn3⟩ := Cx.appCopy (R' := R') (l := r) (y := oX) [] h (h.lst (lI oX r) (by simp) : Lst 1 oX H r.length (r.map Ia)).cells (by omega) (by omega)
      obtain ⟨t, k, f, fin, hf⟩ := ih (i + 1) H3 oR' (R' ++ [(nl, tg, r)]) (by omega) (by omega) h3 hrn3 (by
        rw [hts, ← hR]
        have : ((ints s.R).set (rtN (ints s.R)) r)[i]'(by rw [List.length_set]; omega) = r := by
          simp [← he]
        rw [this]; simp [ints])
      refine ⟨t, k, f, ?_, hf⟩
      rw [if_pos (by omega)] at fin
      rw [L47_58_eq, if_neg hnn]
      simp only [fldA_ptr, ldR0 g0, hlt, idxW hi', ldW hi', hat0, eq_self, hneg, L47_69_eq, hlit, e1, e2, e3, w, obs, oms, bin_add, bin_sub, bin_lss, bin_leq, bin_gtr, bin_geq, bin_eql, bin_neq, bin_eqlB, bin_neqB, un_not, cond_B, gd_B, gd_undef, gdH_B, gdH_undef, pickA_B, extractA_tup, lenA_sl, lenA_row, fldA_fp, fldA_ptr, fldA_rptr, List.getElem?_cons_zero, List.getElem?_cons_succ, decide_true, decide_false, if_true, if_false, Bool.true_eq_false, Bool.false_eq_true, Bool.not_true, Bool.not_false]
      rw [he] at fin ⊢
      exact fin
    · obtain ⟨nl, tg, cc, H1, H2, oR', H3, e1, e2, e3, h3, hrn3⟩ := Cx.appCopy (R' := R') (l := s.R[i].2.2) (y := V s.R[i].1 s.R[i].2.1 s.R[i].2.2) [] h (cellsP (by simp) H) (by omega) (by omega)
      obtain ⟨t, k, f, fin, hf⟩ := ih (i + 1) H3 oR' (R' ++ [(nl, tg, s.R[i].2.2)]) (by omega) (by omega) h3 hrn3 (by
        rw [hts, ← hR, List.getElem_set_ne (by omega), hat]; simp [ints])
      have hnum : (if rtN (ints s.R) < i + 1 then ((rtN (ints s.R) : Nat) : Int) else -1) = if rtN (ints s.R) < i then ((rtN (ints s.R) : Nat) : Int) else -1 := by
        by_cases hlt2 : rtN (ints s.R) < i
        · rw [if_pos hlt2, if_pos (by omega)]
        · rw [if_neg hlt2, if_neg (by omega)]
      rw [hnum] at fin
      refine ⟨t, k, f, ?_, hf⟩
      rw [L47_58_eq]
      by_cases h0 : (s.R[i].2.2.length : Int) = 0
      · have hle := rt_le (R := ints s.R) (i := i) (by omega) (by rw [hat]; omega)
        have hlt2 : rtN (ints s.R) < i := by omega
        rw [if_pos hlt2] at fin ⊢
        have hge : ¬ (((rtN (ints s.R) : Nat) : Int) < 0) := by omega
        simp only [fldA_ptr, ldR0 g0, hlt, idxW hi', ldW hi', h0, eq_self, hge, L47_69_eq, hlit, e1, e2, e3, w, obs, oms, bin_add, bin_sub, bin_lss, bin_leq, bin_gtr, bin_geq, bin_eql, bin_neq, bin_eqlB, bin_neqB, un_not, cond_B, gd_B, gd_undef, gdH_B, gdH_undef, pickA_B, extractA_tup, lenA_sl, lenA_row, fldA_fp, fldA_ptr, fldA_rptr, List.getElem?_cons_zero, List.getElem?_cons_succ, decide_true, decide_false, if_true, if_false, Bool.true_eq_false, Bool.false_eq_true, Bool.not_true, Bool.not_false]
        exact fin
      · simp only [fldA_ptr, ldR0 g0, hlt, idxW hi', ldW hi', h0, L47_69_eq, hlit, e1, e2, e3, w, obs, oms, bin_add, bin_sub, bin_lss, bin_leq, bin_gtr, bin_geq, bin_eql, bin_neq, bin_eqlB, bin_neqB, un_not, cond_B, gd_B, gd_undef, gdH_B, gdH_undef, pickA_B, extractA_tup, lenA_sl, lenA_row, fldA_fp, fldA_ptr, fldA_rptr, List.getElem?_cons_zero, List.getElem?_cons_succ, decide_true, decide_false, if_true, if_false, Bool.true_eq_false, Bool.false_eq_true, Bool.not_true, Bool.not_false]
        exact fin
end
end Pa
end Go.Proofs.Ytkhbbjfdbbnojaa

set_option linter.unusedVariables false
set_option linter.unusedSimpArgs false
namespace Go.Proofs.Ytkhbbjfdbbnojaa
open Go Go.AM
namespace Pa

theorem cG_setC (p : Pg) {j k : Nat} (hj : j < 4) (hk : k < 4) (v : Int) : cG (setC p j v) k = if k = j then v else cG p k := by
  obtain ⟨x, y, z, w⟩ := p
  match j, k, hj, hk with
  | 0, 0, _, _ => rfl
  | 0, 1, _, _ => rfl
  | 0, 2, _, _ => rfl
  | 0, 3, _, _ => rfl
  | 1, 0, _, _ => rfl
  | 1, 1, _, _ => rfl
  | 1, 2, _, _ => rfl
  | 1, 3, _, _ => rfl
  | 2, 0, _, _ => rfl
  | 2, 1, _, _ => rfl
  | 2, 2, _, _ => rfl
  | 2, 3, _, _ => rfl
  | 3, 0, _, _ => rfl
  | 3, 1, _, _ => rfl
  | 3, 2, _, _ => rfl
  | 3, 3, _, _ => rfl
theorem setC_setC (p : Pg) {j : Nat} (hj : j < 4) (v w : Int) : setC (setC p j v) j w = setC p j w := by
  match j, hj with
  | 0, _ => rfl
  | 1, _ => rfl
  | 2, _ => rfl
  | 3, _ => rfl
theorem setC_all (q p : Pg) : setC (setC (setC (setC q 0 (cG p 0)) 1 (cG p 1)) 2 (cG p 2)) 3 (cG p 3) = p := rfl

section
variable {s : SD} {H : Heap} {fx : List (Nat × AObj)} {ls : List Ll} {oR oP : AV}

theorem call46 (hl : ∀ d ∈ s.R, d.2.2.length < 2 ^ 63) {v a i k : Nat} (hv : v < s.R.length) (hi : i < s.R[v].2.2.length) (ha : a / 4 = i) (hk : a % 4 = k) (hx : s.R[v].2.2[i] < s.P.length) (lo : List Nat) (H : Heap) :
    callA cfg O 46 [avS s, I v, I a] lo H = some (I (cG (pgOf s.P s.R[v].2.2[i]) k), H) := by
  subst ha hk
  exact callA_args (H' := []) (rs := [I (cG (pgOf s.P s.R[v].2.2[a / 4]) (a % 4))]) rfl (pureS2 H _ _) (ent46 hl hv hi hx) rfl

theorem step16 (hl : ∀ d ∈ s.R, d.2.2.length < 2 ^ 63) {v a k : Nat} (x : Int) (hv : v < s.R.length) (h64 : a < 64) (hi : a / 4 < s.R[v].2.2.length) (hx : s.R[v].2.2[a / 4] < s.P.length) (hk : k < 4) {H : Heap} (g0 : H[0]? = some (bxS s)) (oX oP : AV) (z : Bool) (q : Pg) :
    L47_16 [I v, I a, I x, .ptr 0 0, .ptr 1 0, oX, oP, .rptr H.length 0 0, B z, I k] [] (H ++ [.row 0 1 (encG q)]) =
      L47_16 [I v, I a, I x, .ptr 0 0, .ptr 1 0, oX, oP, .rptr H.length 0 0, B (z && decide (cG (setC (pgOf s.P s.R[v].2.2[a / 4]) (a % 4) x) k = 0)), I ((k + 1 : Nat) : Int)] [] (H ++ [.row 0 1 (encG (setC q k (cG (setC (pgOf s.P s.R[v].2.2[a / 4]) (a % 4) x) k)))]) := by
  have hj : a % 4 < 4 := Nat.mod_lt _ (by omega)
  have hlt : (k : Int) < 4 := by omega
  have g0' : ∀ o, (H ++ [o])[0]? = some (bxS s) := fun o => getE g0
  have hrm : bin .rem .int (I a) (I 4) = some (I (a % 4 : Nat)) := rem_nat .i64 a 4 (by omega)
  have w1 : IntKind.i64.wrap ((a : Int) - ((a % 4 : Nat) : Int)) = ((a - a % 4 : Nat) : Int) := by rw [wrap_id (by omega)]; omega
  have w2 : IntKind.i64.wrap (((a - a % 4 : Nat) : Int) + (k : Int)) = ((a - a % 4 + k : Nat) : Int) := by rw [wrap_id (by omega)]; omega
  have w3 : IntKind.i64.wrap ((k : Int) + 1) = ((k + 1 : Nat) : Int) := by rw [wrap_id (by omega), nxt]
  have c46 := fun H' => call46 (a := a - a % 4 + k) (i := a / 4) (k := k) hl hv hi (by omega) (by omega) hx [] H'
  have m1 := arrI H.length hk
  have m2 := arrStC H q hk (cG (pgOf s.P s.R[v].2.2[a / 4]) k)
  have hc := cG_setC (pgOf s.P s.R[v].2.2[a / 4]) hj hk x
  conv => lhs; rw [L47_16_eq]
  by_cases he : k = a % 4
  · rw [if_pos he] at hc
    have m3 := arrStC H (setC q k (cG (pgOf s.P s.R[v].2.2[a / 4]) k)) hk x
    rw [setC_setC q hk] at m3
    have m4 := arrLdC H (setC q k x) hk
    rw [cG_setC q hk hk, if_pos rfl] at m4
    rw [hc]
    subst he
    cases z with
    | true =>
      simp only [hlt, ldS0 (g0' _), hrm, w1, w2, c46, m1, m2, eq_self, m3, L47_27_eq, m4, w3, Bool.true_and, obs, oms, bin_add, bin_sub, bin_lss, bin_leq, bin_gtr, bin_geq, bin_eql, bin_neq, bin_eqlB, bin_neqB, un_not, cond_B, gd_B, gd_undef, gdH_B, gdH_undef, pickA_B, extractA_tup, lenA_sl, lenA_row, fldA_fp, fldA_ptr, fldA_rptr, List.getElem?_cons_zero, List.getElem?_cons_succ, decide_true, decide_false, if_true, if_false, Bool.true_eq_false, Bool.false_eq_true, Bool.not_true, Bool.not_false]
    | false =>
      simp only [hlt, ldS0 (g0' _), hrm, w1, w2, c46, m1, m2, eq_self, m3, L47_27_eq, m4, w3, Bool.false_and, obs, oms, bin_add, bin_sub, bin_lss, bin_leq, bin_gtr, bin_geq, bin_eql, bin_neq, bin_eqlB, bin_neqB, un_not, cond_B, gd_B, gd_undef, gdH_B, gdH_undef, pickA_B, extractA_tup, lenA_sl, lenA_row, fldA_fp, fldA_ptr, fldA_rptr, List.getElem?_cons_zero, List.getElem?_cons_succ, decide_true, decide_false, if_true, if_false, Bool.true_eq_false, Bool.false_eq_true, Bool.not_true, Bool.not_false]
      try rfl
  · have he' : ¬ ((k : Int) = ((a % 4 : Nat) : Int)) := by omega
    rw [if_neg he] at hc
    have m4 := arrLdC H (setC q k (cG (pgOf s.P s.R[v].2.2[a / 4]) k)) hk
    rw [cG_setC q hk hk, if_pos rfl] at m4
    rw [hc]
    cases z with
    | true =>
      simp only [hlt, ldS0 (g0' _), hrm, w1, w2, c46, m1, m2, he', L47_27_eq, m4, w3, Bool.true_and, obs, oms, bin_add, bin_sub, bin_lss, bin_leq, bin_gtr, bin_geq, bin_eql, bin_neq, bin_eqlB, bin_neqB, un_not, cond_B, gd_B, gd_undef, gdH_B, gdH_undef, pickA_B, extractA_tup, lenA_sl, lenA_row, fldA_fp, fldA_ptr, fldA_rptr, List.getElem?_cons_zero, List.getElem?_cons_succ, decide_true, decide_false, if_true, if_false, Bool.true_eq_false, Bool.false_eq_true, Bool.not_true, Bool.not_false]
    | false =>
      simp only [hlt, ldS0 (g0' _), hrm, w1, w2, c46, m1, m2, he', L47_27_eq, m4, w3, Bool.false_and, obs, oms, bin_add, bin_sub, bin_lss, bin_leq, bin_gtr, bin_geq, bin_eql, bin_neq, bin_eqlB, bin_neqB, un_not, cond_B, gd_B, gd_undef, gdH_B, gdH_undef, pickA_B, extractA_tup, lenA_sl, lenA_row, fldA_fp, fldA_ptr, fldA_rptr, List.getElem?_cons_zero, List.getElem?_cons_succ, decide_true, decide_false, if_true, if_false, Bool.true_eq_false, Bool.false_eq_true, Bool.not_true, Bool.not_false]
      try rfl
end
end Pa
end Go.Proofs.Ytkhbbjfdbbnojaa

set_option linter.unusedVariables false
set_option linter.unusedSimpArgs false
namespace Go.Proofs.Ytkhbbjfdbbnojaa
open Go Go.AM
namespace Pa

section
variable {s : SD} {H : Heap} {fx : List (Nat × AObj)} {ls : List Ll} {oR oP : AV}

theorem tail53 {oX : AV} {r : List Int} {P' : List Pg} (hr : s.R.length ≤ 40) (hl : ∀ d ∈ s.R, d.2.2.length ≤ 16) (hrl : r.length ≤ 16) (hP : RN oP P'.length) (hb2 : P'.length < 2 ^ 40) (h : Cx H [(0, bxS s), (1, bz)] (lP oP P' :: lI oX r :: ls)) :
    ∃ t k f, L47_53 [.ptr 0 0, .ptr 1 0, oX, oP] [] H = some ([avS t, I k, I f], []) ∧ RefEnd P' (rtR (ints s.R) r) (rtN (ints s.R)) t k f := by
  obtain ⟨t, k, f, fin, hf⟩ := loop58 hr hl hrl hP hb2 s.R.length 0 H (.p nilS) [] rfl (by omega) (h.newNil 1) (.inl ⟨rfl, rfl⟩) (by simp [ints])
  rw [if_neg (by omega)] at fin
  refine ⟨t, k, f, ?_, hf⟩
  rw [L47_53_eq]
  exact fin

theorem tail51 {ix gx a : Nat} {n : Int} {r : List Int} {P' : List Pg} (hr : s.R.length ≤ 40) (hl : ∀ d ∈ s.R, d.2.2.length ≤ 16) (hrl : r.length ≤ 16) (hP : RN oP P'.length) (hb2 : P'.length < 2 ^ 40) (ha : a / 4 < r.length) (h64 : a < 64) (h : Cx H [(0, bxS s), (1, bz)] (lP oP P' :: lI (.row ix gx 0 r.length) r :: ls)) :
    ∃ t k f, L47_51 [I a, .ptr 0 0, .ptr 1 0, .row ix gx 0 r.length, oP, I n] [] H = some ([avS t, I k, I f], []) ∧ RefEnd P' (rtR (ints s.R) (r.set (a / 4) n)) (rtN (ints s.R)) t k f := by
  have hq : bin .quo .int (I a) (I 4) = some (I (a / 4 : Nat)) := by
    have := quo_nat .i64 a 4 (by omega)
    rw [wrap_id (by omega)] at this
    exact this
  have cX := Cx.cell [lP oP P'] h ha
  obtain ⟨eS2, hS2⟩ := cX.2.2.2 (Ia n) []
  have hlen : (r.set (a / 4) n).length = r.length := List.length_set
  have lx : lI (.row ix gx 0 r.length) (r.set (a / 4) n) = (.row ix gx 0 r.length, 1, r.length, (r.map Ia).set (a / 4) (Ia n)) := by
    rw [lI, hlen, List.map_set]
  obtain ⟨t, k, f, fin, hf⟩ := tail53 (r := r.set (a / 4) n) (ls := ls) hr hl (by omega) hP hb2 (by rw [lx]; exact hS2)
  refine ⟨t, k, f, ?_, hf⟩
  rw [L47_51_eq]
  simp only [hq, cX.1, eS2, obs, oms, bin_add, bin_sub, bin_lss, bin_leq, bin_gtr, bin_geq, bin_eql, bin_neq, bin_eqlB, bin_neqB, un_not, cond_B, gd_B, gd_undef, gdH_B, gdH_undef, pickA_B, extractA_tup, lenA_sl, lenA_row, fldA_fp, fldA_ptr, fldA_rptr, List.getElem?_cons_zero, List.getElem?_cons_succ, decide_true, decide_false, if_true, if_false, Bool.true_eq_false, Bool.false_eq_true, Bool.not_true, Bool.not_false]
  exact fin

theorem arrLdAt {H : Heap} {id : Nat} {p : Pg} (h : H[id]? = some (.row 0 1 (encG p))) : ld true 4 (.rptr id 0 0) H = some (avG p) := by
  obtain ⟨x, y, z, w⟩ := p
  simp only [ld, h]
  rfl

theorem tail47 {ix gx pa a n : Nat} {p : Pg} {r : List Int} {P' : List Pg} (hr : s.R.length ≤ 40) (hl : ∀ d ∈ s.R, d.2.2.length ≤ 16) (hrl : r.length ≤ 16) (hP : RN oP P'.length) (hb2 : P'.length < 2 ^ 40) (ha : a / 4 < r.length) (h64 : a < 64) (hn : n < P'.length)
    (h : Cx H [(0, bxS s), (1, bz)] (lP oP P' :: lI (.row ix gx 0 r.length) r :: (.row pa 0 0 4, 1, 4, encG p) :: ls)) :
    ∃ t k f, L47_47 [I a, .ptr 0 0, .ptr 1 0, .row ix gx 0 r.length, oP, .rptr pa 0 0, B false, I n] [] H = some ([avS t, I k, I f], []) ∧ RefEnd (P'.set n p) (rtR (ints s.R) (r.set (a / 4) n)) (rtN (ints s.R)) t k f := by
  obtain ⟨id, g, e⟩ := hP.row (by omega)
  subst e
  have hL : Lst 4 (.row id g 0 P'.length) H P'.length (P'.flatMap encG) := h.lst (lP _ P') (by simp)
  have hA : Lst 1 (.row pa 0 0 4) H 4 (encG p) := h.lst (.row pa 0 0 4, 1, 4, encG p) (by simp)
  have e1 := arrLdAt hA.at
  have e2 := stG (p := p) hL.at hn
  have lp : lP (.row id g 0 P'.length) (P'.set n p) = (.row id g 0 P'.length, 4, P'.length, (P'.set n p).flatMap encG) := by simp [lP]
  obtain ⟨t, k, f, fin, hf⟩ := tail51 (P' := P'.set n p) (n := n) (a := a) (r := r) (ls := (.row pa 0 0 4, 1, 4, encG p) :: ls) hr hl hrl (by rw [List.length_set]; exact hP) (by rw [List.length_set]; exact hb2) ha h64 (by rw [lp]; exact Cx.setRow [] (cs' := (P'.set n p).flatMap encG) h (by simp only [pg_len, List.length_set]))
  refine ⟨t, k, f, ?_, hf⟩
  rw [L47_47_eq]
  simp only [e1, rowI (k := 4) hn, e2, obs, oms, bin_add, bin_sub, bin_lss, bin_leq, bin_gtr, bin_geq, bin_eql, bin_neq, bin_eqlB, bin_neqB, un_not, cond_B, gd_B, gd_undef, gdH_B, gdH_undef, pickA_B, extractA_tup, lenA_sl, lenA_row, fldA_fp, fldA_ptr, fldA_rptr, List.getElem?_cons_zero, List.getElem?_cons_succ, decide_true, decide_false, if_true, if_false, Bool.true_eq_false, Bool.false_eq_true, Bool.not_true, Bool.not_false]
  exact fin

theorem loop32 {ix gx pa a : Nat} {p : Pg} {r : List Int} (hr : s.R.length ≤ 40) (hl : ∀ d ∈ s.R, d.2.2.length ≤ 16) (hrl : r.length ≤ 16) (hP : RN oP s.P.length) (hb2 : s.P.length ≤ 400) (hu : s.U.length = s.P.length) (ha : a / 4 < r.length) (h64 : a < 64) (hz : p ≠ zg)
    (h : Cx H [(0, bxS s), (1, bz)] (lP oP s.P :: lI (.row ix gx 0 r.length) r :: (.row pa 0 0 4, 1, 4, encG p) :: ls)) :
    ∀ (c i : Nat), s.U.length - i = c → i ≤ s.U.length → 0 ∉ s.U.take i →
      ∃ t k f, L47_32 [I a, .ptr 0 0, .ptr 1 0, .row ix gx 0 r.length, oP, .rptr pa 0 0, B false, I (-1), I i] [] H = some ([avS t, I k, I f], []) ∧ RefEnd (frP s.P s.U p) (rtR (ints s.R) (r.set (a / 4) (frN s.U p))) (rtN (ints s.R)) t k f := by
  have hLP : Lst 4 oP H s.P.length (s.P.flatMap encG) := h.lst (lP oP s.P) (by simp)
  have lenP : lenA .slice oP H = some (I s.P.length) := hLP.len H
  have hA : Lst 1 (.row pa 0 0 4) H 4 (encG p) := h.lst (.row pa 0 0 4, 1, 4, encG p) (by simp)
  have e1 := arrLdAt hA.at
  have g0 : H[0]? = some (bxS s) := h.at (by simp)
  have hneg : ((-1 : Int) < 0) := by omega
  intro c
  induction c with
  | zero =>
    intro i hc hi hno
    have : i = s.U.length := by omega
    subst this
    rw [List.take_length] at hno
    have hidx := idx_not hno
    have hlt : ¬ ((s.U.length : Int) < s.P.length) := by omega
    obtain ⟨oP', H2, e2, h2, idP, gP, eoP⟩ := Cx.app (bytes := 32) [] h (cellsP (sz := 4) (m := 1) (nl := some false) (tg := true) (cs := encG p) rfl H) rfl (by omega) (by simp only [room]; omega)
    obtain ⟨t, k, f, fin, hf⟩ := tail47 (oP := oP') (pa := pa) (ix := ix) (gx := gx) (P' := s.P ++ [p]) (n := s.P.length) (a := a) (p := p) (r := r) (ls := ls) hr hl hrl (.inr ⟨idP, gP, by rw [eoP, len_snoc]⟩) (by rw [len_snoc]; omega) ha h64 (by rw [len_snoc]; omega) (by rw [lP_snoc]; exact h2)
    have hset : (s.P ++ [p]).set s.P.length p = s.P ++ [p] := by
      rw [List.set_append_right _ _ (Nat.le_refl _)]; simp
    rw [hset] at hf
    have hnl : ¬ s.U.idxOf 0 < s.U.length := by omega
    have hfr : frN s.U p = (s.P.length : Int) := by rw [frN, if_neg hz, hidx, hu]
    refine ⟨t, k, f, ?_, by rw [hfr, frP, if_neg hz, if_neg hnl]; exact hf⟩
    rw [L47_32_eq]
    simp only [lenP, hlt, hneg, e1, litG, e2, obs, oms, bin_add, bin_sub, bin_lss, bin_leq, bin_gtr, bin_geq, bin_eql, bin_neq, bin_eqlB, bin_neqB, un_not, cond_B, gd_B, gd_undef, gdH_B, gdH_undef, pickA_B, extractA_tup, lenA_sl, lenA_row, fldA_fp, fldA_ptr, fldA_rptr, List.getElem?_cons_zero, List.getElem?_cons_succ, decide_true, decide_false, if_true, if_false, Bool.true_eq_false, Bool.false_eq_true, Bool.not_true, Bool.not_false]
    exact fin
  | succ c ih =>
    intro i hc hi hno
    have hi' : i < s.U.length := by omega
    have hlt : (i : Int) < s.P.length := by omega
    have w : IntKind.i64.wrap ((i : Int) + 1) = ((i + 1 : Nat) : Int) := by rw [wrap_id (by omega), nxt]
    by_cases he : s.U[i] = 0
    · have hidx := idx_at hi' he hno
      have hfr : frN s.U p = (i : Int) := by rw [frN, if_neg hz, hidx]
      have hnl : s.U.idxOf 0 < s.U.length := by omega
      obtain ⟨t, k, f, fin, hf⟩ := tail47 (P' := s.P) (n := i) (a := a) (p := p) (r := r) (ls := ls) hr hl hrl hP (by omega) ha h64 (by omega) h
      refine ⟨t, k, f, ?_, by rw [hfr, frP, if_neg hz, if_pos hnl, hidx]; exact hf⟩
      have hge : ¬ ((i : Int) < 0) := by omega
      have next : L47_32 [I a, .ptr 0 0, .ptr 1 0, .row ix gx 0 r.length, oP, .rptr pa 0 0, B false, I i, I ((i + 1 : Nat) : Int)] [] H = some ([avS t, I k, I f], []) := by
        rw [L47_32_eq]
        by_cases hlt2 : ((i + 1 : Nat) : Int) < s.P.length
        · simp only [lenP, hlt2, hge, obs, oms, bin_add, bin_sub, bin_lss, bin_leq, bin_gtr, bin_geq, bin_eql, bin_neq, bin_eqlB, bin_neqB, un_not, cond_B, gd_B, gd_undef, gdH_B, gdH_undef, pickA_B, extractA_tup, lenA_sl, lenA_row, fldA_fp, fldA_ptr, fldA_rptr, List.getElem?_cons_zero, List.getElem?_cons_succ, decide_true, decide_false, if_true, if_false, Bool.true_eq_false, Bool.false_eq_true, Bool.not_true, Bool.not_false]
          exact fin
        · simp only [lenP, hlt2, hge, obs, oms, bin_add, bin_sub, bin_lss, bin_leq, bin_gtr, bin_geq, bin_eql, bin_neq, bin_eqlB, bin_neqB, un_not, cond_B, gd_B, gd_undef, gdH_B, gdH_undef, pickA_B, extractA_tup, lenA_sl, lenA_row, fldA_fp, fldA_ptr, fldA_rptr, List.getElem?_cons_zero, List.getElem?_cons_succ, decide_true, decide_false, if_true, if_false, Bool.true_eq_false, Bool.false_eq_true, Bool.not_true, Bool.not_false]
          exact fin
      rw [L47_32_eq]
      simp only [lenP, hlt, hneg, fldA_ptr, ldU0 g0, idxV hi', ldV hi', he, eq_self, L47_35_eq, w, obs, oms, bin_add, bin_sub, bin_lss, bin_leq, bin_gtr, bin_geq, bin_eql, bin_neq, bin_eqlB, bin_neqB, un_not, cond_B, gd_B, gd_undef, gdH_B, gdH_undef, pickA_B, extractA_tup, lenA_sl, lenA_row, fldA_fp, fldA_ptr, fldA_rptr, List.getElem?_cons_zero, List.getElem?_cons_succ, decide_true, decide_false, if_true, if_false, Bool.true_eq_false, Bool.false_eq_true, Bool.not_true, Bool.not_false]
      exact next
    · obtain ⟨t, k, f, fin, hf⟩ := ih (i + 1) (by omega) (by omega) (by
        rw [take_snoc hi', List.mem_append, List.mem_singleton, not_or]
        exact ⟨hno, fun e => he e.symm⟩)
      refine ⟨t, k, f, ?_, hf⟩
      rw [L47_32_eq]
      simp only [lenP, hlt, hneg, fldA_ptr, ldU0 g0, idxV hi', ldV hi', he, L47_35_eq, w, obs, oms, bin_add, bin_sub, bin_lss, bin_leq, bin_gtr, bin_geq, bin_eql, bin_neq, bin_eqlB, bin_neqB, un_not, cond_B, gd_B, gd_undef, gdH_B, gdH_undef, pickA_B, extractA_tup, lenA_sl, lenA_row, fldA_fp, fldA_ptr, fldA_rptr, List.getElem?_cons_zero, List.getElem?_cons_succ, decide_true, decide_false, if_true, if_false, Bool.true_eq_false, Bool.false_eq_true, Bool.not_true, Bool.not_false]
      exact fin

/-- What PagesSet answers. -/
def RefRes (P : List Pg) (U : List Int) (R : List (List Int)) (row : List Int) (a : Nat) (x : Int) (t : SD) (k f : Int) : Prop :=
  if cG (pgOf P (row.getD (a / 4) 0)) (a % 4) = x then RefEnd P (rtR R row) (rtN R) t k f
  else RefEnd (frP P U (setC (pgOf P (row.getD (a / 4) 0)) (a % 4) x)) (rtR R (row.set (a / 4) (frN U (setC (pgOf P (row.getD (a / 4) 0)) (a % 4) x)))) (rtN R) t k f

theorem ent47 {v a : Nat} (x : Int) (hc : chk s = 0) (ha64 : a < 64) (hv : v < s.R.length) (h16 : s.R[v].2.2.length = 16) :
    ∃ t k f, O.ent 47 [avS s, I v, I a, I x] [] [] = some ([avS t, I k, I f], []) ∧ RefRes s.P s.U (ints s.R) s.R[v].2.2 a x t k f := by
  obtain ⟨hp, hr, hul, hR, hU⟩ := chk0 hc
  have hil : (ints s.R).length = s.R.length := by simp [ints]
  have hl16 : ∀ d ∈ s.R, d.2.2.length ≤ 16 := fun d hd => by
    have := (hR d.2.2 (List.mem_map.mpr ⟨d, hd, rfl⟩)).1
    omega
  have hl61 : ∀ d ∈ s.R, d.2.2.length < 2 ^ 63 := fun d hd => by have := hl16 d hd; omega
  have hrow := (hR s.R[v].2.2 (List.mem_map.mpr ⟨_, List.getElem_mem hv, rfl⟩)).2
  have hi : a / 4 < s.R[v].2.2.length := by omega
  have hj : a % 4 < 4 := Nat.mod_lt _ (by omega)
  have hxx : s.R[v].2.2[a / 4] < s.P.length := by have := (hrow _ (List.getElem_mem hi)).2; omega
  have b1 : boxO [] (AV.cells (avS s)) [] = some (.ptr 0 0, [bxS s]) := boxS s []
  have b2 : boxO [] [.p nilS, .p nilS, .p nilS] [bxS s] = some (.ptr 1 0, [bxS s, bz]) := rfl
  have l1 : litA false 1 [] [bxS s, bz] = some (.p (.sl (some false) true 0 []), [bxS s, bz]) := rfl
  have g0 : ([bxS s, bz] : Heap)[0]? = some (bxS s) := rfl
  have a1 := cloneApp (sz := 1) (bytes := 8) (cellsP (sz := 1) (m := s.R[v].2.2.length) (nl := s.R[v].1) (tg := s.R[v].2.1) (cs := s.R[v].2.2.map Ia) (by simp) [bxS s, bz]) (by simp only [room]; omega)
  have a1' : appA 1 8 (.p (.sl (some false) true 0 [])) (V s.R[v].1 s.R[v].2.1 s.R[v].2.2) [bxS s, bz] = some (.row 2 0 0 s.R[v].2.2.length, [bxS s, bz, .row 0 1 (s.R[v].2.2.map Ia)]) := a1
  have l2 : litA false 4 [] [bxS s, bz, .row 0 1 (s.R[v].2.2.map Ia)] = some (.p (.sl (some false) true 0 []), [bxS s, bz, .row 0 1 (s.R[v].2.2.map Ia)]) := rfl
  have g02 : ([bxS s, bz, .row 0 1 (s.R[v].2.2.map Ia)] : Heap)[0]? = some (bxS s) := rfl
  have a2 := cloneApp (sz := 4) (bytes := 32) (cellsP (sz := 4) (m := s.P.length) (nl := s.np) (tg := s.tp) (cs := s.P.flatMap encG) (pg_len _) [bxS s, bz, .row 0 1 (s.R[v].2.2.map Ia)]) (by simp only [room]; omega)
  have a2' : appA 4 32 (.p (.sl (some false) true 0 [])) (.p (pvP s)) [bxS s, bz, .row 0 1 (s.R[v].2.2.map Ia)] = some (.row 3 0 0 s.P.length, [bxS s, bz, .row 0 1 (s.R[v].2.2.map Ia), .row 0 4 (s.P.flatMap encG)]) := a2
  have g03 : ([bxS s, bz, .row 0 1 (s.R[v].2.2.map Ia), .row 0 4 (s.P.flatMap encG)] : Heap)[0]? = some (bxS s) := rfl
  have c46 := call46 (a := a) hl61 hv hi rfl rfl hxx [] [bxS s, bz, .row 0 1 (s.R[v].2.2.map Ia), .row 0 4 (s.P.flatMap encG)]
  have h0 : Cx [bxS s, bz] [(0, bxS s), (1, bz)] [] := by
    refine ⟨fun q hq => ?_, fun _ h => (by cases h), .nil⟩
    simp at hq
    rcases hq with e | e <;> subst e <;> exact ⟨rfl, rfl⟩
  have h1 := (h0.newRow (sz := 1) (m := s.R[v].2.2.length) (cs := s.R[v].2.2.map Ia) (by simp)).newRow (sz := 4) (m := s.P.length) (cs := s.P.flatMap encG) (pg_len _)
  have h2 : Cx [bxS s, bz, .row 0 1 (s.R[v].2.2.map Ia), .row 0 4 (s.P.flatMap encG)] [(0, bxS s), (1, bz)] [lP (.row 3 0 0 s.P.length) s.P, lI (.row 2 0 0 s.R[v].2.2.length) s.R[v].2.2] := h1
  have hgd : s.R[v].2.2.getD (a / 4) 0 = s.R[v].2.2[a / 4] := by simp [List.getD, hi]
  by_cases he : cG (pgOf s.P s.R[v].2.2[a / 4]) (a % 4) = x
  · obtain ⟨t, k, f, fin, hf⟩ := tail53 hr hl16 (by omega) (.inr ⟨3, 0, rfl⟩) (by omega) h2
    refine ⟨t, k, f, ?_, by unfold RefRes; rw [hgd, if_pos he]; exact hf⟩
    rw [f47_eq]
    simp only [b1, b2, l1, fldA_ptr, ldR0 g0, idxW hv, ldW hv, a1', l2, ldP0 g02, a2', ldS0 g03, c46, he, eq_self, obs, oms, bin_add, bin_sub, bin_lss, bin_leq, bin_gtr, bin_geq, bin_eql, bin_neq, bin_eqlB, bin_neqB, un_not, cond_B, gd_B, gd_undef, gdH_B, gdH_undef, pickA_B, extractA_tup, lenA_sl, lenA_row, fldA_fp, fldA_ptr, fldA_rptr, List.getElem?_cons_zero, List.getElem?_cons_succ, decide_true, decide_false, if_true, if_false, Bool.true_eq_false, Bool.false_eq_true, Bool.not_true, Bool.not_false]
    exact fin
  · have m1 := arrNewG [bxS s, bz, .row 0 1 (s.R[v].2.2.map Ia), .row 0 4 (s.P.flatMap encG)]
    have m2 := arrStG [bxS s, bz, .row 0 1 (s.R[v].2.2.map Ia), .row 0 4 (s.P.flatMap encG)] [] zg
    have main : ∃ t k f, L47_32 [I a, .ptr 0 0, .ptr 1 0, .row 2 0 0 s.R[v].2.2.length, .row 3 0 0 s.P.length, .rptr 4 0 0, B (decide (setC (pgOf s.P s.R[v].2.2[a / 4]) (a % 4) x = zg)), I (-1), I 0] []
        ([bxS s, bz, .row 0 1 (s.R[v].2.2.map Ia), .row 0 4 (s.P.flatMap encG)] ++ [.row 0 1 (encG (setC (pgOf s.P s.R[v].2.2[a / 4]) (a % 4) x))]) = some ([avS t, I k, I f], []) ∧
        RefEnd (frP s.P s.U (setC (pgOf s.P s.R[v].2.2[a / 4]) (a % 4) x)) (rtR (ints s.R) (s.R[v].2.2.set (a / 4) (frN s.U (setC (pgOf s.P s.R[v].2.2[a / 4]) (a % 4) x)))) (rtN (ints s.R)) t k f := by
      have h3 := h2.newRow (sz := 1) (m := 4) (cs := encG (setC (pgOf s.P s.R[v].2.2[a / 4]) (a % 4) x)) rfl
      have h4 := h3.perm (List.perm_middle (l₁ := [lP (.row 3 0 0 s.P.length) s.P, lI (.row 2 0 0 s.R[v].2.2.length) s.R[v].2.2]) (l₂ := [])).symm
      generalize setC (pgOf s.P s.R[v].2.2[a / 4]) (a % 4) x = p' at *
      by_cases hz : p' = zg
      · rw [decide_eq_true hz]
        have hfr : frN s.U p' = -1 := if_pos hz
        have hfP : frP s.P s.U p' = s.P := if_pos hz
        obtain ⟨t, k, f, fin, hf⟩ := tail51 (n := -1) (a := a) (r := s.R[v].2.2) hr hl16 (by omega) (.inr ⟨3, 0, rfl⟩) (by omega) hi ha64 h4
        refine ⟨t, k, f, ?_, by rw [hfr, hfP]; exact hf⟩
        have lenP : ∀ H', lenA .slice (.row 3 0 0 s.P.length) H' = some (I s.P.length) := fun _ => rfl
        rw [L47_32_eq]
        by_cases h00 : (0 : Int) < s.P.length
        · simp only [lenP, h00, L47_47_eq, obs, oms, bin_add, bin_sub, bin_lss, bin_leq, bin_gtr, bin_geq, bin_eql, bin_neq, bin_eqlB, bin_neqB, un_not, cond_B, gd_B, gd_undef, gdH_B, gdH_undef, pickA_B, extractA_tup, lenA_sl, lenA_row, fldA_fp, fldA_ptr, fldA_rptr, List.getElem?_cons_zero, List.getElem?_cons_succ, decide_true, decide_false, if_true, if_false, Bool.true_eq_false, Bool.false_eq_true, Bool.not_true, Bool.not_false]
          exact fin
        · simp only [lenP, h00, L47_47_eq, obs, oms, bin_add, bin_sub, bin_lss, bin_leq, bin_gtr, bin_geq, bin_eql, bin_neq, bin_eqlB, bin_neqB, un_not, cond_B, gd_B, gd_undef, gdH_B, gdH_undef, pickA_B, extractA_tup, lenA_sl, lenA_row, fldA_fp, fldA_ptr, fldA_rptr, List.getElem?_cons_zero, List.getElem?_cons_succ, decide_true, decide_false, if_true, if_false, Bool.true_eq_false, Bool.false_eq_true, Bool.not_true, Bool.not_false]
          exact fin
      · rw [decide_eq_false hz]
        exact loop32 hr hl16 (by omega) (.inr ⟨3, 0, rfl⟩) hp hul hi ha64 hz h4 s.U.length 0 rfl (by omega) (by simp)
    obtain ⟨t, k, f, fin, hf⟩ := main
    refine ⟨t, k, f, ?_, by unfold RefRes; rw [hgd, if_neg he]; exact hf⟩
    have st := fun (k : Nat) (hk : k < 4) (z : Bool) (q : Pg) => step16 (a := a) hl61 x hv ha64 hi hxx hk (H := [bxS s, bz, .row 0 1 (s.R[v].2.2.map Ia), .row 0 4 (s.P.flatMap encG)]) rfl (.row 2 0 0 s.R[v].2.2.length) (.row 3 0 0 s.P.length) z q
    have s0 := st 0 (by omega) true zg
    have s1 := fun z q => st 1 (by omega) z q
    have s2 := fun z q => st 2 (by omega) z q
    have s3 := fun z q => st 3 (by omega) z q
    have e4 := (s0.trans (s1 _ _)).trans ((s2 _ _).trans (s3 _ _))
    rw [setC_all] at e4
    have hzz : ((((true && decide (cG (setC (pgOf s.P s.R[v].2.2[a / 4]) (a % 4) x) 0 = 0)) && decide (cG (setC (pgOf s.P s.R[v].2.2[a / 4]) (a % 4) x) 1 = 0)) && decide (cG (setC (pgOf s.P s.R[v].2.2[a / 4]) (a % 4) x) 2 = 0)) && decide (cG (setC (pgOf s.P s.R[v].2.2[a / 4]) (a % 4) x) 3 = 0)) = decide (setC (pgOf s.P s.R[v].2.2[a / 4]) (a % 4) x = zg) := by
      rw [Bool.eq_iff_iff, decide_eq_true_iff, pg_ext]
      simp [and_assoc]
    rw [hzz] at e4
    have last : L47_16 [I v, I a, I x, .ptr 0 0, .ptr 1 0, .row 2 0 0 s.R[v].2.2.length, .row 3 0 0 s.P.length, .rptr 4 0 0, B (decide (setC (pgOf s.P s.R[v].2.2[a / 4]) (a % 4) x = zg)), I ((3 + 1 : Nat) : Int)] []
        ([bxS s, bz, .row 0 1 (s.R[v].2.2.map Ia), .row 0 4 (s.P.flatMap encG)] ++ [.row 0 1 (encG (setC (pgOf s.P s.R[v].2.2[a / 4]) (a % 4) x))]) = some ([avS t, I k, I f], []) := by
      have h44 : ¬ (((3 + 1 : Nat) : Int) < 4) := by omega
      rw [L47_16_eq]
      simp only [h44, obs, oms, bin_add, bin_sub, bin_lss, bin_leq, bin_gtr, bin_geq, bin_eql, bin_neq, bin_eqlB, bin_neqB, un_not, cond_B, gd_B, gd_undef, gdH_B, gdH_undef, pickA_B, extractA_tup, lenA_sl, lenA_row, fldA_fp, fldA_ptr, fldA_rptr, List.getElem?_cons_zero, List.getElem?_cons_succ, decide_true, decide_false, if_true, if_false, Bool.true_eq_false, Bool.false_eq_true, Bool.not_true, Bool.not_false]
      exact fin
    rw [f47_eq]
    simp only [b1, b2, l1, fldA_ptr, ldR0 g0, idxW hv, ldW hv, a1', l2, ldP0 g02, a2', ldS0 g03, c46, he, buildZ, m1, m2, obs, oms, bin_add, bin_sub, bin_lss, bin_leq, bin_gtr, bin_geq, bin_eql, bin_neq, bin_eqlB, bin_neqB, un_not, cond_B, gd_B, gd_undef, gdH_B, gdH_undef, pickA_B, extractA_tup, lenA_sl, lenA_row, fldA_fp, fldA_ptr, fldA_rptr, List.getElem?_cons_zero, List.getElem?_cons_succ, decide_true, decide_false, if_true, if_false, Bool.true_eq_false, Bool.false_eq_true, Bool.not_true, Bool.not_false]
    exact e4.trans last
end
end Pa
end Go.Proofs.Ytkhbbjfdbbnojaa

set_option linter.unusedVariables false
set_option linter.unusedSimpArgs false
namespace Go.Proofs.Ytkhbbjfdbbnojaa
open Go Go.AM
namespace Pa

/-! ### The plain law: Set and Drop against the reference's -/
theorem cnt_app (R R2 : List (List Int)) (x : Int) : cnt (R ++ R2) x = cnt R x + cnt R2 x := by
  unfold cnt; rw [List.flatten_append, List.count_append]
theorem cnt_one (r : List Int) (x : Int) : cnt [r] x = r.count x := by simp [cnt]
theorem cnt_set {R : List (List Int)} {v : Nat} (h : v < R.length) (r : List Int) (x : Int) : cnt (R.set v r) x + R[v].count x = cnt R x + r.count x := by
  have e1 : R = R.take v ++ [R[v]] ++ R.drop (v + 1) := by
    rw [List.append_assoc, List.singleton_append, ← List.drop_eq_getElem_cons h, List.take_append_drop]
  have e2 : R.set v r = R.take v ++ [r] ++ R.drop (v + 1) := by
    rw [List.set_eq_take_append_cons_drop, if_pos h]; simp
  rw [e2]
  have e3 : cnt R x = cnt (R.take v ++ [R[v]] ++ R.drop (v + 1)) x := by rw [← e1]
  rw [e3, cnt_app, cnt_app, cnt_app, cnt_app, cnt_one, cnt_one]
  omega
theorem cnt_rt (R : List (List Int)) (r : List Int) (x : Int) : cnt (rtR R r) x = cnt R x + r.count x := by
  unfold rtR
  by_cases h : rtN R < R.length
  · rw [if_pos h]
    have h1 := cnt_set h r x
    have h2 := rt_emp h
    have h3 : R[rtN R] = [] := List.length_eq_zero_iff.mp h2
    rw [h3] at h1
    simpa using h1
  · rw [if_neg h, cnt_app, cnt_one]

theorem set_same {P : List Pg} {U : List Int} {R : List (List Int)} {r : List Int} {t t' : SD} {k f k' f' : Int} (hu : U.length = P.length)
    (h2 : ∀ (j : Nat) (h : j < U.length), U[j] = ((cnt R (j : Int) : Nat) : Int)) (h3 : ∀ (j : Nat) (h : j < P.length), cnt R (j : Int) = 0 → r.count (j : Int) = 0 → P[j] = zg)
    (hs : SetEnd P U R r t k f) (hr : RefEnd P (rtR R r) (rtN R) t' k' f') : Same t t' ∧ k = k' ∧ f = f' := by
  unfold SetEnd at hs
  unfold RefEnd at hr
  by_cases hb : P.length > 400 ∨ (rtR R r).length > 40
  · rw [if_pos hb] at hs hr
    obtain ⟨rfl, rfl, rfl⟩ := hs
    obtain ⟨rfl, rfl, rfl⟩ := hr
    exact ⟨⟨rfl, rfl, rfl⟩, rfl, rfl⟩
  · rw [if_neg hb] at hs hr
    obtain ⟨tP, tU, tR, rfl, rfl⟩ := hs
    obtain ⟨s2, sP, sR, tP', tU', tR', rfl, rfl⟩ := hr
    refine ⟨⟨?_, ?_, ?_⟩, rfl, rfl⟩
    · rw [tP, tP']
      apply List.ext_getElem (by rw [cP_len, sP])
      intro j h1 h1'
      rw [cP_get (by rw [sP]; exact h1), sR, cnt_rt]
      by_cases h0 : cnt R (j : Int) + r.count (j : Int) = 0
      · rw [if_pos h0, h3 j h1 (by omega) (by omega)]
      · rw [if_neg h0]; simp [sP]
    · rw [tU, tU']
      apply List.ext_getElem (by rw [addC_len, cntL_len, sP, hu])
      intro j h1 h1'
      rw [addC_len] at h1
      rw [addC_get h1, cntL_get (by rw [sP]; omega), sR, cnt_rt, h2 j h1]
      omega
    · rw [tR, tR', sR]

section
variable {s : SD}

theorem okU_get (h : chk s = 0) (j : Nat) (hj : j < s.U.length) : s.U[j] = ((cnt (ints s.R) (j : Int) : Nat) : Int) := by
  obtain ⟨hp, hr, hl, hR, hU⟩ := chk0 h
  have h1 := (hU j (Nat.zero_le _) (by omega)).1
  rw [List.getElem?_eq_getElem hj, Option.some.injEq] at h1
  exact h1
theorem okP_get (h : chk s = 0) (j : Nat) (hj : j < s.P.length) (h0 : cnt (ints s.R) (j : Int) = 0) : s.P[j] = zg := by
  obtain ⟨hp, hr, hl, hR, hU⟩ := chk0 h
  have h1 := (hU j (Nat.zero_le _) hj).2.mpr h0
  rw [List.getElem?_eq_getElem hj, Option.some.injEq] at h1
  exact h1
/-- No version has a page's number beyond the pages. -/
theorem cnt_out (h : chk s = 0) (j : Nat) (hj : s.P.length ≤ j) : cnt (ints s.R) (j : Int) = 0 := by
  obtain ⟨hp, hr, hl, hR, hU⟩ := chk0 h
  unfold cnt
  rw [List.count_eq_zero]
  intro hm
  obtain ⟨l, hl1, hl2⟩ := List.mem_flatten.mp hm
  have := ((hR l hl1).2 _ hl2).2
  omega
theorem count_set {r : List Int} {i : Nat} (hi : i < r.length) (x : Int) : (r.set i x).count x ≠ 0 := by
  intro h0
  rw [List.count_eq_zero] at h0
  exact h0 (List.mem_set hi x)

theorem set_res {row : List Int} {a : Nat} {x : Int} {t t' : SD} {k f k' f' : Int} (h : chk s = 0) (ha : a / 4 < row.length) (hs : SetRes s.P s.U (ints s.R) row a x t k f) (hr : RefRes s.P s.U (ints s.R) row a x t' k' f') : Same t t' ∧ k = k' ∧ f = f' := by
  obtain ⟨hp, hr', hul, hR, hU⟩ := chk0 h
  unfold SetRes at hs
  unfold RefRes at hr
  by_cases he : cG (pgOf s.P (row.getD (a / 4) 0)) (a % 4) = x
  · rw [if_pos he] at hs hr
    exact set_same hul (okU_get h) (fun j hj h0 _ => okP_get h j hj h0) hs hr
  · rw [if_neg he] at hs hr
    generalize setC (pgOf s.P (row.getD (a / 4) 0)) (a % 4) x = p at hs hr
    refine set_same ?_ ?_ ?_ hs hr
    · unfold frU frP
      by_cases hz : p = zg
      · rw [if_pos hz, if_pos hz, hul]
      · rw [if_neg hz, if_neg hz]
        by_cases hi : s.U.idxOf 0 < s.U.length
        · rw [if_pos hi, if_pos hi, List.length_set, hul]
        · rw [if_neg hi, if_neg hi]; simp [hul]
    · intro j hj
      by_cases hz : p = zg
      · have e : frU s.U p = s.U := if_pos hz
        simp only [e] at hj ⊢
        exact okU_get h j hj
      · by_cases hi : s.U.idxOf 0 < s.U.length
        · have e : frU s.U p = s.U := by rw [frU, if_neg hz, if_pos hi]
          simp only [e] at hj ⊢
          exact okU_get h j hj
        · have e : frU s.U p = s.U ++ [0] := by rw [frU, if_neg hz, if_neg hi]
          simp only [e] at hj ⊢
          by_cases hlt : j < s.U.length
          · rw [List.getElem_append_left hlt]; exact okU_get h j hlt
          · simp at hj
            have hje : j = s.U.length := by omega
            subst hje
            rw [cnt_out h _ (by omega)]
            simp
    · intro j hj h0 h00
      by_cases hz : p = zg
      · have e : frP s.P s.U p = s.P := if_pos hz
        simp only [e] at hj ⊢
        exact okP_get h j hj h0
      · have hfr : frN s.U p = ((s.U.idxOf 0 : Nat) : Int) := if_neg hz
        rw [hfr] at h00
        have hne : s.U.idxOf 0 ≠ j := fun e => by
          rw [← e] at h00
          exact count_set ha _ h00
        by_cases hi : s.U.idxOf 0 < s.U.length
        · have e : frP s.P s.U p = s.P.set (s.U.idxOf 0) p := by rw [frP, if_neg hz, if_pos hi]
          simp only [e] at hj ⊢
          rw [List.length_set] at hj
          rw [List.getElem_set_ne hne]
          exact okP_get h j hj h0
        · have e : frP s.P s.U p = s.P ++ [p] := by rw [frP, if_neg hz, if_neg hi]
          have hle := List.idxOf_le_length (a := (0 : Int)) (l := s.U)
          simp only [e] at hj ⊢
          simp at hj
          have hlt : j < s.P.length := by omega
          rw [List.getElem_append_left hlt]
          exact okP_get h j hlt h0

theorem drop_res {v : Nat} {t s2 t' : SD} (h : chk s = 0) (hv : v < s.R.length) (tP : t.P = zP s.P s.U s.R[v].2.2) (tU : t.U = subC s.U s.R[v].2.2) (tR : ints t.R = (ints s.R).set v [])
    (sP : s2.P = s.P) (sR : ints s2.R = (ints s.R).set v []) (tP' : t'.P = cP s2) (tU' : t'.U = cntL s2) (tR' : t'.R = s2.R) : Same t t' := by
  obtain ⟨hp, hr', hul, hR, hU⟩ := chk0 h
  have hil : (ints s.R).length = s.R.length := by simp [ints]
  have hat : (ints s.R)[v]'(by omega) = s.R[v].2.2 := by simp [ints]
  have hcnt : ∀ x : Int, cnt (ints s2.R) x + s.R[v].2.2.count x = cnt (ints s.R) x := by
    intro x
    have := cnt_set (R := ints s.R) (v := v) (by omega) [] x
    rw [hat] at this
    rw [sR]
    simpa using this
  refine ⟨?_, ?_, by rw [tR, tR', sR]⟩
  · rw [tP, tP']
    apply List.ext_getElem (by rw [zP_len, cP_len, sP])
    intro j h1 h1'
    rw [zP_len] at h1
    have hju : j < s.U.length := by omega
    have hg : s.U.getD j 0 = s.U[j] := by rw [List.getD_eq_getElem?_getD, List.getElem?_eq_getElem hju]; rfl
    have h2 := okU_get h j hju
    have h3 := hcnt (j : Int)
    rw [zP_get h1, cP_get (by rw [sP]; exact h1)]
    by_cases h0 : cnt (ints s2.R) (j : Int) = 0
    · rw [if_pos h0]
      by_cases hc : s.R[v].2.2.count (j : Int) = 0
      · rw [okP_get h j h1 (by omega)]
        split <;> rfl
      · rw [if_pos]
        unfold zc
        rw [decide_eq_true]
        exact ⟨hc, by rw [hg]; omega⟩
    · rw [if_neg h0, if_neg]
      · simp [sP]
      · unfold zc
        rw [hg, decide_eq_true_iff]
        omega
  · rw [tU, tU']
    apply List.ext_getElem (by rw [subC_len, cntL_len, sP, hul])
    intro j h1 h1'
    rw [subC_len] at h1
    have h2 := okU_get h j h1
    have h3 := hcnt (j : Int)
    rw [subC_get h1, cntL_get (by rw [sP]; omega), h2]
    omega
end
end Pa
end Go.Proofs.Ytkhbbjfdbbnojaa

set_option linter.unusedVariables false
set_option linter.unusedSimpArgs false
namespace Go.Proofs.Ytkhbbjfdbbnojaa
open Go Go.AM
namespace Pa

structure Bd (t : SD) : Prop where
  u : t.U.length < 2 ^ 63
  p : t.P.length < 2 ^ 63
  r : t.R.length < 2 ^ 63
  l : ∀ d ∈ t.R, d.2.2.length < 2 ^ 63
theorem eS_bd : Bd eS := ⟨by simp [eS], by simp [eS], by simp [eS], by intro d hd; simp [eS] at hd⟩
theorem rows_bd {t : SD} {R : List (List Int)} (e : ints t.R = R) (h : ∀ l ∈ R, l.length ≤ 16) : ∀ d ∈ t.R, d.2.2.length < 2 ^ 63 := by
  intro d hd
  have := h d.2.2 (by rw [← e]; exact List.mem_map.mpr ⟨d, hd, rfl⟩)
  omega
theorem rows_len {t : SD} {R : List (List Int)} (e : ints t.R = R) : t.R.length = R.length := by rw [← e]; simp [ints]
theorem rt_len (R : List (List Int)) (r : List Int) : (rtR R r).length ≤ R.length + 1 := by
  unfold rtR
  split
  · rw [List.length_set]; omega
  · simp
theorem rt_rows {R : List (List Int)} {r : List Int} (h : ∀ l ∈ R, l.length ≤ 16) (hr : r.length ≤ 16) : ∀ l ∈ rtR R r, l.length ≤ 16 := by
  intro l hl
  unfold rtR at hl
  split at hl
  · rcases List.mem_or_eq_of_mem_set hl with e | e
    · exact h l e
    · subst e; exact hr
  · rcases List.mem_append.mp hl with e | e
    · exact h l e
    · simp at e; subst e; exact hr
theorem setEnd_bd {P : List Pg} {U : List Int} {R : List (List Int)} {r : List Int} {t : SD} {k f : Int} (hs : SetEnd P U R r t k f) (hp : P.length < 1000) (hu : U.length < 1000) (hR : R.length < 1000) (hl : ∀ l ∈ R, l.length ≤ 16) (hr : r.length ≤ 16) : Bd t := by
  unfold SetEnd at hs
  split at hs
  · obtain ⟨rfl, -, -⟩ := hs; exact eS_bd
  · obtain ⟨tP, tU, tR, -, -⟩ := hs
    have := rt_len R r
    exact ⟨by rw [tU, addC_len]; omega, by rw [tP]; omega, by rw [rows_len tR]; omega, rows_bd tR (rt_rows hl hr)⟩

section
variable {s : SD}
theorem fr_len {P : List Pg} {U : List Int} (p : Pg) : (frP P U p).length ≤ P.length + 1 ∧ (frU U p).length ≤ U.length + 1 := by
  unfold frP frU
  constructor
  · split
    · omega
    · split
      · rw [List.length_set]; omega
      · simp
  · split
    · omega
    · split
      · omega
      · simp
theorem setRes_bd {a : Nat} {x : Int} {row : List Int} {t : SD} {k f : Int} (h : chk s = 0) (hrow : row.length ≤ 16) (hs : SetRes s.P s.U (ints s.R) row a x t k f) : Bd t := by
  obtain ⟨hp, hr, hul, hR, hU⟩ := chk0 h
  have hil : (ints s.R).length = s.R.length := by simp [ints]
  have hl : ∀ l ∈ ints s.R, l.length ≤ 16 := fun l hl => by have := (hR l hl).1; omega
  unfold SetRes at hs
  split at hs
  · exact setEnd_bd hs (by omega) (by omega) (by omega) hl hrow
  · have := fr_len (P := s.P) (U := s.U) (setC (pgOf s.P (row.getD (a / 4) 0)) (a % 4) x)
    exact setEnd_bd hs (by omega) (by omega) (by omega) hl (by rw [List.length_set]; exact hrow)

theorem pureSn (H : Heap) (xs : List PV) : pureArgs H (avS s :: xs.map .p) = some (avS s :: xs.map .p, false) := by
  have h1 : ∀ xs : List PV, pureLeaves H (xs.map .p) = some (xs.map .p, false) := by
    intro xs
    induction xs with
    | nil => rfl
    | cons x xs ih => simp [pureLeaves, pureLeaf, ih]
  have h2 : ∀ xs : List PV, pureArgs H (xs.map .p) = some (xs.map .p, false) := by
    intro xs
    induction xs with
    | nil => rfl
    | cons x xs ih => simp [pureArgs, pureArg, pureLeaf, ih]
  simp only [pureArgs, pureArg, avS, h1, h2, oms, obs]
  rfl
theorem pureSS (H : Heap) (t : SD) : pureArgs H [avS s, avS t] = some ([avS s, avS t], false) := by
  have h1 : ∀ xs : List PV, pureLeaves H (xs.map .p) = some (xs.map .p, false) := by
    intro xs
    induction xs with
    | nil => rfl
    | cons x xs ih => simp [pureLeaves, pureLeaf, ih]
  simp only [pureArgs, pureArg, avS, h1, oms, obs]
  rfl
theorem call51 {t t' : SD} (h : Bd t) (hs : Same t t') (lo : List Nat) (H : Heap) : callA cfg O 51 [avS t, avS t'] lo H = some (B true, H) := by
  have e := ent51 (s2 := t') h.u h.p h.r h.l
  rw [dec_iff.mpr hs] at e
  exact callA_args (H' := []) (rs := [B true]) rfl (pureSS H t') e rfl

/-- All that is compared at the end is the same. -/
theorem end39 (hl : ∀ d ∈ s.R, d.2.2.length < 2 ^ 63) {t d t' d' : SD} {n e k f g m h w : Int} (bt : Bd t) (bd : Bd d) (st : Same t t') (sd : Same d d') (hw : g = w) :
    L7_39 [.ptr 0 0, I n, I e, .ptr 1 0, I k, I f, .ptr 2 0, I g, I m, I h, I (chk s), I w, I e, I f, I h, .ptr 3 0, .ptr 4 0, I n, I k, I m] [] [bxS s, bxS t, bxS d, bxS t', bxS d'] = some ([B true], []) := by
  subst hw
  have g0 : ([bxS s, bxS t, bxS d, bxS t', bxS d'] : Heap)[0]? = some (bxS s) := rfl
  have g1 : ([bxS s, bxS t, bxS d, bxS t', bxS d'] : Heap)[1]? = some (bxS t) := rfl
  have g2 : ([bxS s, bxS t, bxS d, bxS t', bxS d'] : Heap)[2]? = some (bxS d) := rfl
  have g3 : ([bxS s, bxS t, bxS d, bxS t', bxS d'] : Heap)[3]? = some (bxS t') := rfl
  have g4 : ([bxS s, bxS t, bxS d, bxS t', bxS d'] : Heap)[4]? = some (bxS d') := rfl
  have c50 := call50 hl [] [bxS s, bxS t, bxS d, bxS t', bxS d']
  have c1 := call51 bt st [] [bxS s, bxS t, bxS d, bxS t', bxS d']
  have c2 := call51 bd sd [] [bxS s, bxS t, bxS d, bxS t', bxS d']
  rw [L7_39_eq]
  simp only [ldS0 g0, c50, ldS0 g1, ldS0 g2, ldS0 g3, ldS0 g4, c1, c2, eq_self, obs, oms, bin_add, bin_sub, bin_lss, bin_leq, bin_gtr, bin_geq, bin_eql, bin_neq, bin_eqlB, bin_neqB, un_not, cond_B, gd_B, gd_undef, gdH_B, gdH_undef, pickA_B, extractA_tup, lenA_sl, lenA_row, fldA_fp, fldA_ptr, fldA_rptr, List.getElem?_cons_zero, List.getElem?_cons_succ, decide_true, decide_false, if_true, if_false, Bool.true_eq_false, Bool.false_eq_true, Bool.not_true, Bool.not_false]
  rfl
end
end Pa
end Go.Proofs.Ytkhbbjfdbbnojaa
