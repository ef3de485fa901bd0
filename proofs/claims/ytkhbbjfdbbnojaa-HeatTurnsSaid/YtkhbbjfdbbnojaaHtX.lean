import Derived.Test.YtkhbbjfdbbnojaaHtW
set_option linter.unusedVariables false
set_option linter.unusedSimpArgs false
namespace Go.Proofs.Ytkhbbjfdbbnojaa
open Go Go.AM
namespace Ht

/-! ### Lists compared -/
theorem ent61 {n1 n2 : Option Bool} {t1 t2 : Bool} {a : List Int} (ha : a.length < 2 ^ 40) : O.ent 61 [V n1 t1 a, V n2 t2 a] [] [] = some ([B true], []) := by
  have go : ∀ (t i : Nat), a.length - i = t → i ≤ a.length → L61_10 [V n2 t2 a, V n1 t1 a, I a.length, I i] [] [] = some ([B true], []) := by
    intro t
    induction t with
    | zero =>
      intro i ht hi
      have : i = a.length := by omega
      subst this
      rw [L61_10_eq]
      simp only [Int.lt_irrefl, obs, oms, bin_add, bin_sub, bin_lss, bin_leq, bin_gtr, bin_geq, bin_eql, bin_neq, bin_eqlB, bin_neqB, un_not, cond_B, gd_B, gd_undef, gdH_B, gdH_undef, pickA_B, extractA_tup, lenA_sl, lenA_row, fldA_fp, fldA_ptr, fldA_rptr, List.getElem?_cons_zero, List.getElem?_cons_succ, decide_true, decide_false, if_true, if_false, Bool.true_eq_false, Bool.false_eq_true, Bool.not_true, Bool.not_false]
      rfl
    | succ t ih =>
      intro i ht hi
      have hi' : i < a.length := by omega
      have hlt : (i : Int) < a.length := by omega
      rw [L61_10_eq]
      simp only [hlt, idxV hi', ldV hi', obs, oms, bin_add, bin_sub, bin_lss, bin_leq, bin_gtr, bin_geq, bin_eql, bin_neq, bin_eqlB, bin_neqB, un_not, cond_B, gd_B, gd_undef, gdH_B, gdH_undef, pickA_B, extractA_tup, lenA_sl, lenA_row, fldA_fp, fldA_ptr, fldA_rptr, List.getElem?_cons_zero, List.getElem?_cons_succ, decide_true, decide_false, if_true, if_false, Bool.true_eq_false, Bool.false_eq_true, Bool.not_true, Bool.not_false]
      rw [wrap_id (by omega), nxt]
      exact ih (i + 1) (by omega) (by omega)
  rw [f61_eq]
  simp only [obs, oms, bin_add, bin_sub, bin_lss, bin_leq, bin_gtr, bin_geq, bin_eql, bin_neq, bin_eqlB, bin_neqB, un_not, cond_B, gd_B, gd_undef, gdH_B, gdH_undef, pickA_B, extractA_tup, lenA_sl, lenA_row, fldA_fp, fldA_ptr, fldA_rptr, List.getElem?_cons_zero, List.getElem?_cons_succ, decide_true, decide_false, if_true, if_false, Bool.true_eq_false, Bool.false_eq_true, Bool.not_true, Bool.not_false]
  exact go _ 0 rfl (by omega)

theorem neqH (x : Hd) : bin .neq (.agg 6 [(0, .int), (1, .int), (2, .int), (3, .int), (4, .int), (5, .int)]) (avH x) (avH x) = some (B false) := by
  obtain ⟨a, b, c, m, f, s⟩ := x
  show some (B !((a == a) && ((b == b) && ((c == c) && ((m == m) && ((f == f) && ((s == s) && true))))))) = _
  simp

theorem ent62 {n1 n2 : Option Bool} {t1 t2 : Bool} {a : List Hd} (ha : a.length < 2 ^ 40) : O.ent 62 [Rw encH n1 t1 a, Rw encH n2 t2 a] [] [] = some ([B true], []) := by
  have go : ∀ (t i : Nat) (H : Heap), a.length - i = t → i ≤ a.length → L62_10 [Rw encH n2 t2 a, Rw encH n1 t1 a, I a.length, I i] [] H = some ([B true], []) := by
    intro t
    induction t with
    | zero =>
      intro i H ht hi
      have : i = a.length := by omega
      subst this
      rw [L62_10_eq]
      simp only [Int.lt_irrefl, obs, oms, bin_add, bin_sub, bin_lss, bin_leq, bin_gtr, bin_geq, bin_eql, bin_neq, bin_eqlB, bin_neqB, un_not, cond_B, gd_B, gd_undef, gdH_B, gdH_undef, pickA_B, extractA_tup, lenA_sl, lenA_row, fldA_fp, fldA_ptr, fldA_rptr, List.getElem?_cons_zero, List.getElem?_cons_succ, decide_true, decide_false, if_true, if_false, Bool.true_eq_false, Bool.false_eq_true, Bool.not_true, Bool.not_false]
      rfl
    | succ t ih =>
      intro i H ht hi
      have hi' : i < a.length := by omega
      have hlt : (i : Int) < a.length := by omega
      have hld : ∀ H, ld true 6 (.fp (a.flatMap encH) (i * 6)) H = some (avH a[i]) := fun H => ldR lenH hi' H
      rw [L62_10_eq]
      simp only [hlt, idxR hi', hld, box6, st6, ld6, neqH, obs, oms, bin_add, bin_sub, bin_lss, bin_leq, bin_gtr, bin_geq, bin_eql, bin_neq, bin_eqlB, bin_neqB, un_not, cond_B, gd_B, gd_undef, gdH_B, gdH_undef, pickA_B, extractA_tup, lenA_sl, lenA_row, fldA_fp, fldA_ptr, fldA_rptr, List.getElem?_cons_zero, List.getElem?_cons_succ, decide_true, decide_false, if_true, if_false, Bool.true_eq_false, Bool.false_eq_true, Bool.not_true, Bool.not_false]
      rw [wrap_id (by omega), nxt]
      exact ih (i + 1) _ (by omega) (by omega)
  rw [f62_eq]
  simp only [obs, oms, bin_add, bin_sub, bin_lss, bin_leq, bin_gtr, bin_geq, bin_eql, bin_neq, bin_eqlB, bin_neqB, un_not, cond_B, gd_B, gd_undef, gdH_B, gdH_undef, pickA_B, extractA_tup, lenA_sl, lenA_row, fldA_fp, fldA_ptr, fldA_rptr, List.getElem?_cons_zero, List.getElem?_cons_succ, decide_true, decide_false, if_true, if_false, Bool.true_eq_false, Bool.false_eq_true, Bool.not_true, Bool.not_false]
  exact go _ 0 [] rfl (by omega)

/-! ### A new one -/
theorem ent56 {hot : Int} (h : 1 ≤ hot ∧ hot ≤ 1000) (lo : List Nat) (H : Heap) : O.ent 56 [I hot] lo H = some ([.ptr (H ++ [mapObj encK [] 0]).length 0, I 0], H ++ [mapObj encK [] 0] ++ [.box [I hot, .mp H.length]]) := by
  have h1 : ¬ hot < 1 := by omega
  have h2 : ¬ 1000 < hot := by omega
  rw [f56_eq]
  simp only [h1, h2, obs, oms, bin_add, bin_sub, bin_lss, bin_leq, bin_gtr, bin_geq, bin_eql, bin_neq, bin_eqlB, bin_neqB, un_not, cond_B, gd_B, gd_undef, gdH_B, gdH_undef, pickA_B, extractA_tup, lenA_sl, lenA_row, fldA_fp, fldA_ptr, fldA_rptr, List.getElem?_cons_zero, List.getElem?_cons_succ, decide_true, decide_false, if_true, if_false, Bool.true_eq_false, Bool.false_eq_true, Bool.not_true, Bool.not_false]
  rfl
theorem ent56b {hot : Int} (h : hot < 1 ∨ 1000 < hot) (lo : List Nat) (H : Heap) : O.ent 56 [I hot] lo H = some ([.p (.v (.pointer none)), I 1], H) := by
  rw [f56_eq]
  by_cases h1 : hot < 1
  · simp only [h1, obs, oms, bin_add, bin_sub, bin_lss, bin_leq, bin_gtr, bin_geq, bin_eql, bin_neq, bin_eqlB, bin_neqB, un_not, cond_B, gd_B, gd_undef, gdH_B, gdH_undef, pickA_B, extractA_tup, lenA_sl, lenA_row, fldA_fp, fldA_ptr, fldA_rptr, List.getElem?_cons_zero, List.getElem?_cons_succ, decide_true, decide_false, if_true, if_false, Bool.true_eq_false, Bool.false_eq_true, Bool.not_true, Bool.not_false]; rfl
  · have h2 : 1000 < hot := by omega
    simp only [h1, h2, obs, oms, bin_add, bin_sub, bin_lss, bin_leq, bin_gtr, bin_geq, bin_eql, bin_neq, bin_eqlB, bin_neqB, un_not, cond_B, gd_B, gd_undef, gdH_B, gdH_undef, pickA_B, extractA_tup, lenA_sl, lenA_row, fldA_fp, fldA_ptr, fldA_rptr, List.getElem?_cons_zero, List.getElem?_cons_succ, decide_true, decide_false, if_true, if_false, Bool.true_eq_false, Bool.false_eq_true, Bool.not_true, Bool.not_false]; rfl
theorem cxNew (hot : Int) (H : Heap) {ls : List Ll} (hC : Cx H [] ls) : Cx (H ++ [mapObj encK [] 0] ++ [.box [I hot, .mp H.length]]) (own (H ++ [mapObj encK [] 0]).length H.length hot [] 0) ls := by
  have h1 := hC.newObj (mapObj encK [] 0) rfl
  have h2 := h1.newObj (.box [I hot, .mp H.length]) rfl
  exact h2.mono (fun q hq => by simp at hq ⊢; rcases hq with e | e <;> simp [e]) (List.Sublist.refl _)

theorem m59 : cfg.mode 59 = 1 := rfl
theorem m58 : cfg.mode 58 = 1 := rfl
theorem m56 : cfg.mode 56 = 1 := rfl

theorem call57 (lo : List Nat) (H : Heap) : callA cfg O 57 [] lo H = some (B true, H) := by
  refine callA_pure (xs := []) (H' := []) (rs := [B true]) rfl ?_ rfl
  show O.ent 57 [] [] [] = _
  rw [f57_eq]
  have c56 : callA cfg O 56 [I 2] [] [] = _ := callA_keep m56 (ent56 (hot := 2) (by omega) [] [])
  have hC0 := cxNew 2 [] (Cx.nil [])
  generalize ([] : Heap) ++ [mapObj encK [] 0] ++ [.box [I 2, .mp ([] : Heap).length]] = G0 at hC0 c56
  have hne : (([] : Heap) ++ [mapObj encK [] 0]).length ≠ ([] : Heap).length := by simp
  generalize (([] : Heap) ++ [mapObj encK [] 0]).length = hb at hC0 c56 hne
  generalize ([] : Heap).length = mid at hC0 hne
  obtain ⟨G1, k1, c1, e1, hC1, w1, mi1⟩ := ent59 (l := []) hC0 hne .nil (List.Perm.refl _) (fun _ h => by cases h) (by omega) (0, 3) []
  have g1 : ∀ x ∈ (turn 2 [] (0, 3)).1, GH x := turn_good (by omega) (fun _ h => by cases h) _
  obtain ⟨G2, k2, c2, e2, hC2, w2, mi2⟩ := ent59 hC1 hne w1 mi1 g1 (by omega) (0, 3) []
  have g2 : ∀ x ∈ (turn 2 (turn 2 [] (0, 3)).1 (0, 3)).1, GH x := turn_good (by omega) g1 _
  obtain ⟨G3, k3, c3, e3, hC3, w3, mi3⟩ := ent58 hC2 hne w2 mi2 g2 (0, 3) true []
  have v1 : (turn 2 [] (0, 3)).2.1 = 0 := by decide
  have v2 : (turn 2 (turn 2 [] (0, 3)).1 (0, 3)).2.1 = 1 := by decide
  have v3 : (taken (turn 2 (turn 2 [] (0, 3)).1 (0, 3)).1 (0, 3) true).2 = 0 := by decide
  rw [v1] at e1
  rw [v2] at e2
  rw [v3] at e3
  have c59 : callA cfg O 59 [.ptr hb 0, I 0, I 3] [] G0 = _ := callA_keep m59 e1
  have c59' : callA cfg O 59 [.ptr hb 0, I 0, I 3] [] G1 = _ := callA_keep m59 e2
  have c58 : callA cfg O 58 [.ptr hb 0, I 0, I 3, B true] [] G2 = _ := callA_keep m58 e3
  have pn : bin .eql .ptr (.ptr hb 0) (.p (.v (.pointer none))) = some (B false) := rfl
  simp only [c56, c59, c59', c58, ret, ex0, ex1, pn, obs, oms, bin_add, bin_sub, bin_lss, bin_leq, bin_gtr, bin_geq, bin_eql, bin_neq, bin_eqlB, bin_neqB, un_not, cond_B, gd_B, gd_undef, gdH_B, gdH_undef, pickA_B, extractA_tup, lenA_sl, lenA_row, fldA_fp, fldA_ptr, fldA_rptr, List.getElem?_cons_zero, List.getElem?_cons_succ, decide_true, decide_false, if_true, if_false, Bool.true_eq_false, Bool.false_eq_true, Bool.not_true, Bool.not_false]
  rfl

section
variable {hot : Int} {nl : Option Bool} {tg : Bool} {cs : List C3}

theorem call60 (h0 : 1 ≤ hot ∧ hot ≤ 1000) (hn : cs.length ≤ 300) (lo : List Nat) (H : Heap) : ∃ n1 t1 n2 t2, callA cfg O 60 [I hot, Rw enc3 nl tg cs] lo H = some (.tup [V n1 t1 (heads hot cs).1, Rw encH n2 t2 (heads hot cs).2], H) ∧ Srt (heads hot cs).2 ∧ (∀ x ∈ (heads hot cs).2, GH x) := by
  obtain ⟨n1, t1, n2, t2, e, hs, hg⟩ := ent60 (nl := nl) (tg := tg) h0 hn
  exact ⟨n1, t1, n2, t2, callA_pure (xs := [Ia hot, .sl nl tg cs.length (cs.flatMap enc3)]) (rs := [V n1 t1 (heads hot cs).1, Rw encH n2 t2 (heads hot cs).2]) rfl e rfl, hs, hg⟩

def fold (hot : Int) (cs : List C3) (s : List Int × List Hd) : List Int × List Hd := cs.foldl (fun s c => (s.1 ++ [(hstep hot s.2 c).2], (hstep hot s.2 c).1)) s
theorem fold_len (hot : Int) : ∀ (cs : List C3) (s : List Int × List Hd), (fold hot cs s).1.length = s.1.length + cs.length ∧ (s.2.length ≤ 100 → (fold hot cs s).2.length ≤ 100) := by
  intro cs
  induction cs with
  | nil => intro s; exact ⟨by simp [fold], fun h => h⟩
  | cons c cs ih =>
    intro s
    have := ih (s.1 ++ [(hstep hot s.2 c).2], (hstep hot s.2 c).1)
    unfold fold at this ⊢
    rw [List.foldl_cons]
    refine ⟨by rw [this.1]; simp; omega, fun h => this.2 (step_len h c)⟩

theorem loop9 (h0 : 1 ≤ hot ∧ hot ≤ 1000) (hn : cs.length ≤ 300) {hb mid : Nat} (hne : hb ≠ mid) : ∀ (t i : Nat) (H : Heap) (kvs : List (Kv K2)) (c : Nat) (l : List Hd) (o7 : AV) (out : List Int), cs.length - i = t → i ≤ cs.length → out.length ≤ i → l.length ≤ 100 →
    fold hot (cs.drop i) (out, l) = heads hot cs → Cx H (own hb mid hot kvs c) [oL o7 out] → WfM kvs c → MI kvs l → (∀ x ∈ l, GH x) →
    L9_20 [I hot, Rw enc3 nl tg cs, .ptr hb 0, o7, I cs.length, I i] [] H = some ([B true], []) := by
  intro t
  induction t with
  | zero =>
    intro i H kvs c l o7 out ht hi hol hl hf hC hw hm hg
    have : i = cs.length := by omega
    subst this
    rw [List.drop_length] at hf
    have e1 : out = (heads hot cs).1 := congrArg Prod.fst hf
    have e2 : l = (heads hot cs).2 := congrArg Prod.snd hf
    obtain ⟨n1, t1, n2, t2, c60, hs, hg2⟩ := call60 (nl := nl) (tg := tg) h0 hn [] H
    rw [← e1, ← e2] at c60
    rw [← e2] at hs
    rw [L9_20_eq]
    have hLst : Lst 1 o7 H out.length (out.map Ia) := hC.lst (oL o7 out) (by simp)
    obtain ⟨n3, t3, q, ep⟩ := pureLst hLst
    have c61 : callA cfg O 61 [o7, V n1 t1 out] [] H = some (B true, H) := by
      refine callA_rows (H' := []) (rs := [B true]) (ys := [V n3 t3 out, V n1 t1 out]) (b := q || (false || false)) rfl ?_ (ent61 (by omega)) rfl rfl
      simp only [pureArgs, ep, obs, oms]
      rfl
    have hM : H[mid]? = some (mapObj encK kvs c) := hC.at (by simp)
    have hB : H[hb]? = some (.box [I hot, .mp mid]) := hC.at (by simp)
    have hmid := getElem?_lt hM
    have c63 : callA cfg O 63 [.ptr hb 0] [] H = some (if l = [] then .p nilS else Rw encH (some false) false l, H) := by
      have e : O.ent 63 [.ptr hb 0] [] H = some ([if l = [] then .p nilS else Rw encH (some false) false l], H) := by
        rw [f63_eq]
        have hmp : ld false 1 (.ptr hb (0 + 1)) H = some (.mp mid) := by rw [ld_box hB]; rfl
        have hleft : left kvs [] = kvs := by unfold left; simp
        simp only [nilP, fldA_ptr, hmp, map_range hM, obs]
        refine loop63 (l := l) hM hw hs hl [] (left kvs []).length _ (.p nilS) [] l [] rfl (by rw [List.take_append_of_le_length (Nat.le_refl _), List.take_length]) (by simp) (by simp) (.inl ⟨rfl, rfl⟩) (List.Perm.refl _) (by rw [hleft]; exact hm)
      have hm2 : cfg.mode 63 = 2 := rfl
      unfold callA
      rw [hm2]
      simp only [e, oms, ret]
    have c62 : ∀ n3 t3, callA cfg O 62 [Rw encH n3 t3 l, Rw encH n2 t2 l] [] H = some (B true, H) := fun n3 t3 => callA_pure (xs := [.sl n3 t3 l.length (l.flatMap encH), .sl n2 t2 l.length (l.flatMap encH)]) (H' := []) (rs := [B true]) rfl (ent62 (by omega)) rfl
    have c62' : callA cfg O 62 [if l = [] then .p nilS else Rw encH (some false) false l, Rw encH n2 t2 l] [] H = some (B true, H) := by
      split
      · rename_i e
        have := c62 (some true) true
        rw [e] at this ⊢
        exact this
      · exact c62 _ _
    simp only [Int.lt_irrefl, c60, ex0, ex1, call57, c61, c63, c62', obs, oms, bin_add, bin_sub, bin_lss, bin_leq, bin_gtr, bin_geq, bin_eql, bin_neq, bin_eqlB, bin_neqB, un_not, cond_B, gd_B, gd_undef, gdH_B, gdH_undef, pickA_B, extractA_tup, lenA_sl, lenA_row, fldA_fp, fldA_ptr, fldA_rptr, List.getElem?_cons_zero, List.getElem?_cons_succ, decide_true, decide_false, if_true, if_false, Bool.true_eq_false, Bool.false_eq_true, Bool.not_true, Bool.not_false]
    rfl
  | succ t ih =>
    intro i H kvs c l o7 out ht hi hol hl hf hC hw hm hg
    have hi' : i < cs.length := by omega
    have hlt : (i : Int) < cs.length := by omega
    rw [List.drop_eq_getElem_cons hi'] at hf
    generalize hc : cs[i] = k at hf
    have hf2 : fold hot (cs.drop (i + 1)) (out ++ [(hstep hot l k).2], (hstep hot l k).1) = heads hot cs := hf
    have hA : ld true 3 (.fp (cs.flatMap enc3) (i * 3)) H = some (.agg ((enc3 k).map .p)) := by rw [ldR len3 hi', hc]
    rw [L9_20_eq]
    simp only [hlt, idxR hi', hA, arrNew, arrSt, obs, oms, bin_add, bin_sub, bin_lss, bin_leq, bin_gtr, bin_geq, bin_eql, bin_neq, bin_eqlB, bin_neqB, un_not, cond_B, gd_B, gd_undef, gdH_B, gdH_undef, pickA_B, extractA_tup, lenA_sl, lenA_row, fldA_fp, fldA_ptr, fldA_rptr, List.getElem?_cons_zero, List.getElem?_cons_succ, decide_true, decide_false, if_true, if_false, Bool.true_eq_false, Bool.false_eq_true, Bool.not_true, Bool.not_false]
    have hC2 : Cx (H ++ [.row 0 1 (enc3 k)]) (own hb mid hot kvs c) [oL o7 out, cL H.length k] := by
      have := hC.newRow (sz := 1) (m := 3) (cs := enc3 k) rfl
      exact this.perm (List.Perm.swap _ _ _)
    have ho : (H ++ [.row 0 1 (enc3 k)])[H.length]? = some (.row 0 1 (enc3 k)) := by simp
    have d0 : ld false 1 (.rptr H.length 0 0) (H ++ [.row 0 1 (enc3 k)]) = some (I k.1) := ld_row ho
    have d1 : ld false 1 (.rptr H.length 0 1) (H ++ [.row 0 1 (enc3 k)]) = some (I k.2.1) := ld_row ho
    have d2 : ld false 1 (.rptr H.length 0 2) (H ++ [.row 0 1 (enc3 k)]) = some (I k.2.2) := ld_row ho
    -- what is told is put down
    have on : ∀ (H : Heap) (kvs : List (Kv K2)) (c : Nat) (l' : List Hd) (z : Int), hstep hot l k = (l', z) → Cx H (own hb mid hot kvs c) [oL o7 out, cL H.length k] ∨ True → True := fun _ _ _ _ _ _ _ => trivial
    have app2 : ∀ (H : Heap) (kvs : List (Kv K2)) (c : Nat) (z : Int) (l2 : List Ll), Cx H (own hb mid hot kvs c) (oL o7 out :: l2) → ∃ o' H', appA 1 8 o7 (.p (.sl (some false) true 1 [Ia z])) H = some (o', H') ∧ Cx H' (own hb mid hot kvs c) [oL o' (out ++ [z])] := by
      intro H kvs c z l2 h
      obtain ⟨o', H', e, h, _⟩ := Cx.app (bytes := 8) (y := .p (.sl (some false) true 1 [Ia z])) [] h (cells1 _ _) rfl (by omega) (by simp only [room]; omega)
      refine ⟨o', H', e, ?_⟩
      have e2 : oL o' (out ++ [z]) = (o', 1, out.length + 1, out.map Ia ++ [Ia z]) := by simp
      rw [e2]; exact h.mono (fun _ h => h) (.cons_cons _ (List.nil_sublist _))
    have fin : ∀ (H : Heap) (kvs : List (Kv K2)) (c : Nat) (l' : List Hd) (z : Int) (o' : AV), hstep hot l k = (l', z) → Cx H (own hb mid hot kvs c) [oL o' (out ++ [z])] → WfM kvs c → MI kvs l' → L9_39 [I hot, Rw enc3 nl tg cs, .ptr hb 0, o', I cs.length, I i] [] H = some ([B true], []) := by
      intro H kvs c l' z o' he h1 h2 h3
      rw [L9_39_eq]
      simp only [obs, oms, bin_add, bin_sub, bin_lss, bin_leq, bin_gtr, bin_geq, bin_eql, bin_neq, bin_eqlB, bin_neqB, un_not, cond_B, gd_B, gd_undef, gdH_B, gdH_undef, pickA_B, extractA_tup, lenA_sl, lenA_row, fldA_fp, fldA_ptr, fldA_rptr, List.getElem?_cons_zero, List.getElem?_cons_succ, decide_true, decide_false, if_true, if_false, Bool.true_eq_false, Bool.false_eq_true, Bool.not_true, Bool.not_false]
      rw [wrap_id (by omega), nxt]
      rw [he] at hf2
      have hg' := step_good h0 hg k
      have hl' := step_len (hot := hot) hl k
      rw [he] at hg' hl'
      exact ih (i + 1) H kvs c l' o' (out ++ [z]) (by omega) (by omega) (by simp; omega) hl' hf2 h1 h2 h3 hg'
    by_cases hz : k.2.2 = 0
    · obtain ⟨H3, kvs', c', e59, hC3, w3, m3⟩ := ent59 hC2 hne hw hm hg h0 (kc k) []
      have c59 : callA cfg O 59 [.ptr hb 0, I k.1, I k.2.1] [] (H ++ [.row 0 1 (enc3 k)]) = _ := callA_keep m59 e59
      have est : hstep hot l k = ((turn hot l (kc k)).1, if (turn hot l (kc k)).2.2 = 0 then (turn hot l (kc k)).2.1 else - (turn hot l (kc k)).2.2) := by unfold hstep; rw [if_pos hz]
      by_cases he : (turn hot l (kc k)).2.2 = 0
      · rw [if_pos he] at est
        obtain ⟨o', H4, ea, hC4⟩ := app2 _ _ _ (turn hot l (kc k)).2.1 _ hC3
        have := fin _ _ _ _ _ _ est hC4 w3 m3
        simp only [arrI0, arrI1, arrI2, d0, d1, d2, hz, c59, ret, ex0, ex1, he, L9_37_eq, lit1, ea, obs, oms, bin_add, bin_sub, bin_lss, bin_leq, bin_gtr, bin_geq, bin_eql, bin_neq, bin_eqlB, bin_neqB, un_not, cond_B, gd_B, gd_undef, gdH_B, gdH_undef, pickA_B, extractA_tup, lenA_sl, lenA_row, fldA_fp, fldA_ptr, fldA_rptr, List.getElem?_cons_zero, List.getElem?_cons_succ, decide_true, decide_false, if_true, if_false, Bool.true_eq_false, Bool.false_eq_true, Bool.not_true, Bool.not_false]
        exact this
      · rw [if_neg he] at est
        have hrange : (turn hot l (kc k)).2.2 = 1 ∨ (turn hot l (kc k)).2.2 = 2 := by
          unfold turn at he ⊢
          split
          · exact .inl rfl
          · split
            · split
              · exact .inr rfl
              · rename_i q1 _ q2 q3
                rw [if_neg q1, q2] at he
                simp only [q3, if_false] at he
                first | exact (he rfl).elim | exact (he trivial).elim
            · rename_i q1 _ _ q2
              rw [if_neg q1, q2] at he
              first | exact (he rfl).elim | exact (he trivial).elim
        have hneg : un .neg (I (turn hot l (kc k)).2.2) = some (I (- (turn hot l (kc k)).2.2)) := by
          show some (I (IntKind.i64.wrap (0 - (turn hot l (kc k)).2.2))) = _
          rw [wrap_id (by omega)]
          congr 2
          omega
        obtain ⟨o', H4, ea, hC4⟩ := app2 _ _ _ (- (turn hot l (kc k)).2.2) _ hC3
        have := fin _ _ _ _ _ _ est hC4 w3 m3
        simp only [arrI0, arrI1, arrI2, d0, d1, d2, hz, c59, ret, ex0, ex1, he, hneg, L9_37_eq, lit1, ea, obs, oms, bin_add, bin_sub, bin_lss, bin_leq, bin_gtr, bin_geq, bin_eql, bin_neq, bin_eqlB, bin_neqB, un_not, cond_B, gd_B, gd_undef, gdH_B, gdH_undef, pickA_B, extractA_tup, lenA_sl, lenA_row, fldA_fp, fldA_ptr, fldA_rptr, List.getElem?_cons_zero, List.getElem?_cons_succ, decide_true, decide_false, if_true, if_false, Bool.true_eq_false, Bool.false_eq_true, Bool.not_true, Bool.not_false]
        exact this
    · obtain ⟨H3, kvs', c', e58, hC3, w3, m3⟩ := ent58 hC2 hne hw hm hg (kc k) (decide (k.2.2 = 1)) []
      have c58 : callA cfg O 58 [.ptr hb 0, I k.1, I k.2.1, B (decide (k.2.2 = 1))] [] (H ++ [.row 0 1 (enc3 k)]) = _ := callA_keep m58 e58
      have est : hstep hot l k = taken l (kc k) (decide (k.2.2 = 1)) := by unfold hstep; rw [if_neg hz]
      obtain ⟨o', H4, ea, hC4⟩ := app2 _ _ _ (taken l (kc k) (decide (k.2.2 = 1))).2 _ hC3
      have := fin _ _ _ _ _ _ est hC4 w3 m3
      simp only [arrI0, arrI1, arrI2, d0, d1, d2, hz, c58, ret, lit1, ea, obs, oms, bin_add, bin_sub, bin_lss, bin_leq, bin_gtr, bin_geq, bin_eql, bin_neq, bin_eqlB, bin_neqB, un_not, cond_B, gd_B, gd_undef, gdH_B, gdH_undef, pickA_B, extractA_tup, lenA_sl, lenA_row, fldA_fp, fldA_ptr, fldA_rptr, List.getElem?_cons_zero, List.getElem?_cons_succ, decide_true, decide_false, if_true, if_false, Bool.true_eq_false, Bool.false_eq_true, Bool.not_true, Bool.not_false]
      exact this

theorem law (hb : -9223372036854775808 ≤ hot ∧ hot < 9223372036854775808) : ∃ H', O.ent 9 [I hot, Rw enc3 nl tg cs] [] [] = some ([B true], H') := by
  refine ⟨[], ?_⟩
  rw [f9_eq]
  by_cases h : hot < 1 ∨ 1000 < hot
  · have c56 : callA cfg O 56 [I hot] [] [] = _ := callA_keep m56 (ent56b h [] [])
    have pn : bin .eql .ptr (.p (.v (.pointer none))) (.p (.v (.pointer none))) = some (B true) := rfl
    by_cases h1 : hot < 1
    · simp only [c56, ret, ex0, ex1, h1, call57, pn, obs, oms, bin_add, bin_sub, bin_lss, bin_leq, bin_gtr, bin_geq, bin_eql, bin_neq, bin_eqlB, bin_neqB, un_not, cond_B, gd_B, gd_undef, gdH_B, gdH_undef, pickA_B, extractA_tup, lenA_sl, lenA_row, fldA_fp, fldA_ptr, fldA_rptr, List.getElem?_cons_zero, List.getElem?_cons_succ, decide_true, decide_false, if_true, if_false, Bool.true_eq_false, Bool.false_eq_true, Bool.not_true, Bool.not_false]
      rfl
    · have h2 : 1000 < hot := by omega
      simp only [c56, ret, ex0, ex1, h1, h2, call57, pn, obs, oms, bin_add, bin_sub, bin_lss, bin_leq, bin_gtr, bin_geq, bin_eql, bin_neq, bin_eqlB, bin_neqB, un_not, cond_B, gd_B, gd_undef, gdH_B, gdH_undef, pickA_B, extractA_tup, lenA_sl, lenA_row, fldA_fp, fldA_ptr, fldA_rptr, List.getElem?_cons_zero, List.getElem?_cons_succ, decide_true, decide_false, if_true, if_false, Bool.true_eq_false, Bool.false_eq_true, Bool.not_true, Bool.not_false]
      rfl
  · have h0 : 1 ≤ hot ∧ hot ≤ 1000 := by omega
    have h1 : ¬ hot < 1 := by omega
    have h2 : ¬ 1000 < hot := by omega
    have c56 : callA cfg O 56 [I hot] [] [] = _ := callA_keep m56 (ent56 h0 [] [])
    have hC0 := cxNew hot [] ((Cx.nil []).newNil 1)
    have pn : ∀ n, bin .eql .ptr (.ptr n 0) (.p (.v (.pointer none))) = some (B false) := fun _ => rfl
    have hne : (([] : Heap) ++ [mapObj encK [] 0]).length ≠ ([] : Heap).length := by simp
    have hmin : bests false (I cs.length) [I 300] = some (I ((min cs.length 300 : Nat) : Int)) := by
      show some (I (if (300 : Int) < cs.length then 300 else (cs.length : Int))) = _
      by_cases q : (300 : Int) < cs.length
      · rw [if_pos q]; congr 2; omega
      · rw [if_neg q]; congr 2; omega
    have hcut := cutR_hi (nl := nl) (tg := tg) (l := cs) len3 (n := min cs.length 300) (by omega) (([] : Heap) ++ [mapObj encK [] 0] ++ [.box [I hot, .mp ([] : Heap).length]])
    have hl := loop9 (nl := nl) (tg := tg && decide (((min cs.length 300 : Nat) : Int) = cs.length)) (cs := cs.take (min cs.length 300)) h0 (by simp; omega) hne (cs.take (min cs.length 300)).length 0 _ [] 0 [] (.p nilS) [] (by omega) (by omega) (by simp) (by simp) (by rw [List.drop_zero]; rfl) hC0 .nil (List.Perm.refl _) (fun _ h => by cases h)
    simp only [c56, ret, ex0, ex1, h1, h2, pn, hmin, hcut, obs, oms, bin_add, bin_sub, bin_lss, bin_leq, bin_gtr, bin_geq, bin_eql, bin_neq, bin_eqlB, bin_neqB, un_not, cond_B, gd_B, gd_undef, gdH_B, gdH_undef, pickA_B, extractA_tup, lenA_sl, lenA_row, fldA_fp, fldA_ptr, fldA_rptr, List.getElem?_cons_zero, List.getElem?_cons_succ, decide_true, decide_false, if_true, if_false, Bool.true_eq_false, Bool.false_eq_true, Bool.not_true, Bool.not_false]
    exact hl
end

theorem extOk : ExtOk Try.prog cfg := by
  refine ExtOk.one (f := 116) (k := 6) (fun g q hg => ?_) ⟨_, Try.func116, by kernel_rfl, by kernel_rfl⟩ (sortC_of hsort Try.isAgg102 Try.sizeOf102) (sortN_of hsort)
  have h : AM.look g exts = some q := hg
  simp only [exts, AM.look] at h
  cases e : Nat.beq 116 g with
  | true => rw [e] at h; exact ⟨(Nat.eq_of_beq_eq_true e).symm, by simpa using h.symm⟩
  | false => rw [e] at h; simp at h
end Ht
end Go.Proofs.Ytkhbbjfdbbnojaa
