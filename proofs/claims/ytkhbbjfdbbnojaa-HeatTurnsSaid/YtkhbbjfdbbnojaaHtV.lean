import Derived.Test.YtkhbbjfdbbnojaaHtU
import Derived.Test.YtkhbbjfdbbnojaaAm29
set_option linter.unusedVariables false
set_option linter.unusedSimpArgs false
namespace Go.Proofs.Ytkhbbjfdbbnojaa
open Go Go.AM
namespace Ht

/-! ### Two heads compared -/
def cmp1 (a b : Int) : Int := if a < b then -1 else if b < a then 1 else 0
def cmpH (x y : Hd) : Int := if cmp1 x.1 y.1 = 0 then cmp1 x.2.1 y.2.1 else cmp1 x.1 y.1

theorem call119 (a b : Int) (lo : List Nat) (H : Heap) : callA cfg O 119 [I a, I b] lo H = some (I (cmp1 a b), H) := by
  have n1 : ∀ c : Int, callA cfg O 150 [I c] [] [] = some (B false, []) := fun c => by
    refine callA_pure (xs := [Ia c]) (H' := []) (rs := [B false]) rfl ?_ rfl
    show O.ent 150 [I c] [] [] = _
    rw [f150_eq]
    simp only [obs, oms, bin_add, bin_sub, bin_lss, bin_leq, bin_gtr, bin_geq, bin_eql, bin_neq, bin_eqlB, bin_neqB, un_not, cond_B, gd_B, gd_undef, gdH_B, gdH_undef, pickA_B, extractA_tup, lenA_sl, lenA_row, fldA_fp, fldA_ptr, fldA_rptr, List.getElem?_cons_zero, List.getElem?_cons_succ, decide_true, decide_false, if_true, if_false, Bool.true_eq_false, Bool.false_eq_true, Bool.not_true, Bool.not_false]
    rfl
  refine callA_pure (xs := [Ia a, Ia b]) (H' := []) (rs := [I (cmp1 a b)]) rfl ?_ rfl
  show O.ent 119 [I a, I b] [] [] = _
  rw [f119_eq]
  unfold cmp1
  simp only [n1, obs, oms, bin_add, bin_sub, bin_lss, bin_leq, bin_gtr, bin_geq, bin_eql, bin_neq, bin_eqlB, bin_neqB, un_not, cond_B, gd_B, gd_undef, gdH_B, gdH_undef, pickA_B, extractA_tup, lenA_sl, lenA_row, fldA_fp, fldA_ptr, fldA_rptr, List.getElem?_cons_zero, List.getElem?_cons_succ, decide_true, decide_false, if_true, if_false, Bool.true_eq_false, Bool.false_eq_true, Bool.not_true, Bool.not_false]
  by_cases h1 : a < b
  · simp only [h1, obs, oms, bin_add, bin_sub, bin_lss, bin_leq, bin_gtr, bin_geq, bin_eql, bin_neq, bin_eqlB, bin_neqB, un_not, cond_B, gd_B, gd_undef, gdH_B, gdH_undef, pickA_B, extractA_tup, lenA_sl, lenA_row, fldA_fp, fldA_ptr, fldA_rptr, List.getElem?_cons_zero, List.getElem?_cons_succ, decide_true, decide_false, if_true, if_false, Bool.true_eq_false, Bool.false_eq_true, Bool.not_true, Bool.not_false]; rfl
  · by_cases h2 : b < a
    · simp only [h1, h2, obs, oms, bin_add, bin_sub, bin_lss, bin_leq, bin_gtr, bin_geq, bin_eql, bin_neq, bin_eqlB, bin_neqB, un_not, cond_B, gd_B, gd_undef, gdH_B, gdH_undef, pickA_B, extractA_tup, lenA_sl, lenA_row, fldA_fp, fldA_ptr, fldA_rptr, List.getElem?_cons_zero, List.getElem?_cons_succ, decide_true, decide_false, if_true, if_false, Bool.true_eq_false, Bool.false_eq_true, Bool.not_true, Bool.not_false]; rfl
    · simp only [h1, h2, obs, oms, bin_add, bin_sub, bin_lss, bin_leq, bin_gtr, bin_geq, bin_eql, bin_neq, bin_eqlB, bin_neqB, un_not, cond_B, gd_B, gd_undef, gdH_B, gdH_undef, pickA_B, extractA_tup, lenA_sl, lenA_row, fldA_fp, fldA_ptr, fldA_rptr, List.getElem?_cons_zero, List.getElem?_cons_succ, decide_true, decide_false, if_true, if_false, Bool.true_eq_false, Bool.false_eq_true, Bool.not_true, Bool.not_false]; rfl

theorem call118 (a b : Int) (nl : Option Bool) (tg : Bool) (lo : List Nat) (H : Heap) : callA cfg O 118 [.p (.sl nl tg 2 [Ia a, Ia b])] lo H = some (I (if a = 0 then b else a), H) := by
  refine callA_pure (xs := [.sl nl tg 2 [Ia a, Ia b]]) (H' := []) (rs := [I (if a = 0 then b else a)]) rfl ?_ rfl
  show O.ent 118 [V nl tg [a, b]] [] [] = _
  have i0 := idxV (nl := nl) (tg := tg) (zs := [a, b]) (k := 0) (by simp)
  have i1 := idxV (nl := nl) (tg := tg) (zs := [a, b]) (k := 1) (by simp)
  have l0 := fun H => ldV (zs := [a, b]) (k := 0) (by simp) H
  have l1 := fun H => ldV (zs := [a, b]) (k := 1) (by simp) H
  rw [f118_eq]
  have h1 : (0 : Int) < (([a, b] : List Int).length : Nat) := by simp
  have h2 : (1 : Int) < (([a, b] : List Int).length : Nat) := by simp
  have h3 : ¬ (2 : Int) < (([a, b] : List Int).length : Nat) := by simp
  have w1 : IntKind.i64.wrap (0 + 1) = 1 := rfl
  have w2 : IntKind.i64.wrap (1 + 1) = 2 := rfl
  rw [show ((0 : Nat) : Int) = 0 from rfl] at i0
  rw [show ((1 : Nat) : Int) = 1 from rfl] at i1
  simp only [lenA_sl, obs]
  rw [L118_8_eq]
  by_cases ha : a = 0
  · subst ha
    simp only [h1, i0, l0, w1, List.getElem_cons_zero, obs, oms, bin_add, bin_sub, bin_lss, bin_leq, bin_gtr, bin_geq, bin_eql, bin_neq, bin_eqlB, bin_neqB, un_not, cond_B, gd_B, gd_undef, gdH_B, gdH_undef, pickA_B, extractA_tup, lenA_sl, lenA_row, fldA_fp, fldA_ptr, fldA_rptr, List.getElem?_cons_zero, List.getElem?_cons_succ, decide_true, decide_false, if_true, if_false, Bool.true_eq_false, Bool.false_eq_true, Bool.not_true, Bool.not_false]
    rw [L118_8_eq]
    by_cases hb : b = 0
    · subst hb
      simp only [h2, i1, l1, w2, List.getElem_cons_zero, List.getElem_cons_succ, obs, oms, bin_add, bin_sub, bin_lss, bin_leq, bin_gtr, bin_geq, bin_eql, bin_neq, bin_eqlB, bin_neqB, un_not, cond_B, gd_B, gd_undef, gdH_B, gdH_undef, pickA_B, extractA_tup, lenA_sl, lenA_row, fldA_fp, fldA_ptr, fldA_rptr, List.getElem?_cons_zero, List.getElem?_cons_succ, decide_true, decide_false, if_true, if_false, Bool.true_eq_false, Bool.false_eq_true, Bool.not_true, Bool.not_false]
      rw [L118_8_eq]
      simp only [h3, obs, oms, bin_add, bin_sub, bin_lss, bin_leq, bin_gtr, bin_geq, bin_eql, bin_neq, bin_eqlB, bin_neqB, un_not, cond_B, gd_B, gd_undef, gdH_B, gdH_undef, pickA_B, extractA_tup, lenA_sl, lenA_row, fldA_fp, fldA_ptr, fldA_rptr, List.getElem?_cons_zero, List.getElem?_cons_succ, decide_true, decide_false, if_true, if_false, Bool.true_eq_false, Bool.false_eq_true, Bool.not_true, Bool.not_false]
      rfl
    · simp only [h2, i1, l1, List.getElem_cons_zero, List.getElem_cons_succ, hb, obs, oms, bin_add, bin_sub, bin_lss, bin_leq, bin_gtr, bin_geq, bin_eql, bin_neq, bin_eqlB, bin_neqB, un_not, cond_B, gd_B, gd_undef, gdH_B, gdH_undef, pickA_B, extractA_tup, lenA_sl, lenA_row, fldA_fp, fldA_ptr, fldA_rptr, List.getElem?_cons_zero, List.getElem?_cons_succ, decide_true, decide_false, if_true, if_false, Bool.true_eq_false, Bool.false_eq_true, Bool.not_true, Bool.not_false]
      rfl
  · simp only [h1, i0, l0, List.getElem_cons_zero, ha, obs, oms, bin_add, bin_sub, bin_lss, bin_leq, bin_gtr, bin_geq, bin_eql, bin_neq, bin_eqlB, bin_neqB, un_not, cond_B, gd_B, gd_undef, gdH_B, gdH_undef, pickA_B, extractA_tup, lenA_sl, lenA_row, fldA_fp, fldA_ptr, fldA_rptr, List.getElem?_cons_zero, List.getElem?_cons_succ, decide_true, decide_false, if_true, if_false, Bool.true_eq_false, Bool.false_eq_true, Bool.not_true, Bool.not_false]
    rfl

theorem pureLs (H : Heap) : ∀ xs : List PV, pureLeaves H (xs.map .p) = some (xs.map .p, false) := by
  intro xs
  induction xs with
  | nil => rfl
  | cons x xs ih => simp [pureLeaves, pureLeaf, ih]

theorem callCmp (x y : Hd) (lo : List Nat) (H : Heap) : callV cfg O (.fn 117 [] []) [avH x, avH y] lo H = some (I (cmpH x y), H) := by
  show callA cfg O 117 [avH x, avH y] lo H = _
  refine callA_args (H' := []) (rs := [I (cmpH x y)]) rfl ?_ ?_ rfl
  · simp only [pureArgs, pureArg, avH, pureLs, oms, obs, Bool.or_false]
  · rw [f117_eq]
    have b1 : boxO [] (AV.cells (avH x)) [] = some (.ptr 0 0, [bxH x]) := boxO_p _ []
    have b2 : boxO [] (AV.cells (avH y)) [bxH x] = some (.ptr 1 0, [bxH x, bxH y]) := boxO_p _ _
    have l1 : ld false 1 (.ptr 0 (0 + 0)) [bxH x, bxH y] = some (I x.1) := by rw [ld_box (xs := (encH x).map .p) rfl]; rfl
    have l2 : ld false 1 (.ptr 1 (0 + 0)) [bxH x, bxH y] = some (I y.1) := by rw [ld_box (xs := (encH y).map .p) rfl]; rfl
    have l3 : ld false 1 (.ptr 0 (0 + 1)) [bxH x, bxH y] = some (I x.2.1) := by rw [ld_box (xs := (encH x).map .p) rfl]; rfl
    have l4 : ld false 1 (.ptr 1 (0 + 1)) [bxH x, bxH y] = some (I y.2.1) := by rw [ld_box (xs := (encH y).map .p) rfl]; rfl
    have hlit : ∀ a b : Int, litA false 1 [I a, I b] [bxH x, bxH y] = some (.p (.sl (some false) true 2 [Ia a, Ia b]), [bxH x, bxH y]) := fun _ _ => rfl
    simp only [b1, b2, l1, l2, l3, l4, call119, hlit, call118, obs, oms, bin_add, bin_sub, bin_lss, bin_leq, bin_gtr, bin_geq, bin_eql, bin_neq, bin_eqlB, bin_neqB, un_not, cond_B, gd_B, gd_undef, gdH_B, gdH_undef, pickA_B, extractA_tup, lenA_sl, lenA_row, fldA_fp, fldA_ptr, fldA_rptr, List.getElem?_cons_zero, List.getElem?_cons_succ, decide_true, decide_false, if_true, if_false, Bool.true_eq_false, Bool.false_eq_true, Bool.not_true, Bool.not_false]
    rfl

theorem cmp1_neg (a b : Int) : cmp1 a b < 0 ↔ a < b := by
  unfold cmp1
  by_cases h1 : a < b
  · simp [h1]
  · by_cases h2 : b < a <;> simp [h1, h2]
theorem cmp1_zero (a b : Int) : cmp1 a b = 0 ↔ a = b := by
  unfold cmp1
  by_cases h1 : a < b
  · simp [h1]; omega
  · by_cases h2 : b < a
    · simp [h1, h2]; omega
    · simp [h1, h2]; omega
theorem cmpH_neg (x y : Hd) : cmpH x y < 0 ↔ klt (ky x) (ky y) := by
  unfold cmpH klt ky
  by_cases h : x.1 = y.1
  · rw [if_pos ((cmp1_zero _ _).mpr h), cmp1_neg]
    simp only [h, Int.lt_irrefl, false_or, true_and]
  · rw [if_neg (fun e => h ((cmp1_zero _ _).mp e)), cmp1_neg]
    simp only [h, false_and, or_false]

open Go.Sort in
theorem swoH : SWO fun x y : Hd => decide (cmpH x y < 0) := by
  refine ⟨fun x => ?_, fun x y z h1 h2 => ?_, fun x y z h1 h2 => ?_⟩
  · simp only [decide_eq_false_iff_not, cmpH_neg]
    intro h; exact klt_ne h rfl
  · simp only [decide_eq_true_eq, cmpH_neg] at *
    exact klt_trans h1 h2
  · simp only [decide_eq_false_iff_not, cmpH_neg] at *
    unfold klt at *
    omega

/-- A list in order is the only one of its elements. -/
theorem srt_uniq {l l' : List Hd} (h : Srt l) (hp : l'.Perm l) (hs : l'.Pairwise fun x y => ¬ cmpH y x < 0) : l' = l := by
  have hnd : (l.map ky).Nodup := by
    rw [List.nodup_iff_pairwise_ne, List.pairwise_map]
    exact List.Pairwise.imp (fun h => klt_ne h) h
  have hnd' : (l'.map ky).Nodup := (hp.map ky).nodup_iff.mpr hnd
  have hs' : l'.Pairwise fun x y => klt (ky x) (ky y) := by
    rw [List.nodup_iff_pairwise_ne, List.pairwise_map] at hnd'
    refine List.Pairwise.imp₂ (fun {a b} h1 h2 => ?_) hs hnd'
    rw [cmpH_neg] at h1
    exact klt_tri h1 (fun e => h2 e.symm)
  exact hp.eq_of_pairwise (fun a b _ _ h1 h2 => by have := klt_trans h1 h2; exact (klt_ne this rfl).elim) hs' h

/-! ### All heads -/
theorem left_perm {κ : Type} [DecidableEq κ] {kvs : List (Kv κ)} {c : Nat} (hw : WfM kvs c) {seen : List Nat} {p : Kv κ} (hp : p ∈ left kvs seen) : (left kvs seen).Perm (p :: left kvs (seen ++ [p.2.2])) := by
  have e : left kvs (seen ++ [p.2.2]) = (left kvs seen).filter fun q => !(q.2.2 == p.2.2) := by
    unfold left
    rw [List.filter_filter]
    refine List.filter_congr fun q _ => ?_
    by_cases h1 : q.2.2 ∈ seen <;> by_cases h2 : q.2.2 = p.2.2 <;> simp [h1, h2]
  rw [e]
  have hnd : ((left kvs seen).map fun q => q.2.2).Nodup := hw.stamps.sublist (List.filter_sublist.map _)
  clear e
  generalize left kvs seen = L at *
  induction L with
  | nil => cases hp
  | cons q L ih =>
    rw [List.map_cons, List.nodup_cons] at hnd
    rw [List.filter_cons]
    rcases List.mem_cons.mp hp with e | e
    · subst e
      simp only [beq_self_eq_true, Bool.not_true, Bool.false_eq_true, if_false]
      rw [List.filter_eq_self.mpr]
      intro r hr
      have : ¬ r.2.2 = p.2.2 := fun e => hnd.1 (List.mem_map.mpr ⟨r, hr, e⟩)
      simpa using this
    · have : ¬ q.2.2 = p.2.2 := fun e2 => hnd.1 (List.mem_map.mpr ⟨p, e, e2.symm⟩)
      simp only [beq_iff_eq, this, Bool.not_eq_true', beq_eq_false_iff_ne, ne_eq, not_false_eq_true, if_true]
      exact ((ih e hnd.2).cons q).trans (List.Perm.swap _ _ _)

section
variable {H : Heap} {hb mid c : Nat} {hot : Int} {kvs : List (Kv K2)} {ls : List Ll} {l : List Hd}

/-- What is collected: nothing, or a row of one's own. -/
def Co (n : Nat) (G : Heap) (o : AV) (done : List Hd) : Prop := (o = .p nilS ∧ done = []) ∨ ∃ id g, o = .row id g 0 done.length ∧ n ≤ id ∧ G[id]? = some (.row g 6 (done.flatMap encH)) ∧ 0 < done.length

theorem ent116 (cl : AV) (o : AV) (lo : List Nat) (G : Heap) : O.ent 116 [o, cl] lo G = extRun cfg O (true, 6) [o, cl] G := by
  rw [O_ent]
  rfl

theorem loop63 (hM : H[mid]? = some (mapObj encK kvs c)) (hw : WfM kvs c) (hs : Srt l) (hlen : l.length ≤ 100) (lo : List Nat) : ∀ (n : Nat) (G : Heap) (o : AV) (done rest : List Hd) (seen : List Nat), (left kvs seen).length = n → G.take H.length = H → H.length < G.length →
    G[H.length]? = some (.iter mid c seen c) → Co (H.length + 1) G o done → (done ++ rest).Perm l → ((left kvs seen).map fun p => (p.1, p.2.1)).Perm (rest.map fun x => (ky x, avH x)) →
    L63_8 [o, .it H.length] (H.length :: lo) G = some ([if l = [] then .p nilS else Rw encH (some false) false l], H) := by
  intro n
  induction n with
  | zero =>
    intro G o done rest seen hn htk hlt hit hco hperm hleft
    have hnil : left kvs seen = [] := List.length_eq_zero_iff.mp hn
    have hM2 : G[mid]? = some (mapObj encK kvs c) := by rw [← htk, List.getElem?_take] at hM; split at hM <;> first | exact hM | cases hM
    have hrest : rest = [] := by
      rw [hnil, List.map_nil] at hleft
      have := hleft.length_eq
      simp at this
      exact List.length_eq_zero_iff.mp this.symm
    subst hrest
    rw [List.append_nil] at hperm
    rw [L63_8_eq, map_next hit hM2 hw, if_pos hnil]
    simp only [obs]
    refine agree_of (by simp) fun y hy => ?_
    simp only [List.mem_singleton] at hy
    subst hy
    have hm1 : cfg.mode 116 = 1 := rfl
    obtain ⟨rfl, rfl⟩ | ⟨id, g, rfl, hid, ho, hpos⟩ := hco
    · have hl : l = [] := List.Perm.eq_nil hperm.symm
      subst hl
      have h116 : callA cfg O 116 [.p nilS, .fn 117 [] []] (H.length :: lo) G = some (.tup [], G) := callA_keep hm1 (rs := []) (H' := G) (by rw [ent116]; rfl)
      simp only [h116, obs, oms, bin_add, bin_sub, bin_lss, bin_leq, bin_gtr, bin_geq, bin_eql, bin_neq, bin_eqlB, bin_neqB, un_not, cond_B, gd_B, gd_undef, gdH_B, gdH_undef, pickA_B, extractA_tup, lenA_sl, lenA_row, fldA_fp, fldA_ptr, fldA_rptr, List.getElem?_cons_zero, List.getElem?_cons_succ, decide_true, decide_false, if_true, if_false, Bool.true_eq_false, Bool.false_eq_true, Bool.not_true, Bool.not_false]
      show leave 2 (H.length :: lo) [.p nilS] G = _
      have hall : ([AV.p nilS] : List AV).all (AV.ltd H.length) = true := rfl
      simp only [leave, frzAll, frzA_p, obs, oms, hall, if_true, htk]
    · have hdl : done.length = l.length := hperm.length_eq
      have hd : done ≠ [] := List.length_pos_iff.mp hpos
      obtain ⟨l', hp', hs', he⟩ := sort_run (cfg := cfg) (O := O) (enc := encH) (k := 6) (by omega) lenH (cm := 117) (cap := []) rfl (cf := cmpH) (id := id) (g := g) (H := G) (l := done) (by omega) hpos ho (fun x _ y _ => by
        unfold cmpOne
        have := callCmp x y [] []
        unfold avH at this
        rw [this]
        rfl) swoH
      have hl' : l' = l := srt_uniq hs (hp'.trans hperm) hs'
      subst hl'
      have h116 : callA cfg O 116 [.row id g 0 done.length, .fn 117 [] []] (H.length :: lo) G = some (.tup [], G.set id (.row g 6 (l'.flatMap encH))) := callA_keep hm1 (rs := []) (by rw [ent116]; exact he)
      simp only [h116, obs, oms, bin_add, bin_sub, bin_lss, bin_leq, bin_gtr, bin_geq, bin_eql, bin_neq, bin_eqlB, bin_neqB, un_not, cond_B, gd_B, gd_undef, gdH_B, gdH_undef, pickA_B, extractA_tup, lenA_sl, lenA_row, fldA_fp, fldA_ptr, fldA_rptr, List.getElem?_cons_zero, List.getElem?_cons_succ, decide_true, decide_false, if_true, if_false, Bool.true_eq_false, Bool.false_eq_true, Bool.not_true, Bool.not_false]
      have hne : l' ≠ [] := by rintro rfl; simp at hdl; exact hd hdl
      rw [if_neg hne]
      have hfl := rows_length lenH l'
      have hfrz : frzA (G.set id (.row g 6 (l'.flatMap encH))) (.row id g 0 done.length) = some (Rw encH (some false) false l', (G.set id (.row g 6 (l'.flatMap encH))).set id (.row (g + 1) 6 [])) := by
        simp only [frzA, frzLeaf, toPV, setAt ho]
        rw [if_pos ⟨trivial, by rw [hfl]; omega⟩]
        simp only [oms, hpos, if_true, List.drop_zero]
        rw [List.take_of_length_le (by omega), hdl]
      show leave 2 (H.length :: lo) [.row id g 0 done.length] _ = _
      have hall : ([Rw encH (some false) false l'] : List AV).all (AV.ltd H.length) = true := rfl
      simp only [leave, frzAll, hfrz, obs, oms, hall, if_true]
      rw [List.set_set, List.take_set_of_le (by omega), htk]
  | succ n ih =>
    intro G o done rest seen hn htk hlt hit hco hperm hleft
    have hne : left kvs seen ≠ [] := by intro e; rw [e] at hn; cases hn
    have hM2 : G[mid]? = some (mapObj encK kvs c) := by rw [← htk, List.getElem?_take] at hM; split at hM <;> first | exact hM | cases hM
    have hmid : mid < H.length := getElem?_lt hM
    rw [L63_8_eq, map_next hit hM2 hw, if_neg hne]
    simp only [obs]
    refine agree_of (by simp [hne]) fun y hy => ?_
    obtain ⟨p, hp, rfl⟩ := List.mem_map.mp hy
    have hpk : p ∈ kvs := (left_step hp).2.1
    obtain ⟨x, hx, hxe⟩ := List.mem_map.mp (hleft.mem_iff.mp (List.mem_map.mpr ⟨p, hp, rfl⟩))
    have hp1 : p.2.1 = avH x := (congrArg Prod.snd hxe).symm
    have hG2 : (G.set H.length (.iter mid c (seen ++ [p.2.2]) c))[mid]? = some (mapObj encK kvs c) := by rw [List.getElem?_set_ne (by omega)]; exact hM2
    have hent := map_entry (setAt (o' := .iter mid c (seen ++ [p.2.2]) c) hit) hG2 hw hpk
    simp only [hent, hp1, ex0, ex1, obs, oms, bin_add, bin_sub, bin_lss, bin_leq, bin_gtr, bin_geq, bin_eql, bin_neq, bin_eqlB, bin_neqB, un_not, cond_B, gd_B, gd_undef, gdH_B, gdH_undef, pickA_B, extractA_tup, lenA_sl, lenA_row, fldA_fp, fldA_ptr, fldA_rptr, List.getElem?_cons_zero, List.getElem?_cons_succ, decide_true, decide_false, if_true, if_false, Bool.true_eq_false, Bool.false_eq_true, Bool.not_true, Bool.not_false, box6, st6, ld6]
    generalize hG' : G.set H.length (.iter mid c (seen ++ [p.2.2]) c) = G' at hG2
    have hlt' : H.length < G'.length := by rw [← hG']; simpa using hlt
    have htk' : G'.take H.length = H := by rw [← hG', List.take_set_of_le (by omega), htk]
    have hit' : G'[H.length]? = some (.iter mid c (seen ++ [p.2.2]) c) := by rw [← hG']; exact setAt hit
    have hco' : Co (H.length + 1) G' o done := by
      rcases hco with h | ⟨id, g, h1, h2, h3, h4⟩
      · exact .inl h
      · exact .inr ⟨id, g, h1, h2, (by rw [← hG', List.getElem?_set_ne (by omega)]; exact h3), h4⟩
    have hlit : ∀ G : Heap, litA false 6 [avH x] G = some (.p (.sl (some false) true 1 (encH x)), G) := fun _ => rfl
    have hcl : cellsA 6 (.p (.sl (some false) true 1 (encH x))) = fun _ => some (1, encH x) := rfl
    have hlen1 : done.length + rest.length ≤ 100 := by have := hperm.length_eq; simp at this; omega
    have htk2 : (G' ++ [bxH x]).take H.length = H := by rw [List.take_append_of_le_length (by omega), htk']
    have hit2 : (G' ++ [bxH x])[H.length]? = some (.iter mid c (seen ++ [p.2.2]) c) := getE hit'
    have hstep := left_perm hw hp
    have hln : (left kvs (seen ++ [p.2.2])).length = n := by have := hstep.length_eq; simp at this; omega
    have hrp : rest.Perm (x :: rest.erase x) := List.perm_cons_erase hx
    have hleft' : ((left kvs (seen ++ [p.2.2])).map fun p => (p.1, p.2.1)).Perm ((rest.erase x).map fun x => (ky x, avH x)) := by
      have h1 := (hstep.map fun p => (p.1, p.2.1)).symm.trans (hleft.trans (hrp.map fun x => (ky x, avH x)))
      rw [List.map_cons, List.map_cons, ← hxe] at h1
      exact h1.cons_inv
    have hperm' : ((done ++ [x]) ++ rest.erase x).Perm l := by
      rw [List.append_assoc]
      exact ((hrp.symm).append_left done).trans hperm
    have hfl : (done ++ [x]).flatMap encH = done.flatMap encH ++ encH x := by simp
    simp only [hlit, obs]
    rcases hco' with ⟨rfl, rfl⟩ | ⟨id, g, rfl, h2, h3, h4⟩
    · have happ : appA 6 48 (.p nilS) (.p (.sl (some false) true 1 (encH x))) (G' ++ [bxH x]) = some (.row (G' ++ [bxH x]).length 0 0 1, G' ++ [bxH x] ++ [.row 0 6 (encH x)]) := by
        simp only [appA, hcl, obs, appTo, nilS]
        rfl
      simp only [happ, obs]
      refine ih _ _ [x] (rest.erase x) _ hln ?_ (by simp; omega) (getE hit2) (.inr ⟨_, 0, rfl, (by simp; omega), (by rw [show [x].flatMap encH = encH x by simp]; simp), by simp⟩) (by simpa using hperm') hleft'
      rw [List.take_append_of_le_length (by simp; omega), htk2]
    · have h3' : (G' ++ [bxH x])[id]? = some (.row g 6 (done.flatMap encH)) := getE h3
      have hfl2 := rows_length lenH done
      have happ : appA 6 48 (.row id g 0 done.length) (.p (.sl (some false) true 1 (encH x))) (G' ++ [bxH x]) = some (.row id (g + 1) 0 (done.length + 1), (G' ++ [bxH x]).set id (.row (g + 1) 6 (done.flatMap encH ++ encH x))) := by
        simp only [appA, hcl, obs, appTo, h3']
        rw [if_pos ⟨trivial, trivial, by omega, by simp only [room]; omega⟩, List.drop_zero, List.take_of_length_le (by omega)]
      simp only [happ, obs]
      have e : done.length + 1 = (done ++ [x]).length := by simp
      rw [e]
      refine ih _ _ (done ++ [x]) (rest.erase x) _ hln ?_ (by simp; omega) ?_ (.inr ⟨id, g + 1, rfl, h2, (by rw [hfl]; exact setAt h3'), by simp⟩) hperm' hleft'
      · rw [List.take_set_of_le (by omega), htk2]
      · rw [List.getElem?_set_ne (by omega)]; exact hit2
end
end Ht
end Go.Proofs.Ytkhbbjfdbbnojaa
