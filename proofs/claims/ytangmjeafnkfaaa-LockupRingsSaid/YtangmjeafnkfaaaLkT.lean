import Derived.Test.YtangmjeafnkfaaaLkS
set_option linter.unusedVariables false
set_option linter.unusedSimpArgs false
namespace Go.Proofs.Ytangmjeafnkfaaa
open Go Go.AM
namespace Lk

/-! ### Pairs -/
abbrev Dp := A_DPair
abbrev Lp (nl : Option Bool) (tg : Bool) (l : List Dp) : AV := Rw enc_DPair nl tg l
def agp (e : Dp) : AV := .agg ((enc_DPair e).map .p)
def bxp (e : Dp) : AObj := .box ((enc_DPair e).map .p)
section
variable {nl : Option Bool} {tg : Bool} {p : List Dp}
theorem idxP {k : Nat} (h : k < p.length) : idxA 2 (Lp nl tg p) (I k) = some (.fp (p.flatMap enc_DPair) (k * 2)) := idxR h
theorem p0 {k : Nat} (h : k < p.length) (H : Heap) : ld false 1 (.fp (p.flatMap enc_DPair) (k * 2 + 0)) H = some (I p[k].1) := fldR len_DPair h (by omega) H
theorem p1 {k : Nat} (h : k < p.length) (H : Heap) : ld false 1 (.fp (p.flatMap enc_DPair) (k * 2 + 1)) H = some (I p[k].2) := fldR len_DPair h (by omega) H
theorem ldP {k : Nat} (h : k < p.length) (H : Heap) : ld true 2 (.fp (p.flatMap enc_DPair) (k * 2)) H = some (agp p[k]) := ldR len_DPair h H
theorem boxP (H : Heap) : boxO [] [(I 0), (I 0)] H = some (.ptr H.length 0, H ++ [.box ((List.replicate 2 (Ia 0)).map .p)]) := boxO_p (List.replicate 2 (Ia 0)) H
theorem stP (e : Dp) (lo : List Nat) (H : Heap) : stA 2 (.ptr H.length 0) (agp e) lo (H ++ [.box ((List.replicate 2 (Ia 0)).map .p)]) = some (H ++ [bxp e]) :=
  stA_new (n := 2) rfl (len_DPair e) (by omega)
theorem ldBp {H : Heap} {id : Nat} {e : Dp} (h : H[id]? = some (bxp e)) {j : Nat} : ld false 1 (.ptr id j) H = ((enc_DPair e)[j]?).map .p := by
  rw [ld_box (xs := (enc_DPair e).map .p) h, List.getElem?_map]
theorem ldBp0 {H : Heap} {id : Nat} {e : Dp} (h : H[id]? = some (bxp e)) : ld false 1 (.ptr id (0 + 0)) H = some (I e.1) := ldBp h
theorem ldBp1 {H : Heap} {id : Nat} {e : Dp} (h : H[id]? = some (bxp e)) : ld false 1 (.ptr id (0 + 1)) H = some (I e.2) := ldBp h

/-- All numbers that stand in pairs, each once. -/
def ins (l : List Int) (n : Int) : List Int := if l.contains n = true then l else l ++ [n]
def allOf (p : List Dp) : List Int := p.foldl (fun l q => ins (ins l q.1) q.2) []
theorem ins_mem {l : List Int} {n x : Int} : x ∈ ins l n ↔ x ∈ l ∨ x = n := by
  unfold ins
  split
  · rename_i h
    have h : n ∈ l := by simpa using h
    refine ⟨.inl, fun h' => ?_⟩
    rcases h' with h' | h'
    · exact h'
    · rw [h']; exact h
  · simp
theorem ins_nodup {l : List Int} {n : Int} (h : l.Nodup) : (ins l n).Nodup := by
  unfold ins
  split
  · exact h
  · rename_i hc
    have hc : n ∉ l := by simpa using hc
    rw [List.nodup_append]
    exact ⟨h, by simp, fun a ha b hb e => by simp at hb; subst hb; subst e; exact hc ha⟩
theorem ins_len {l : List Int} {n : Int} : (ins l n).length ≤ l.length + 1 := by
  unfold ins
  split <;> simp
theorem allOf_snoc (p : List Dp) (q : Dp) : allOf (p ++ [q]) = ins (ins (allOf p) q.1) q.2 := by simp [allOf]
theorem allOf_nodup (p : List Dp) : (allOf p).Nodup := by
  refine snoc_ind (Q := fun p => (allOf p).Nodup) (by simp [allOf]) (fun l a ih => ?_) p
  rw [allOf_snoc]
  exact ins_nodup (ins_nodup ih)
theorem allOf_mem (p : List Dp) (x : Int) : x ∈ allOf p ↔ ∃ q ∈ p, x = q.1 ∨ x = q.2 := by
  refine snoc_ind (Q := fun p => x ∈ allOf p ↔ ∃ q ∈ p, x = q.1 ∨ x = q.2) (by simp [allOf]) (fun l a ih => ?_) p
  rw [allOf_snoc, ins_mem, ins_mem, ih]
  constructor
  · rintro ((⟨q, hq, h⟩ | h) | h)
    · exact ⟨q, by simp [hq], h⟩
    · exact ⟨a, by simp, .inl h⟩
    · exact ⟨a, by simp, .inr h⟩
  · rintro ⟨q, hq, h⟩
    rcases List.mem_append.mp hq with hq | hq
    · exact .inl (.inl ⟨q, hq, h⟩)
    · simp at hq
      subst hq
      rcases h with h | h
      · exact .inl (.inr h)
      · exact .inr h
theorem allOf_len (p : List Dp) : (allOf p).length ≤ 2 * p.length := by
  refine snoc_ind (Q := fun p => (allOf p).length ≤ 2 * p.length) (by simp [allOf]) (fun l a ih => ?_) p
  rw [allOf_snoc]
  have h1 := ins_len (l := ins (allOf l) a.1) (n := a.2)
  have h2 := ins_len (l := allOf l) (n := a.1)
  simp
  omega

/-- How many pairs lead to a number from what is not out yet. -/
def cnt (p : List Dp) (out : List Int) (n : Int) : Nat := (p.filter fun q => decide (q.2 = n) && !out.contains q.1).length
theorem cnt_le (p : List Dp) (out : List Int) (n : Int) : cnt p out n ≤ p.length := List.length_filter_le _ _
theorem cnt_snoc (p : List Dp) (q : Dp) (out : List Int) (n : Int) : cnt (p ++ [q]) out n = cnt p out n + if q.2 = n ∧ q.1 ∉ out then 1 else 0 := by
  unfold cnt
  rw [List.filter_append, List.length_append]
  congr 1
  by_cases h1 : q.2 = n <;> by_cases h2 : q.1 ∈ out <;> simp [h1, h2]
theorem cnt_append (a b : List Dp) (out : List Int) (n : Int) : cnt (a ++ b) out n = cnt a out n + cnt b out n := by
  unfold cnt
  rw [List.filter_append, List.length_append]
theorem cnt_cons (q : Dp) (b : List Dp) (out : List Int) (n : Int) : cnt (q :: b) out n = (if q.2 = n ∧ q.1 ∉ out then 1 else 0) + cnt b out n := by
  have := cnt_snoc [] q out n
  rw [show q :: b = [q] ++ b from rfl, cnt_append]
  congr 1
  simpa [cnt] using this
theorem cnt_zero {p : List Dp} {out : List Int} {n : Int} : cnt p out n = 0 ↔ ∀ q ∈ p, q.2 = n → q.1 ∈ out := by
  unfold cnt
  rw [List.length_eq_zero_iff, List.filter_eq_nil_iff]
  refine forall_congr' fun q => forall_congr' fun hq => ?_
  by_cases h1 : q.2 = n <;> by_cases h2 : q.1 ∈ out <;> simp [h1, h2]

def free (p : List Dp) (out : List Int) (n : Int) : Prop := n ∈ allOf p ∧ n ∉ out ∧ cnt p out n = 0
/-- The least that is free. -/
def Least (p : List Dp) (out : List Int) (b : Int) : Prop := free p out b ∧ ∀ n, free p out n → b ≤ n
theorem Least.uniq {out : List Int} {a b : Int} (h : Least p out a) (h' : Least p out b) : a = b := Int.le_antisymm (h.2 b h'.1) (h'.2 a h.1)

/-- All that is out has nothing that leads to it but what is out. -/
def Shut (p : List Dp) (out : List Int) : Prop := out.Nodup ∧ ∀ n ∈ out, n ∈ allOf p ∧ cnt p out n = 0

theorem cnt_mono {out : List Int} {b n : Int} (h : cnt p out n = 0) : cnt p (out ++ [b]) n = 0 := by
  rw [cnt_zero] at h ⊢
  exact fun q hq e => List.mem_append_left _ (h q hq e)
theorem Shut.next {out : List Int} {b : Int} (h : Shut p out) (hb : free p out b) : Shut p (out ++ [b]) := by
  refine ⟨?_, fun n hn => ?_⟩
  · rw [List.nodup_append]
    exact ⟨h.1, by simp, fun a ha c hc e => by simp at hc; subst hc; subst e; exact hb.2.1 ha⟩
  · rcases List.mem_append.mp hn with e | e
    · exact ⟨(h.2 n e).1, cnt_mono (h.2 n e).2⟩
    · simp at e
      subst e
      exact ⟨hb.1, cnt_mono hb.2.2⟩
theorem Shut.len {out : List Int} (h : Shut p out) : out.length ≤ (allOf p).length := by
  have key : ∀ (a b : List Int), a.Nodup → (∀ x ∈ a, x ∈ b) → a.length ≤ b.length := by
    intro a
    induction a with
    | nil => intro b _ _; simp
    | cons x a ih =>
      intro b hn hs
      rw [List.nodup_cons] at hn
      have := ih (b.erase x) hn.2 fun y hy => by
        have : y ≠ x := fun e => hn.1 (e ▸ hy)
        exact (List.mem_erase_of_ne this).mpr (hs y (by simp [hy]))
      rw [List.length_erase_of_mem (hs x (by simp))] at this
      have h0 : 0 < b.length := List.length_pos_of_mem (hs x (by simp))
      simp
      omega
  exact key out _ h.1 fun x hx => (h.2 x hx).1

/-- How it goes on: the order of all, or none. -/
def Goes (p : List Dp) : Nat → List Int → Option (List Int) → Prop
  | 0, out, r => out.length = (allOf p).length ∧ r = some out
  | c + 1, out, r => out.length + (c + 1) = (allOf p).length ∧ ((∃ b, Least p out b ∧ Goes p c (out ++ [b]) r) ∨ ((∀ b, ¬ free p out b) ∧ r = none))

theorem Goes.uniq : ∀ (c : Nat) (out : List Int) (r r' : Option (List Int)), Goes p c out r → Goes p c out r' → r = r' := by
  intro c
  induction c with
  | zero => intro out r r' h h'; rw [h.2, h'.2]
  | succ c ih =>
    intro out r r' h h'
    rcases h.2 with ⟨b, h1, h2⟩ | ⟨h1, h2⟩
    · rcases h'.2 with ⟨b', h1', h2'⟩ | ⟨h1', _⟩
      · rw [h1.uniq h1'] at h2
        exact ih _ _ _ h2 h2'
      · exact (h1' b h1.1).elim
    · rcases h'.2 with ⟨b', h1', _⟩ | ⟨_, h2'⟩
      · exact (h1 b' h1'.1).elim
      · rw [h2, h2']

theorem Goes.len : ∀ (c : Nat) (out : List Int) (r : Option (List Int)), Goes p c out r → ∀ zs, r = some zs → zs.length = (allOf p).length := by
  intro c
  induction c with
  | zero => intro out r h zs e; rw [h.2] at e; cases e; exact h.1
  | succ c ih =>
    intro out r h zs e
    rcases h.2 with ⟨b, h1, h2⟩ | ⟨h1, h2⟩
    · exact ih _ _ h2 zs e
    · rw [h2] at e; cases e

/-! ### The program's -/
theorem lp12 (hl : p.length ≤ 200) {id : Nat} : ∀ (c i : Nat) (H : Heap) (kvs : List (Kv Int)) (cl : Nat), p.length - i = c → i ≤ p.length → Cx H [(id, mI kvs cl)] [] → WfM kvs cl →
    (∀ n, aget kvs n = if n ∈ allOf (p.take i) then some (I (cnt (p.take i) [] n)) else none) →
    ∃ H' kvs' cl', L39_12 [Lp nl tg p, .mp id, Lp nl tg p, I p.length, I i] [] H = L39_24 [Lp nl tg p, .mp id, .p nilS] [] H' ∧ Cx H' [(id, mI kvs' cl')] [] ∧ WfM kvs' cl' ∧
      (∀ n, aget kvs' n = if n ∈ allOf p then some (I (cnt p [] n)) else none) := by
  intro c
  induction c with
  | zero =>
    intro i H kvs cl hc hi h hw hf
    have : i = p.length := by omega
    subst this
    rw [List.take_length] at hf
    refine ⟨H, kvs, cl, ?_, h, hw, hf⟩
    rw [L39_12_eq]
    simp only [bin_lss, Int.lt_irrefl, obs, oms, bin_add, bin_sub, bin_lss, bin_leq, bin_gtr, bin_geq, bin_eql, bin_neq, bin_eqlB, bin_neqB, un_not, cond_B, gd_B, gd_undef, gdH_B, gdH_undef, pickA_B, extractA_tup, lenA_sl, lenA_row, fldA_fp, fldA_ptr, fldA_rptr, List.getElem?_cons_zero, List.getElem?_cons_succ, decide_true, decide_false, if_true, if_false, Bool.true_eq_false, Bool.false_eq_true, Bool.not_true, Bool.not_false]
  | succ c ih =>
    intro i H kvs cl hc hi h hw hf
    have hi' : i < p.length := by omega
    have hlt : (i : Int) < p.length := by omega
    have hb := new_at H (bxp p[i])
    have h1 := h.newObj (bxp p[i]) rfl
    have h2 : Cx (H ++ [bxp p[i]]) [(id, mI kvs cl), (H.length, bxp p[i])] [] := h1.mono (fun q hq => by simp only [List.mem_cons, List.not_mem_nil, or_false] at hq ⊢; rcases hq with rfl | rfl <;> simp) (List.Sublist.refl _)
    have hne : id ≠ H.length := h.lt (id, mI kvs cl) (by simp)
    have hm : (H ++ [bxp p[i]])[id]? = some (mI kvs cl) := h2.at (by simp)
    have hle : (p.take i).length ≤ 200 := by simp; omega
    have ht : p.take i ++ [p[i]] = p.take (i + 1) := List.take_append_getElem hi'
    -- first put
    have g1 : (aget kvs p[i].1).getD (I 0) = I (cnt (p.take i) [] p[i].1) := by
      rw [hf]
      split
      · rfl
      · rename_i hn
        have : cnt (p.take i) [] p[i].1 = 0 := by
          rw [cnt_zero]
          intro q hq e
          exact (hn ((allOf_mem _ _).mpr ⟨q, hq, .inr e.symm⟩)).elim
        rw [this]
        rfl
    have l1 := map_look key_int (z := I 0) hm p[i].1
    rw [g1] at l1
    have u1 := map_put key_int hm hw p[i].1 (v := I (cnt (p.take i) [] p[i].1)) (lo := []) (ok_ints [] id _ _)
    have c1 := h2.setObj (o' := mI (aput kvs p[i].1 (I (cnt (p.take i) [] p[i].1)) cl) (if (aget kvs p[i].1).isSome then cl else cl + 1)) (by simp <;> omega) rfl
    have w1 := hw.put p[i].1 (I (cnt (p.take i) [] p[i].1))
    have a1 : ∀ n, aget (aput kvs p[i].1 (I (cnt (p.take i) [] p[i].1)) cl) n = if n ∈ ins (allOf (p.take i)) p[i].1 then some (I (cnt (p.take i) [] n)) else none := by
      intro n
      rw [aget_put, hf]
      by_cases e : n = p[i].1
      · subst e
        rw [if_pos rfl, if_pos (ins_mem.mpr (.inr rfl))]
      · rw [if_neg e]
        have : (n ∈ ins (allOf (p.take i)) p[i].1) ↔ n ∈ allOf (p.take i) := by rw [ins_mem]; simp [e]
        simp only [this]
    generalize hk1 : aput kvs p[i].1 (I (cnt (p.take i) [] p[i].1)) cl = kvs1 at *
    generalize hcl1 : (if (aget kvs p[i].1).isSome then cl else cl + 1) = cl1 at *
    generalize hH1 : (H ++ [bxp p[i]]).set id (mI kvs1 cl1) = H1 at *
    have hm1 : H1[id]? = some (mI kvs1 cl1) := c1.at (by simp)
    have hb1 : H1[H.length]? = some (bxp p[i]) := c1.at (by simp)
    -- second put
    have g2 : (aget kvs1 p[i].2).getD (I 0) = I (cnt (p.take i) [] p[i].2) := by
      rw [a1]
      split
      · rfl
      · rename_i hn
        have : cnt (p.take i) [] p[i].2 = 0 := by
          rw [cnt_zero]
          intro q hq e
          exact (hn (ins_mem.mpr (.inl ((allOf_mem _ _).mpr ⟨q, hq, .inr e.symm⟩)))).elim
        rw [this]
        rfl
    have l2 := map_look key_int (z := I 0) hm1 p[i].2
    rw [g2] at l2
    have u2 := map_put key_int hm1 w1 p[i].2 (v := I ((cnt (p.take i) [] p[i].2 : Int) + 1)) (lo := []) (ok_ints [] id _ _)
    have c2 := c1.setObj (o' := mI (aput kvs1 p[i].2 (I ((cnt (p.take i) [] p[i].2 : Int) + 1)) cl1) (if (aget kvs1 p[i].2).isSome then cl1 else cl1 + 1)) (by simp <;> omega) rfl
    have w2 := w1.put p[i].2 (I ((cnt (p.take i) [] p[i].2 : Int) + 1))
    have hcl1 := cnt_le (p.take i) [] p[i].1
    have hcl2 := cnt_le (p.take i) [] p[i].2
    obtain ⟨H', kvs', cl', e, c', w', k2⟩ := ih (i + 1) _ _ _ (by omega) (by omega) (c2.mono (fx' := [(id, mI (aput kvs1 p[i].2 (I ((cnt (p.take i) [] p[i].2 : Int) + 1)) cl1) (if (aget kvs1 p[i].2).isSome then cl1 else cl1 + 1))]) (fun q hq => by simp at hq; subst hq; simp) (List.Sublist.refl _)) w2 (fun n => by
      rw [aget_put, a1, ← ht, allOf_snoc, cnt_snoc]
      by_cases e : n = p[i].2
      · subst e
        rw [if_pos rfl, if_pos (ins_mem.mpr (.inr rfl))]
        simp
      · rw [if_neg e]
        have : (n ∈ ins (ins (allOf (p.take i)) p[i].1) p[i].2) ↔ n ∈ ins (allOf (p.take i)) p[i].1 := by rw [ins_mem]; simp [e]
        have e2 : ¬ p[i].2 = n := fun h => e h.symm
        simp only [this, e2, false_and, if_false, Nat.add_zero])
    refine ⟨H', kvs', cl', ?_, c', w', k2⟩
    rw [L39_12_eq]
    simp only [bin_lss, hlt, idxP hi', ldP hi', boxP, stP, fldA_ptr, ldBp0 hb, l1, bin_add, obs, oms, bin_add, bin_sub, bin_lss, bin_leq, bin_gtr, bin_geq, bin_eql, bin_neq, bin_eqlB, bin_neqB, un_not, cond_B, gd_B, gd_undef, gdH_B, gdH_undef, pickA_B, extractA_tup, lenA_sl, lenA_row, fldA_fp, fldA_ptr, fldA_rptr, List.getElem?_cons_zero, List.getElem?_cons_succ, decide_true, decide_false, if_true, if_false, Bool.true_eq_false, Bool.false_eq_true, Bool.not_true, Bool.not_false]
    rw [wrap_id (by omega), Int.add_zero]
    simp only [u1, ldBp1 hb1, l2, bin_add, obs, oms, bin_add, bin_sub, bin_lss, bin_leq, bin_gtr, bin_geq, bin_eql, bin_neq, bin_eqlB, bin_neqB, un_not, cond_B, gd_B, gd_undef, gdH_B, gdH_undef, pickA_B, extractA_tup, lenA_sl, lenA_row, fldA_fp, fldA_ptr, fldA_rptr, List.getElem?_cons_zero, List.getElem?_cons_succ, decide_true, decide_false, if_true, if_false, Bool.true_eq_false, Bool.false_eq_true, Bool.not_true, Bool.not_false]
    rw [wrap_id (by omega)]
    simp only [u2, bin_add, obs, oms, bin_add, bin_sub, bin_lss, bin_leq, bin_gtr, bin_geq, bin_eql, bin_neq, bin_eqlB, bin_neqB, un_not, cond_B, gd_B, gd_undef, gdH_B, gdH_undef, pickA_B, extractA_tup, lenA_sl, lenA_row, fldA_fp, fldA_ptr, fldA_rptr, List.getElem?_cons_zero, List.getElem?_cons_succ, decide_true, decide_false, if_true, if_false, Bool.true_eq_false, Bool.false_eq_true, Bool.not_true, Bool.not_false]
    rw [wrap_id (by omega), nxt]
    exact e

/-- What is handed back. -/
def fz (zs : List Int) : AV := if zs = [] then .p nilS else V (some false) false zs
def res : Option (List Int) → List AV
  | some zs => [fz zs, B true, I 0]
  | none => [.p nilS, B false, I 0]
def RoN (o : AV) (m : Nat) : Prop := (m = 0 ∧ o = .p nilS) ∨ (0 < m ∧ ∃ id g, o = .row id g 0 m)
theorem frz_exact {o : AV} {zs : List Int} {H : Heap} (h : Lst 1 o H zs.length (zs.map Ia)) (hr : RoN o zs.length) : ∃ H', frzA H o = some (fz zs, H') := by
  rcases hr with ⟨h0, rfl⟩ | ⟨h0, id, g, rfl⟩
  · have : zs = [] := List.length_eq_zero_iff.mp h0
    subst this
    exact ⟨H, rfl⟩
  · have hne : zs ≠ [] := fun e => by rw [e] at h0; simp at h0
    have ho := h.at
    refine ⟨H.set id (.row (g + 1) 1 []), ?_⟩
    have hl : zs.length * 1 ≤ (zs.map Ia).length := by simp
    simp only [frzA, frzLeaf, toPV, ho, Nat.zero_add, hl, and_self, if_true, if_pos h0, oms, fz, if_neg hne]
    rw [List.drop_zero, List.take_of_length_le (by simp)]

/-- The pairs of what was chosen are counted down. -/
theorem lp48 (hl : p.length ≤ 200) {id : Nat} {out : List Int} {b : Int} (hS : Shut p out) (hb : free p out b) {o : AV} : ∀ (c i : Nat) (H : Heap) (kvs : List (Kv Int)) (cl : Nat), p.length - i = c → i ≤ p.length →
    Cx H [(id, mI kvs cl)] [(o, 1, (out ++ [b]).length, (out ++ [b]).map Ia)] → WfM kvs cl → (∀ n, aget kvs n = if n ∈ allOf p ∧ n ∉ out ++ [b] then some (I ((cnt (p.take i) (out ++ [b]) n + cnt (p.drop i) out n : Nat) : Int)) else none) →
    ∃ H' kvs' cl', L39_48 [Lp nl tg p, .mp id, o, I b, Lp nl tg p, I p.length, I i] [] H = L39_24 [Lp nl tg p, .mp id, o] [] H' ∧ Cx H' [(id, mI kvs' cl')] [(o, 1, (out ++ [b]).length, (out ++ [b]).map Ia)] ∧ WfM kvs' cl' ∧
      (∀ n, aget kvs' n = if n ∈ allOf p ∧ n ∉ out ++ [b] then some (I (cnt p (out ++ [b]) n)) else none) := by
  intro c
  induction c with
  | zero =>
    intro i H kvs cl hc hi h hw hf
    have : i = p.length := by omega
    subst this
    rw [List.take_length, List.drop_length] at hf
    refine ⟨H, kvs, cl, ?_, h, hw, hf⟩
    rw [L39_48_eq]
    simp only [bin_lss, Int.lt_irrefl, obs, oms, bin_add, bin_sub, bin_lss, bin_leq, bin_gtr, bin_geq, bin_eql, bin_neq, bin_eqlB, bin_neqB, un_not, cond_B, gd_B, gd_undef, gdH_B, gdH_undef, pickA_B, extractA_tup, lenA_sl, lenA_row, fldA_fp, fldA_ptr, fldA_rptr, List.getElem?_cons_zero, List.getElem?_cons_succ, decide_true, decide_false, if_true, if_false, Bool.true_eq_false, Bool.false_eq_true, Bool.not_true, Bool.not_false]
  | succ c ih =>
    intro i H kvs cl hc hi h hw hf
    have hi' : i < p.length := by omega
    have hlt : (i : Int) < p.length := by omega
    have hbx := new_at H (bxp p[i])
    have h1 := h.push [bxp p[i]]
    have hm : (H ++ [bxp p[i]])[id]? = some (mI kvs cl) := h1.at (by simp)
    have ht : p.take i ++ [p[i]] = p.take (i + 1) := List.take_append_getElem hi'
    have hd : p.drop i = p[i] :: p.drop (i + 1) := List.drop_eq_getElem_cons hi'
    have nx : ∀ H, L39_57 [Lp nl tg p, .mp id, o, I b, Lp nl tg p, I p.length, I i] [] H = L39_48 [Lp nl tg p, .mp id, o, I b, Lp nl tg p, I p.length, I (i + 1 : Nat)] [] H := by
      intro H
      rw [L39_57_eq]
      simp only [bin_add, obs]
      rw [wrap_id (by omega), nxt]
    rw [L39_48_eq]
    simp only [bin_lss, hlt, idxP hi', ldP hi', boxP, stP, fldA_ptr, ldBp0 hbx, bin_eql, obs, oms, bin_add, bin_sub, bin_lss, bin_leq, bin_gtr, bin_geq, bin_eql, bin_neq, bin_eqlB, bin_neqB, un_not, cond_B, gd_B, gd_undef, gdH_B, gdH_undef, pickA_B, extractA_tup, lenA_sl, lenA_row, fldA_fp, fldA_ptr, fldA_rptr, List.getElem?_cons_zero, List.getElem?_cons_succ, decide_true, decide_false, if_true, if_false, Bool.true_eq_false, Bool.false_eq_true, Bool.not_true, Bool.not_false]
    by_cases e : p[i].1 = b
    · have h2all : p[i].2 ∈ allOf p := (allOf_mem _ _).mpr ⟨p[i], List.getElem_mem hi', .inr rfl⟩
      have h2out : p[i].2 ∉ out ++ [b] := by
        intro hmem
        rcases List.mem_append.mp hmem with hmem | hmem
        · have := cnt_zero.mp (hS.2 _ hmem).2 p[i] (List.getElem_mem hi') rfl
          rw [e] at this
          exact hb.2.1 this
        · simp at hmem
          have := cnt_zero.mp hb.2.2 p[i] (List.getElem_mem hi') hmem
          rw [e] at this
          exact hb.2.1 this
      have hv : cnt (p.take i) (out ++ [b]) p[i].2 + cnt (p.drop i) out p[i].2 = cnt (p.take (i + 1)) (out ++ [b]) p[i].2 + cnt (p.drop (i + 1)) out p[i].2 + 1 := by
        rw [hd, cnt_cons, ← ht, cnt_snoc]
        have a1 : p[i].2 = p[i].2 ∧ p[i].1 ∉ out := ⟨rfl, by rw [e]; exact hb.2.1⟩
        have a2 : ¬ (p[i].2 = p[i].2 ∧ p[i].1 ∉ out ++ [b]) := by rw [e]; simp
        rw [if_pos a1, if_neg a2]
        omega
      have l1 := map_look key_int (z := I 0) hm p[i].2
      rw [hf, if_pos ⟨h2all, h2out⟩, hv] at l1
      have hle1 := cnt_le (p.take (i + 1)) (out ++ [b]) p[i].2
      have hle2 := cnt_le (p.drop (i + 1)) out p[i].2
      simp only [List.length_take, List.length_drop] at hle1 hle2
      have u1 := map_put key_int hm hw p[i].2 (v := I ((cnt (p.take (i + 1)) (out ++ [b]) p[i].2 + cnt (p.drop (i + 1)) out p[i].2 : Nat) : Int)) (lo := []) (ok_ints [] id _ _)
      obtain ⟨H', kvs', cl', e', c', w', k⟩ := ih (i + 1) _ _ _ (by omega) (by omega) (h1.setObj (o' := mI (aput kvs p[i].2 (I ((cnt (p.take (i + 1)) (out ++ [b]) p[i].2 + cnt (p.drop (i + 1)) out p[i].2 : Nat) : Int)) cl) (if (aget kvs p[i].2).isSome then cl else cl + 1)) (by simp) rfl) (hw.put _ _) (fun n => by
        rw [aget_put, hf]
        by_cases en : n = p[i].2
        · subst en
          rw [if_pos rfl, if_pos ⟨h2all, h2out⟩]
        · rw [if_neg en]
          have a0 : ¬ p[i].2 = n := fun h => en h.symm
          rw [← ht, cnt_snoc, hd, cnt_cons]
          simp only [a0, false_and, if_false, Nat.add_zero, Nat.zero_add])
      refine ⟨H', kvs', cl', ?_, c', w', k⟩
      simp only [e, ldBp1 hbx, l1, Option.getD_some, bin_sub, obs, oms, bin_add, bin_sub, bin_lss, bin_leq, bin_gtr, bin_geq, bin_eql, bin_neq, bin_eqlB, bin_neqB, un_not, cond_B, gd_B, gd_undef, gdH_B, gdH_undef, pickA_B, extractA_tup, lenA_sl, lenA_row, fldA_fp, fldA_ptr, fldA_rptr, List.getElem?_cons_zero, List.getElem?_cons_succ, decide_true, decide_false, if_true, if_false, Bool.true_eq_false, Bool.false_eq_true, Bool.not_true, Bool.not_false]
      rw [wrap_id (by omega), show ((cnt (p.take (i + 1)) (out ++ [b]) p[i].2 + cnt (p.drop (i + 1)) out p[i].2 + 1 : Nat) : Int) - 1 = ((cnt (p.take (i + 1)) (out ++ [b]) p[i].2 + cnt (p.drop (i + 1)) out p[i].2 : Nat) : Int) by omega]
      simp only [u1, obs, oms, bin_add, bin_sub, bin_lss, bin_leq, bin_gtr, bin_geq, bin_eql, bin_neq, bin_eqlB, bin_neqB, un_not, cond_B, gd_B, gd_undef, gdH_B, gdH_undef, pickA_B, extractA_tup, lenA_sl, lenA_row, fldA_fp, fldA_ptr, fldA_rptr, List.getElem?_cons_zero, List.getElem?_cons_succ, decide_true, decide_false, if_true, if_false, Bool.true_eq_false, Bool.false_eq_true, Bool.not_true, Bool.not_false, nx]
      exact e'
    · obtain ⟨H', kvs', cl', e', c', w', k⟩ := ih (i + 1) _ kvs cl (by omega) (by omega) h1 hw (fun n => by
        rw [hf, ← ht, cnt_snoc, hd, cnt_cons]
        have : (p[i].2 = n ∧ p[i].1 ∉ out ++ [b]) ↔ (p[i].2 = n ∧ p[i].1 ∉ out) := by simp [e]
        simp only [this]
        congr 4
        omega)
      refine ⟨H', kvs', cl', ?_, c', w', k⟩
      simp only [e, obs, oms, bin_add, bin_sub, bin_lss, bin_leq, bin_gtr, bin_geq, bin_eql, bin_neq, bin_eqlB, bin_neqB, un_not, cond_B, gd_B, gd_undef, gdH_B, gdH_undef, pickA_B, extractA_tup, lenA_sl, lenA_row, fldA_fp, fldA_ptr, fldA_rptr, List.getElem?_cons_zero, List.getElem?_cons_succ, decide_true, decide_false, if_true, if_false, Bool.true_eq_false, Bool.false_eq_true, Bool.not_true, Bool.not_false, nx]
      exact e'

theorem free_kv {out : List Int} {kvs : List (Kv Int)} {cl : Nat} (hw : WfM kvs cl) (hf : ∀ n, aget kvs n = if n ∈ allOf p ∧ n ∉ out then some (I (cnt p out n)) else none) {q : Kv Int} (hq : q ∈ kvs) :
    q.2.1 = I (cnt p out q.1) ∧ q.1 ∈ allOf p ∧ q.1 ∉ out := by
  have h := aget_of_mem hw hq
  rw [hf] at h
  split at h
  · rename_i hc
    exact ⟨(Option.some.inj h).symm, hc⟩
  · cases h

/-- The round over the map; whatever comes first. -/
theorem lp30 (hl : p.length ≤ 200) {id it : Nat} {out : List Int} (hS : Shut p out) {c : Nat} {R : Option (List Int)} {kvs : List (Kv Int)} {cl : Nat} (hw : WfM kvs cl) (hf : ∀ n, aget kvs n = if n ∈ allOf p ∧ n ∉ out then some (I (cnt p out n)) else none)
    (hG : Goes p (c + 1) out R)
    (ih : ∀ (b : Int) (o : AV) (H : Heap) (kvs : List (Kv Int)) (cl : Nat), Goes p c (out ++ [b]) R → Shut p (out ++ [b]) → RoN o (out ++ [b]).length → Cx H [(id, mI kvs cl)] [(o, 1, (out ++ [b]).length, (out ++ [b]).map Ia)] → WfM kvs cl → (∀ n, aget kvs n = if n ∈ allOf p ∧ n ∉ out ++ [b] then some (I (cnt p (out ++ [b]) n)) else none) →
      L39_24 [Lp nl tg p, .mp id, o] [] H = some (res R, [])) {o : AV} (hne : it ≠ id) :
    ∀ (m : Nat) (seen : List Nat) (best : Int) (sm : Bool) (H : Heap), (left kvs seen).length = m → Cx H [(it, .iter id cl seen cl), (id, mI kvs cl)] [(o, 1, out.length, out.map Ia)] →
      (∀ q ∈ kvs, q.2.1 = I 0 → q ∈ left kvs seen ∨ (sm = true ∧ best ≤ q.1)) → (sm = true → ∃ q ∈ kvs, q.1 = best ∧ q.2.1 = I 0) →
      L39_30 [Lp nl tg p, .mp id, o, I best, B sm, .it it] [] H = some (res R, []) := by
  have hfree : ∀ q ∈ kvs, q.2.1 = I 0 → free p out q.1 := by
    intro q hq h0
    obtain ⟨h1, h2, h3⟩ := free_kv hw hf hq
    rw [h1] at h0
    refine ⟨h2, h3, ?_⟩
    injection h0 with h0
    injection h0 with h0
    injection h0 with _ h0
    omega
  intro m
  induction m using Nat.strongRecOn with
  | ind m ihm =>
    intro seen best sm H hm h hinv hsm
    have hit : H[it]? = some (.iter id cl seen cl) := h.at (by simp)
    have hid : H[id]? = some (mI kvs cl) := h.at (by simp)
    rw [L39_30_eq, map_next hit hid hw, obs]
    refine agree_of ?_ fun y hy => ?_
    · split
      · simp
      · rename_i hne; simpa using hne
    · split at hy
      · rename_i hnil
        have : y = (.tup [B false], H) := by simpa using hy
        subst this
        simp only [obs, oms, bin_add, bin_sub, bin_lss, bin_leq, bin_gtr, bin_geq, bin_eql, bin_neq, bin_eqlB, bin_neqB, un_not, cond_B, gd_B, gd_undef, gdH_B, gdH_undef, pickA_B, extractA_tup, lenA_sl, lenA_row, fldA_fp, fldA_ptr, fldA_rptr, List.getElem?_cons_zero, List.getElem?_cons_succ, decide_true, decide_false, if_true, if_false, Bool.true_eq_false, Bool.false_eq_true, Bool.not_true, Bool.not_false]
        -- nothing is left
        rcases hG.2 with ⟨b, hb, hg⟩ | ⟨hno, hR⟩
        · have hbk : ∃ q ∈ kvs, q.1 = b ∧ q.2.1 = I 0 := by
            have : aget kvs b = some (I 0) := by rw [hf, if_pos ⟨hb.1.1, hb.1.2.1⟩, hb.1.2.2]; rfl
            unfold aget at this
            rw [Option.map_eq_some_iff] at this
            obtain ⟨q, hq, hv⟩ := this
            exact ⟨q, List.mem_of_find?_eq_some hq, by simpa using List.find?_some hq, hv⟩
          obtain ⟨q, hq, hqb, hq0⟩ := hbk
          rcases hinv q hq hq0 with e | ⟨e1, e2⟩
          · rw [hnil] at e; cases e
          · obtain ⟨q', hq', hqb', hq0'⟩ := hsm e1
            have h3 := hb.2 q'.1 (hfree q' hq' hq0')
            have : best = b := by omega
            subst this
            subst e1
            have h' : Cx H [(id, mI kvs cl)] ([] ++ (o, 1, out.length, out.map Ia) :: []) := h.bt
            have hlen := Shut.len hS
            have hal := allOf_len p
            obtain ⟨o', H1, q1, q2, id', g', q3⟩ := Cx.app (bytes := 8) (y := .p (.sl (some false) true 1 [Ia best])) [] h' (cells1 _ _) rfl (by omega) (by simp only [room]; omega)
            have hid1 : H1[id]? = some (mI kvs cl) := q2.at (by simp)
            have d1 := map_del key_int hid1 hw best
            have c1 := q2.setObj (o' := mI (adel kvs best) cl) (by simp) rfl
            have hS' := hS.next hb.1
            simp only [List.nil_append] at c1
            have c2 : Cx (H1.set id (mI (adel kvs best) cl)) [(id, mI (adel kvs best) cl)] [(o', 1, (out ++ [best]).length, (out ++ [best]).map Ia)] := by simpa using c1
            obtain ⟨H', kvs', cl', e', c', w', k⟩ := lp48 (nl := nl) (tg := tg) hl hS hb.1 (o := o') _ 0 _ _ _ rfl (by omega) c2 (hw.del best) (fun n => by
              rw [aget_del, hf]
              by_cases en : n = best
              · subst en; simp
              · have : (n ∉ out ++ [best]) ↔ n ∉ out := by simp [en]
                simp only [en, if_false, this, List.take_zero, List.drop_zero]
                simp [cnt])
            simp only [lit1, q1, d1, lenA_sl, obs, oms, bin_add, bin_sub, bin_lss, bin_leq, bin_gtr, bin_geq, bin_eql, bin_neq, bin_eqlB, bin_neqB, un_not, cond_B, gd_B, gd_undef, gdH_B, gdH_undef, pickA_B, extractA_tup, lenA_sl, lenA_row, fldA_fp, fldA_ptr, fldA_rptr, List.getElem?_cons_zero, List.getElem?_cons_succ, decide_true, decide_false, if_true, if_false, Bool.true_eq_false, Bool.false_eq_true, Bool.not_true, Bool.not_false]
            rw [show (I 0) = I (0 : Nat) from rfl, e']
            exact ih best o' H' kvs' cl' hg hS' (.inr ⟨by simp, id', g', by rw [q3]; simp⟩) c' w' k
        · have hs : sm = false := by
            cases sm with
            | false => rfl
            | true =>
              obtain ⟨q', hq', hqb', hq0'⟩ := hsm rfl
              exact (hno _ (hfree q' hq' hq0')).elim
          subst hs
          rw [hR]
          simp only [obs, oms, bin_add, bin_sub, bin_lss, bin_leq, bin_gtr, bin_geq, bin_eql, bin_neq, bin_eqlB, bin_neqB, un_not, cond_B, gd_B, gd_undef, gdH_B, gdH_undef, pickA_B, extractA_tup, lenA_sl, lenA_row, fldA_fp, fldA_ptr, fldA_rptr, List.getElem?_cons_zero, List.getElem?_cons_succ, decide_true, decide_false, if_true, if_false, Bool.true_eq_false, Bool.false_eq_true, Bool.not_true, Bool.not_false]
          rfl
      · obtain ⟨q, hq, rfl⟩ := List.mem_map.mp hy
        obtain ⟨s1, s2, s3⟩ := left_step hq
        have hc : Cx (H.set it (.iter id cl (seen ++ [q.2.2]) cl)) [(it, .iter id cl (seen ++ [q.2.2]) cl), (id, mI kvs cl)] [(o, 1, out.length, out.map Ia)] := h.setObj (by simp; exact fun e => hne e.symm) rfl
        have hit' : (H.set it (.iter id cl (seen ++ [q.2.2]) cl))[it]? = some (.iter id cl (seen ++ [q.2.2]) cl) := hc.at (by simp)
        have hid' : (H.set it (.iter id cl (seen ++ [q.2.2]) cl))[id]? = some (mI kvs cl) := hc.at (by simp)
        have e1 := map_entry hit' hid' hw s2
        obtain ⟨v1, v2, v3⟩ := free_kv hw hf s2
        have huq : ∀ q' ∈ kvs, q'.2.2 = q.2.2 → q' = q := by
          intro q' hq' e
          obtain ⟨i, hi, rfl⟩ := List.getElem_of_mem hq'
          obtain ⟨j, hj, hj2⟩ := List.getElem_of_mem s2
          have : i = j := (List.getElem_inj (h₀ := by simpa using hi) (h₁ := by simpa using hj) hw.stamps).mp (by simp [hj2, e])
          subst this
          exact hj2
        have go : ∀ (best' : Int) (sm' : Bool), (∀ x ∈ kvs, x.2.1 = I 0 → x ∈ left kvs (seen ++ [q.2.2]) ∨ (sm' = true ∧ best' ≤ x.1)) → (sm' = true → ∃ x ∈ kvs, x.1 = best' ∧ x.2.1 = I 0) →
            L39_30 [Lp nl tg p, .mp id, o, I best', B sm', .it it] [] (H.set it (.iter id cl (seen ++ [q.2.2]) cl)) = some (res R, []) :=
          fun best' sm' k1 k2 => ihm _ (by omega) _ best' sm' _ rfl hc k1 k2
        rw [v1] at e1
        simp only [e1, v1, bin_eql, obs, oms, bin_add, bin_sub, bin_lss, bin_leq, bin_gtr, bin_geq, bin_eql, bin_neq, bin_eqlB, bin_neqB, un_not, cond_B, gd_B, gd_undef, gdH_B, gdH_undef, pickA_B, extractA_tup, lenA_sl, lenA_row, fldA_fp, fldA_ptr, fldA_rptr, List.getElem?_cons_zero, List.getElem?_cons_succ, decide_true, decide_false, if_true, if_false, Bool.true_eq_false, Bool.false_eq_true, Bool.not_true, Bool.not_false]
        by_cases hz : cnt p out q.1 = 0
        · have hz2 : ((cnt p out q.1 : Nat) : Int) = 0 := by omega
          have hq0 : q.2.1 = I 0 := by rw [v1, hz]; rfl
          have take : (sm = true → q.1 < best) → L39_30 [Lp nl tg p, .mp id, o, I q.1, B true, .it it] [] (H.set it (.iter id cl (seen ++ [q.2.2]) cl)) = some (res R, []) := by
            intro hlt
            refine go q.1 true (fun x hx hx0 => ?_) fun _ => ⟨q, s2, rfl, hq0⟩
            rcases hinv x hx hx0 with e | ⟨e2, e3⟩
            · rcases s3 x e with e4 | e4
              · exact .inl e4
              · rw [huq x hx e4]; exact .inr ⟨rfl, Int.le_refl _⟩
            · have := hlt e2
              exact .inr ⟨rfl, by omega⟩
          cases hsm2 : sm with
          | false =>
            subst hsm2
            simp only [hz2, obs, oms, bin_add, bin_sub, bin_lss, bin_leq, bin_gtr, bin_geq, bin_eql, bin_neq, bin_eqlB, bin_neqB, un_not, cond_B, gd_B, gd_undef, gdH_B, gdH_undef, pickA_B, extractA_tup, lenA_sl, lenA_row, fldA_fp, fldA_ptr, fldA_rptr, List.getElem?_cons_zero, List.getElem?_cons_succ, decide_true, decide_false, if_true, if_false, Bool.true_eq_false, Bool.false_eq_true, Bool.not_true, Bool.not_false]
            exact take fun e => by cases e
          | true =>
            subst hsm2
            simp only [hz2, bin_lss, obs, oms, bin_add, bin_sub, bin_lss, bin_leq, bin_gtr, bin_geq, bin_eql, bin_neq, bin_eqlB, bin_neqB, un_not, cond_B, gd_B, gd_undef, gdH_B, gdH_undef, pickA_B, extractA_tup, lenA_sl, lenA_row, fldA_fp, fldA_ptr, fldA_rptr, List.getElem?_cons_zero, List.getElem?_cons_succ, decide_true, decide_false, if_true, if_false, Bool.true_eq_false, Bool.false_eq_true, Bool.not_true, Bool.not_false]
            by_cases hlt : q.1 < best
            · simp only [hlt, obs, oms, bin_add, bin_sub, bin_lss, bin_leq, bin_gtr, bin_geq, bin_eql, bin_neq, bin_eqlB, bin_neqB, un_not, cond_B, gd_B, gd_undef, gdH_B, gdH_undef, pickA_B, extractA_tup, lenA_sl, lenA_row, fldA_fp, fldA_ptr, fldA_rptr, List.getElem?_cons_zero, List.getElem?_cons_succ, decide_true, decide_false, if_true, if_false, Bool.true_eq_false, Bool.false_eq_true, Bool.not_true, Bool.not_false]
              exact take fun _ => hlt
            · simp only [hlt, obs, oms, bin_add, bin_sub, bin_lss, bin_leq, bin_gtr, bin_geq, bin_eql, bin_neq, bin_eqlB, bin_neqB, un_not, cond_B, gd_B, gd_undef, gdH_B, gdH_undef, pickA_B, extractA_tup, lenA_sl, lenA_row, fldA_fp, fldA_ptr, fldA_rptr, List.getElem?_cons_zero, List.getElem?_cons_succ, decide_true, decide_false, if_true, if_false, Bool.true_eq_false, Bool.false_eq_true, Bool.not_true, Bool.not_false]
              refine go best true (fun x hx hx0 => ?_) hsm
              rcases hinv x hx hx0 with e | e
              · rcases s3 x e with e4 | e4
                · exact .inl e4
                · rw [huq x hx e4]; exact .inr ⟨rfl, by omega⟩
              · exact .inr e
        · have hz2 : ¬ ((cnt p out q.1 : Nat) : Int) = 0 := by omega
          simp only [hz2, obs, oms, bin_add, bin_sub, bin_lss, bin_leq, bin_gtr, bin_geq, bin_eql, bin_neq, bin_eqlB, bin_neqB, un_not, cond_B, gd_B, gd_undef, gdH_B, gdH_undef, pickA_B, extractA_tup, lenA_sl, lenA_row, fldA_fp, fldA_ptr, fldA_rptr, List.getElem?_cons_zero, List.getElem?_cons_succ, decide_true, decide_false, if_true, if_false, Bool.true_eq_false, Bool.false_eq_true, Bool.not_true, Bool.not_false]
          refine go best sm (fun x hx hx0 => ?_) hsm
          rcases hinv x hx hx0 with e | e
          · rcases s3 x e with e4 | e4
            · exact .inl e4
            · rw [huq x hx e4, v1] at hx0
              injection hx0 with hx0
              injection hx0 with hx0
              injection hx0 with _ hx0
              exact (hz2 hx0).elim
          · exact .inr e

theorem lp24 (hl : p.length ≤ 200) {id : Nat} : ∀ (c : Nat) (out : List Int) (R : Option (List Int)) (o : AV) (H : Heap) (kvs : List (Kv Int)) (cl : Nat), Goes p c out R → Shut p out → RoN o out.length → Cx H [(id, mI kvs cl)] [(o, 1, out.length, out.map Ia)] → WfM kvs cl →
    (∀ n, aget kvs n = if n ∈ allOf p ∧ n ∉ out then some (I (cnt p out n)) else none) → L39_24 [Lp nl tg p, .mp id, o] [] H = some (res R, []) := by
  intro c
  induction c with
  | zero =>
    intro out R o H kvs cl hG hS hr h hw hf
    have hall : ∀ n ∈ allOf p, n ∈ out := by
      intro n hn
      apply Classical.byContradiction
      intro hno
      have h1 := nodup_len_le (n :: out) (allOf p) (List.nodup_cons.mpr ⟨hno, hS.1⟩) fun x hx => by
        rcases List.mem_cons.mp hx with e | e
        · rw [e]; exact hn
        · exact (hS.2 x e).1
      have := hG.1
      simp at h1
      omega
    have hk : kvs.length = 0 := by
      have := keys_len hw (ks := []) .nil fun k => by
        rw [hf]
        constructor
        · intro hs
          split at hs
          · rename_i hc; exact (hc.2 (hall k hc.1)).elim
          · cases hs
        · intro hs; cases hs
      simpa using this
    have hid : H[id]? = some (mI kvs cl) := h.at (by simp)
    have e1 := map_len (enc := fun n : Int => I n) hid
    obtain ⟨H', e2⟩ := frz_exact h.hd hr
    rw [L39_24_eq, hG.2]
    have z : ¬ (((0 : Nat) : Int) > 0) := by omega
    have z2 : ¬ ((0 : Int) < ((0 : Nat) : Int)) := by omega
    simp only [e1, hk, bin_gtr, z2, obs, oms, bin_add, bin_sub, bin_lss, bin_leq, bin_gtr, bin_geq, bin_eql, bin_neq, bin_eqlB, bin_neqB, un_not, cond_B, gd_B, gd_undef, gdH_B, gdH_undef, pickA_B, extractA_tup, lenA_sl, lenA_row, fldA_fp, fldA_ptr, fldA_rptr, List.getElem?_cons_zero, List.getElem?_cons_succ, decide_true, decide_false, if_true, if_false, Bool.true_eq_false, Bool.false_eq_true, Bool.not_true, Bool.not_false]
    have hl2 : leave 0 [] [o, B true, I 0] H = some ([fz out, B true, I 0], []) := by
      unfold fz at e2 ⊢
      split at e2
      · rename_i he; rw [if_pos he]; exact leave0_all (ps := [_, _, _]) (H' := H') (by simp only [frzAll, e2, frzA_p, obs, oms, List.map_cons, List.map_nil])
      · rename_i he; rw [if_neg he]; exact leave0_all (ps := [_, _, _]) (H' := H') (by simp only [frzAll, e2, frzA_p, obs, oms, List.map_cons, List.map_nil])
    exact hl2
  | succ c ih =>
    intro out R o H kvs cl hG hS hr h hw hf
    have hid : H[id]? = some (mI kvs cl) := h.at (by simp)
    have e1 := map_len (enc := fun n : Int => I n) hid
    have hk : 0 < kvs.length := by
      rcases Nat.eq_zero_or_pos kvs.length with e | e
      · exfalso
        have hkv : kvs = [] := List.length_eq_zero_iff.mp e
        subst hkv
        have h1 := nodup_len_le (allOf p) out (allOf_nodup p) fun x hx => by
          have := hf x
          rw [aget_nil] at this
          apply Classical.byContradiction
          intro hno
          rw [if_pos ⟨hx, hno⟩] at this
          cases this
        have := hG.1
        omega
      · exact e
    have hk2 : (0 : Int) < kvs.length := by omega
    have hr1 := map_range (enc := fun n : Int => I n) hid
    have hc := h.newObj (.iter id cl [] cl) rfl
    have hne : H.length ≠ id := fun e => h.lt (id, mI kvs cl) (by simp) e.symm
    rw [L39_24_eq]
    simp only [e1, hk2, bin_gtr, hr1, obs, oms, bin_add, bin_sub, bin_lss, bin_leq, bin_gtr, bin_geq, bin_eql, bin_neq, bin_eqlB, bin_neqB, un_not, cond_B, gd_B, gd_undef, gdH_B, gdH_undef, pickA_B, extractA_tup, lenA_sl, lenA_row, fldA_fp, fldA_ptr, fldA_rptr, List.getElem?_cons_zero, List.getElem?_cons_succ, decide_true, decide_false, if_true, if_false, Bool.true_eq_false, Bool.false_eq_true, Bool.not_true, Bool.not_false]
    exact lp30 (nl := nl) (tg := tg) hl hS hw hf hG (fun b o H kvs cl g1 g2 g3 g4 g5 g6 => ih (out ++ [b]) R o H kvs cl g1 g2 g3 g4 g5 g6) hne _ [] 0 false _ rfl hc (fun q hq h0 => .inl (by simpa [left] using hq)) fun e => by cases e

theorem Shut.nil : Shut p [] := ⟨.nil, fun n hn => by cases hn⟩

def resP (p : List Dp) (R : Option (List Int)) : List AV := if 200 < p.length then [.p nilS, B false, I 2] else res R
theorem call39 {R : Option (List Int)} (hG : ¬ 200 < p.length → Goes p (allOf p).length [] R) (lo : List Nat) (H : Heap) : callA cfg O 39 [Lp nl tg p] lo H = some (.tup (resP p R), H) := by
  have key : O.ent 39 [Lp nl tg p] [] [] = some (resP p R, []) := by
    unfold resP
    rw [f39_eq]
    by_cases hl : 200 < p.length
    · rw [if_pos hl]
      simp only [lenA_sl, bin_gtr, obs, cond_B]
      rw [if_pos (by simp <;> omega)]
      rfl
    · rw [if_neg hl]
      have hm : mkMap [] = (.mp 0, [] ++ [mI [] 0]) := rfl
      have hC : Cx ([] ++ [mI [] 0]) [(0, mI [] 0)] [] := (Cx.nil []).newObj (mI [] 0) rfl
      obtain ⟨H', kvs', cl', e, c', w', k⟩ := lp12 (nl := nl) (tg := tg) (p := p) (by omega) _ 0 _ [] 0 rfl (by omega) hC WfM.nil (fun n => by simp [aget_nil, allOf])
      simp only [lenA_sl, bin_gtr, obs, cond_B, hm]
      rw [if_neg (by simp <;> omega)]
      rw [show (I 0) = I (0 : Nat) from rfl, e]
      exact lp24 (nl := nl) (tg := tg) (by omega) _ [] R (.p nilS) H' kvs' cl' (hG hl) Shut.nil (.inl ⟨rfl, rfl⟩) (c'.newNil 1) w' (fun n => by rw [k]; simp)
  have hr : (resP p R).all (AV.ltd 0) = true := by
    unfold resP res fz
    split
    · rfl
    · cases R with
      | none => rfl
      | some zs =>
        by_cases h : zs = []
        · simp only [h, if_true]; rfl
        · simp only [if_neg h]; rfl
  have h3 : ret (resP p R) = .tup (resP p R) := by
    unfold resP res
    split
    · rfl
    · cases R <;> rfl
  rw [← h3]
  exact callA_args rfl rfl key hr

end
end Lk
end Go.Proofs.Ytangmjeafnkfaaa
