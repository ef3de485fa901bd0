import Derived.Test.YtfdkacaocngfkaaHunV
set_option linter.unusedVariables false
set_option linter.unusedSimpArgs false
namespace Go.Proofs.Ytfdkacaocngfkaa
open Go Go.AM
namespace Hun

theorem set_mid {α : Type} (K mid D : List α) (z : α) : (K ++ (mid ++ z :: D)).set K.length z = (K ++ [z]) ++ ((mid ++ [z]).tail ++ D) := by
  rw [List.set_append_right _ _ (Nat.le_refl _), Nat.sub_self]
  cases mid with
  | nil => simp
  | cons a m => simp

theorem zeros1 (n : Nat) (y : PV) : (zerosA n [y]).length = n := by
  unfold zerosA
  induction n with
  | zero => rfl
  | succ n ih => rw [List.replicate_succ, List.flatten_cons]; simp at ih ⊢

section
variable {fx : List (Nat × AObj)} {ls : List Ll} {cl : AV} {p : Int → Bool} {zs : List Int} {id g : Nat}

def kept (p : Int → Bool) (zs : List Int) (k : Nat) : List Int := (zs.take k).filter fun n => !p n

theorem kept_succ {k : Nat} (h : k < zs.length) : kept p zs (k + 1) = kept p zs k ++ (if p zs[k] = true then [] else [zs[k]]) := by
  unfold kept
  rw [List.take_add_one, List.getElem?_eq_getElem h, List.filter_append]
  congr 1
  cases hp : p zs[k] <;> simp [hp]
theorem kept_le (k : Nat) (h : k ≤ zs.length) : (kept p zs k).length ≤ k := by
  unfold kept
  have := List.length_filter_le (fun n => !p n) (zs.take k)
  rw [List.length_take] at this
  omega

theorem delLoop (hb : zs.length < 2 ^ 40) (hcl : ∀ n ∈ zs, ∀ H, Cx H fx ls → ∃ os, callV cfg O cl [I n] [] H = some (B (p n), H ++ os)) : ∀ (c k : Nat) (mid : List PV) (H : Heap), zs.length - k = c → k ≤ zs.length →
    (kept p zs k).length + mid.length = k → 
    Cx H fx ((.row id g 0 zs.length, 1, zs.length, (kept p zs k).map Ia ++ (mid ++ (zs.drop k).map Ia)) :: ls) →
    ∃ H' tail, L75_12 [.row id g 0 zs.length, cl, I (kept p zs k).length, I k] [] H = some ([.row id g 0 (kept p zs zs.length).length], H') ∧
      Cx H' fx ((.row id g 0 zs.length, 1, zs.length, (kept p zs zs.length).map Ia ++ tail) :: ls) := by
  intro c
  induction c with
  | zero =>
    intro k mid H hc hk hm hC
    have : k = zs.length := by omega
    subst this
    have hrow := (Lst.at hC.hd)
    have hlen := hC.hd.1
    rw [L75_12_eq]
    simp only [obs, oms, bin_add, bin_sub, bin_lss, bin_leq, bin_gtr, bin_geq, bin_eql, bin_neq, bin_eqlB, bin_neqB, un_not, cond_B, gd_B, gd_undef, gdH_B, gdH_undef, pickA_B, extractA_tup, lenA_sl, lenA_row, fldA_fp, fldA_ptr, fldA_rptr, List.getElem?_cons_zero, List.getElem?_cons_succ, decide_true, decide_false, if_true, if_false, Bool.true_eq_false, Bool.false_eq_true, Bool.not_true, Bool.not_false]
    rw [if_neg (by simp)]
    have hcut : cutA 1 (.row id g 0 zs.length) (some (I (kept p zs zs.length).length)) none none H = some (.row id g (kept p zs zs.length).length (zs.length - (kept p zs zs.length).length)) := by
      simp only [cutA, bnd, asI, Option.bind_some, hrow]
      rw [if_pos (by simp; omega)]
      simp
    have hclr : clearA 1 [.v (.int .i64 0)] (.row id g (kept p zs zs.length).length (zs.length - (kept p zs zs.length).length)) H = some (H.set id (.row g 1 ((kept p zs zs.length).map Ia ++ zerosA (zs.length - (kept p zs zs.length).length) [.v (.int .i64 0)]))) := by
      simp only [clearA, hrow]
      rw [if_pos (by simp at hlen ⊢; omega)]
      congr 3
      rw [splice_take _ _ _ (by rw [zeros1]; simp at hlen ⊢; omega)]
      rw [List.take_append_of_le_length (by simp), List.take_of_length_le (by simp), List.drop_eq_nil_of_le (by rw [zeros1]; simp at hlen ⊢; omega), List.append_nil]
    have hC' := hC.setRow (l1 := []) (cs' := (kept p zs zs.length).map Ia ++ zerosA (zs.length - (kept p zs zs.length).length) [.v (.int .i64 0)]) (by simp only [List.length_append, zeros1]; simp; omega)
    have hcut2 := cutA_row_hi (sz := 1) (g := g) (n := zs.length) (h := (kept p zs zs.length).length) (Lst.at hC'.hd) (by omega)
    simp only [hcut, obs, hclr, oms, hcut2]
    exact ⟨_, _, rfl, hC'⟩
  | succ c ih =>
    intro k mid H hc hk hm hC
    have hk' : k < zs.length := by omega
    have hrow := (Lst.at hC.hd)
    have hlen := hC.hd.1
    obtain ⟨os, hcv⟩ := hcl _ (List.getElem_mem hk') H hC.tl
    have hix : idxA 1 (.row id g 0 zs.length) (I k) = some (.rptr id g k) := by rw [idxA_row (by omega)]; simp
    have hcells : (kept p zs k).map Ia ++ (mid ++ (zs.drop k).map Ia) = (kept p zs k).map Ia ++ (mid ++ Ia zs[k] :: (zs.drop (k + 1)).map Ia) := by rw [List.drop_eq_getElem_cons hk', List.map_cons]
    have hld : ld false 1 (.rptr id g k) H = some (I zs[k]) := by
      rw [ld_row hrow, hcells, ← List.append_assoc, List.getElem?_append_right (by simp; omega)]
      simp [show k - ((kept p zs k).length + mid.length) = 0 by omega]
    have hks := kept_succ (p := p) hk'
    rw [L75_12_eq]
    simp only [obs, oms, bin_add, bin_sub, bin_lss, bin_leq, bin_gtr, bin_geq, bin_eql, bin_neq, bin_eqlB, bin_neqB, un_not, cond_B, gd_B, gd_undef, gdH_B, gdH_undef, pickA_B, extractA_tup, lenA_sl, lenA_row, fldA_fp, fldA_ptr, fldA_rptr, List.getElem?_cons_zero, List.getElem?_cons_succ, decide_true, decide_false, if_true, if_false, Bool.true_eq_false, Bool.false_eq_true, Bool.not_true, Bool.not_false]
    rw [if_pos (by simp <;> omega), hix]
    simp only [obs, oms, bin_add, bin_sub, bin_lss, bin_leq, bin_gtr, bin_geq, bin_eql, bin_neq, bin_eqlB, bin_neqB, un_not, cond_B, gd_B, gd_undef, gdH_B, gdH_undef, pickA_B, extractA_tup, lenA_sl, lenA_row, fldA_fp, fldA_ptr, fldA_rptr, List.getElem?_cons_zero, List.getElem?_cons_succ, decide_true, decide_false, if_true, if_false, Bool.true_eq_false, Bool.false_eq_true, Bool.not_true, Bool.not_false, hld, hcv]
    have next : ∀ H' mid', (kept p zs (k + 1)).length + mid'.length = k + 1 → Cx H' fx ((.row id g 0 zs.length, 1, zs.length, (kept p zs (k + 1)).map Ia ++ (mid' ++ (zs.drop (k + 1)).map Ia)) :: ls) →
        ∃ H'' tail, L75_15 [.row id g 0 zs.length, cl, I (kept p zs (k + 1)).length, I k] [] H' = some ([.row id g 0 (kept p zs zs.length).length], H'') ∧ Cx H'' fx ((.row id g 0 zs.length, 1, zs.length, (kept p zs zs.length).map Ia ++ tail) :: ls) := by
      intro H' mid' h1 h2
      rw [L75_15_eq]
      simp only [obs, oms, bin_add, bin_sub, bin_lss, bin_leq, bin_gtr, bin_geq, bin_eql, bin_neq, bin_eqlB, bin_neqB, un_not, cond_B, gd_B, gd_undef, gdH_B, gdH_undef, pickA_B, extractA_tup, lenA_sl, lenA_row, fldA_fp, fldA_ptr, fldA_rptr, List.getElem?_cons_zero, List.getElem?_cons_succ, decide_true, decide_false, if_true, if_false, Bool.true_eq_false, Bool.false_eq_true, Bool.not_true, Bool.not_false]
      rw [wrap_id (by omega), nxt]
      exact ih (k + 1) mid' H' (by omega) (by omega) h1 h2
    have hC1 := hC.push os
    cases ht : p zs[k] with
    | true =>
      rw [if_pos ht, List.append_nil] at hks
      simp only [Bool.not_true, Bool.false_eq_true, if_false]
      rw [← hks]
      refine next _ (mid ++ [Ia zs[k]]) (by rw [hks]; simp; omega) ?_
      rw [hks]
      rw [hcells] at hC1
      simpa using hC1
    | false =>
      rw [if_neg (by simp [ht])] at hks
      have hkl := kept_le (p := p) k hk
      have hix2 : idxA 1 (.row id g 0 zs.length) (I (kept p zs k).length) = some (.rptr id g (kept p zs k).length) := by rw [idxA_row (by omega)]; simp
      rw [hcells] at hC1
      have hrow1 := Lst.at hC1.hd
      have hst := stA_row (x := Ia zs[k]) (off := (kept p zs k).length) (lo := []) hrow1 (by simp; omega)
      have hset := set_mid ((kept p zs k).map Ia) mid ((zs.drop (k + 1)).map Ia) (Ia zs[k])
      rw [List.length_map] at hset
      rw [hset] at hst
      have hC2 := hC1.setRow (l1 := []) (cs' := (kept p zs k).map Ia ++ [Ia zs[k]] ++ ((mid ++ [Ia zs[k]]).tail ++ (zs.drop (k + 1)).map Ia)) (by rw [← hset, List.length_set])
      simp only [Bool.not_false, if_true, hix2, obs, oms, bin_add, bin_sub, bin_lss, bin_leq, bin_gtr, bin_geq, bin_eql, bin_neq, bin_eqlB, bin_neqB, un_not, cond_B, gd_B, gd_undef, gdH_B, gdH_undef, pickA_B, extractA_tup, lenA_sl, lenA_row, fldA_fp, fldA_ptr, fldA_rptr, List.getElem?_cons_zero, List.getElem?_cons_succ, decide_true, decide_false, if_true, if_false, Bool.true_eq_false, Bool.false_eq_true, Bool.not_true, Bool.not_false, hst]
      rw [wrap_id (by omega), show ((kept p zs k).length : Int) + 1 = ((kept p zs (k + 1)).length : Int) by rw [hks]; simp]
      refine next _ ((mid ++ [Ia zs[k]]).tail) (by rw [hks]; simp; omega) ?_
      rw [hks]
      simpa using hC2

theorem call75 (hb : zs.length < 2 ^ 40) (hcl : ∀ n ∈ zs, ∀ H, Cx H fx ls → ∃ os, callV cfg O cl [I n] [] H = some (B (p n), H ++ os)) {H : Heap} (hC : Cx H fx ((.row id g 0 zs.length, 1, zs.length, zs.map Ia) :: ls)) :
    ∃ H' tail, callA cfg O 75 [.row id g 0 zs.length, cl] [] H = some (.row id g 0 (zs.filter fun n => !p n).length, H') ∧
      Cx H' fx ((.row id g 0 zs.length, 1, zs.length, (zs.filter fun n => !p n).map Ia ++ tail) :: ls) := by
  have hfull : kept p zs zs.length = zs.filter fun n => !p n := by unfold kept; rw [List.take_length]
  obtain ⟨z, os, h1, h2, h3⟩ := call88 (x := .row id g 0 zs.length) (cl := cl) (p := p) (zs := zs) (lo := []) (P := fun H => Cx H fx ((.row id g 0 zs.length, 1, zs.length, zs.map Ia) :: ls)) (by omega) (fun H h => Src.of h.hd) (fun n hn H h => by
    obtain ⟨os, e⟩ := hcl n hn H h.tl
    exact ⟨os, e, h.push os⟩) H hC
  obtain ⟨rfl, h⟩ | ⟨k, rfl, _, ⟨hk, hpk⟩, h⟩ := h3
  · rw [List.drop_zero] at h
    have e : (zs.filter fun n => !p n) = zs := by
      rw [List.filter_eq_self]
      intro n hn
      rw [List.any_eq_false] at h
      have := h n hn
      simpa using this
    rw [e]
    refine ⟨_, [], callA_keep (rs := [_]) rfl ?_, by rw [List.append_nil]; exact h2⟩
    rw [f75_eq]
    simp only [h1, obs, oms, bin_add, bin_sub, bin_lss, bin_leq, bin_gtr, bin_geq, bin_eql, bin_neq, bin_eqlB, bin_neqB, un_not, cond_B, gd_B, gd_undef, gdH_B, gdH_undef, pickA_B, extractA_tup, lenA_sl, lenA_row, fldA_fp, fldA_ptr, fldA_rptr, List.getElem?_cons_zero, List.getElem?_cons_succ, decide_true, decide_false, if_true, if_false, Bool.true_eq_false, Bool.false_eq_true, Bool.not_true, Bool.not_false]
    rfl
  · have hk1 : kept p zs (k + 1) = zs.take k := by
      rw [kept_succ hk, if_pos hpk, List.append_nil]
      unfold kept
      rw [List.filter_eq_self]
      intro n hn
      obtain ⟨j, hj, e⟩ := List.getElem_of_mem hn
      rw [List.getElem_take] at e
      simp at hj
      have := h j (by omega) (by omega) (by omega)
      rw [e] at this
      simp [this]
    have hkl : (kept p zs (k + 1)).length = k := by rw [hk1, List.length_take]; omega
    obtain ⟨H', tail, e1, e2⟩ := delLoop (p := p) (id := id) (g := g) hb hcl _ (k + 1) [Ia zs[k]] (H ++ os) rfl (by omega) (by rw [hkl]; rfl) (by
      have : (kept p zs (k + 1)).map Ia ++ ([Ia zs[k]] ++ (zs.drop (k + 1)).map Ia) = zs.map Ia := by
        rw [hk1]
        have e : zs.take k ++ ([zs[k]] ++ zs.drop (k + 1)) = zs := by
          have := List.take_append_drop k zs
          rw [List.drop_eq_getElem_cons hk] at this
          exact this
        have e2 := congrArg (List.map Ia) e
        rw [List.map_append, List.map_append] at e2
        exact e2
      rw [this]; exact h2)
    rw [hfull] at e1 e2
    rw [hkl] at e1
    refine ⟨H', tail, callA_keep (rs := [_]) rfl ?_, e2⟩
    rw [f75_eq]
    simp only [h1, obs, oms, bin_add, bin_sub, bin_lss, bin_leq, bin_gtr, bin_geq, bin_eql, bin_neq, bin_eqlB, bin_neqB, un_not, cond_B, gd_B, gd_undef, gdH_B, gdH_undef, pickA_B, extractA_tup, lenA_sl, lenA_row, fldA_fp, fldA_ptr, fldA_rptr, List.getElem?_cons_zero, List.getElem?_cons_succ, decide_true, decide_false, if_true, if_false, Bool.true_eq_false, Bool.false_eq_true, Bool.not_true, Bool.not_false]
    rw [if_neg (by simp), wrap_id (by omega), nxt, e1]
end
end Hun
end Go.Proofs.Ytfdkacaocngfkaa
