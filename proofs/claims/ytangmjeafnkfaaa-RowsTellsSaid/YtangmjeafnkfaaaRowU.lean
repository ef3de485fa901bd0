import Derived.Test.YtangmjeafnkfaaaRowT
set_option linter.unusedVariables false
set_option linter.unusedSimpArgs false
namespace Go.Proofs.Ytangmjeafnkfaaa
open Go Go.AM
namespace Row
section
variable {nl : Option Bool} {tg : Bool} {l : List Ev}

def thr (n : Int) (e : Ev) : Bool := decide (e.2.2.1 = n)
def own (l : List Ev) (n i : Nat) : List Int := flt (pat l (thr n)) i
theorem own_len (n i : Nat) : (own l n i).length ≤ i := flt_len _ _

theorem loop23 {k : Nat} (hl : l.length ≤ 200) (h0 : 0 < k) : ∀ (c i : Nat) (ps : List (AV × List Int)) (H : Heap), l.length - i = c → i ≤ l.length →
    ps.map Prod.snd = (List.range k).map (fun n => own l n i) → Cx H [(0, ps.map Prod.fst)] (ps.map gLl) →
    ∃ t ds H', L23_16 [I k, .bsl 0 k, L nl tg l, I l.length, I i] [] H = some ([W (some false) t ds, I 0], H') ∧ ints ds = (List.range k).map (fun n => own l n l.length) := by
  intro c
  induction c with
  | zero =>
    intro i ps H hc hi hp h
    have : i = l.length := by omega
    subst this
    have hlen : ps.length = k := by have := congrArg List.length hp; simpa using this
    obtain ⟨ds, H', e, e2⟩ := rr_frz h (by omega)
    have hd : ds.length = ps.length := by have := congrArg List.length e2; simpa [ints] using this
    refine ⟨false, ds, H', ?_, by rw [e2, hp]⟩
    rw [L23_16_eq]
    simp only [bin_lss, obs, cond_B]
    rw [if_neg (by simp)]
    rw [hlen] at e hd
    simp only [leave, frzAll, e, frzA_p, obs, oms, W, hd]
  | succ c ih =>
    intro i ps H hc hi hp h
    have hi' : i < l.length := by omega
    have hlen : ps.length = k := by have := congrArg List.length hp; simpa using this
    have c1 := h.push [bx l[i]]
    have step : ∀ H, L23_25 [I k, .bsl 0 k, L nl tg l, I l.length, I i] [] H = L23_16 [I k, .bsl 0 k, L nl tg l, I l.length, I (i + 1 : Nat)] [] H := by
      intro H
      rw [L23_25_eq]
      simp only [bin_add, obs]
      rw [wrap_id (by omega), nxt]
    rw [L23_16_eq]
    simp only [bin_lss, obs, cond_B]
    rw [if_pos (by simp <;> omega)]
    simp only [idxL hi', obs, ldE hi', boxE, stE, oms, fldA_ptr, ldB2, bin_geq]
    by_cases hin : 0 ≤ l[i].2.2.1 ∧ l[i].2.2.1 < k
    · obtain ⟨tn, ht⟩ : ∃ tn : Nat, l[i].2.2.1 = tn := ⟨l[i].2.2.1.toNat, by omega⟩
      have htk : tn < k := by omega
      have htl : tn < ps.length := by omega
      have hown : ps[tn].2 = own l tn i := by
        have : (ps.map Prod.snd)[tn]? = ((List.range k).map (fun n => own l n i))[tn]? := by rw [hp]
        simpa [htl, htk] using this
      have hol := own_len (l := l) tn i
      obtain ⟨o', H1, H2, e1, e2, c2⟩ := rr_app (x := (i : Int)) (lo := []) (l2 := []) (by simpa using c1) (by simp) (by simp) htl (by rw [hown]; omega)
      have g1 : (0 : Int) ≤ tn := by omega
      have g2 : (tn : Int) < k := by omega
      simp only [ht, g1, g2, gd_B, decide_true, if_true, obs, bin_lss, pickA_B, ldS_ptr, ldB2, rr_idx htk, rr_ld c1 htl, lit1, e1, e2, oms, step]
      rw [List.append_nil] at c2
      refine ih (i + 1) _ H2 (by omega) (by omega) ?_ c2
      refine List.ext_getElem (by simp [hlen]) fun n h1 h2 => ?_
      have hn : n < k := by simpa using h2
      have hpn : ps[n].2 = own l n i := by
        have : (ps.map Prod.snd)[n]? = ((List.range k).map (fun n => own l n i))[n]? := by rw [hp]
        simpa [hlen, hn] using this
      have hs : own l n (i + 1) = own l n i ++ if tn = n then [(i : Int)] else [] := by
        unfold own
        rw [flt_succ, pat_at hi']
        unfold thr
        rw [ht]
        by_cases e : tn = n
        · subst e; simp
        · have : ¬ ((tn : Int) = n) := by omega
          simp [e, this]
      simp only [List.getElem_map, List.getElem_set, List.getElem_range, hs]
      by_cases e : tn = n
      · subst e; simp [hown]
      · simp [e, hpn]
    · have c2 : Cx (H ++ [bx l[i]]) [(0, ps.map Prod.fst)] (ps.map gLl) := c1
      have hp2 : ps.map Prod.snd = (List.range k).map (fun n => own l n (i + 1)) := by
        rw [hp]
        refine List.map_congr_left fun n hn => ?_
        unfold own
        rw [flt_succ, pat_at hi']
        have : thr n l[i] = false := by
          have := List.mem_range.mp hn
          unfold thr
          simp only [decide_eq_false_iff_not]
          omega
        simp [this]
      have := ih (i + 1) ps _ (by omega) (by omega) hp2 c2
      by_cases g1 : 0 ≤ l[i].2.2.1
      · have g2 : ¬ l[i].2.2.1 < k := by omega
        simp only [g1, g2, gd_B, decide_true, decide_false, if_true, obs, ldB2, bin_lss, pickA_B, Bool.false_eq_true, if_false, step]
        exact this
      · simp only [g1, gd_B, decide_false, obs, Bool.false_eq_true, if_false, gd_undef, pickA_B, step]
        exact this

theorem loop23z (hl : l.length ≤ 200) : ∀ (c i : Nat) (H : Heap), l.length - i = c → i ≤ l.length → Cx H [] [(.row 0 0 0 0, 1, 0, [])] →
    ∃ n t H', L23_16 [I 0, .row 0 0 0 0, L nl tg l, I l.length, I i] [] H = some ([W n t [], I 0], H') := by
  intro c
  induction c with
  | zero =>
    intro i H hc hi h
    have : i = l.length := by omega
    subst this
    obtain ⟨n, t, H', e⟩ := h.hd.leave2 [] (Ia 0)
    refine ⟨n, t, H', ?_⟩
    rw [L23_16_eq]
    simp only [bin_lss, obs, cond_B]
    rw [if_neg (by simp)]
    exact e
  | succ c ih =>
    intro i H hc hi h
    have hi' : i < l.length := by omega
    have := ih (i + 1) _ (by omega) (by omega) (h.push [bx l[i]])
    have step : ∀ H, L23_25 [I 0, .row 0 0 0 0, L nl tg l, I l.length, I i] [] H = L23_16 [I 0, .row 0 0 0 0, L nl tg l, I l.length, I (i + 1 : Nat)] [] H := by
      intro H
      rw [L23_25_eq]
      simp only [bin_add, obs]
      rw [wrap_id (by omega), nxt]
    rw [L23_16_eq]
    simp only [bin_lss, obs, cond_B]
    rw [if_pos (by simp <;> omega)]
    simp only [idxL hi', obs, ldE hi', boxE, stE, oms, fldA_ptr, ldB2, bin_geq]
    by_cases g1 : 0 ≤ l[i].2.2.1
    · have g2 : ¬ l[i].2.2.1 < 0 := by omega
      simp only [g1, g2, gd_B, decide_true, decide_false, if_true, obs, ldB2, bin_lss, pickA_B, Bool.false_eq_true, if_false, step]
      exact this
    · simp only [g1, gd_B, decide_false, obs, Bool.false_eq_true, if_false, gd_undef, pickA_B, step]
      exact this

def errT (l : List Ev) (k : Int) : Int := if 200 < l.length then 2 else if k < 0 ∨ 8 < k then 1 else 0
def rowsR (l : List Ev) (k : Int) : List (List Int) := if errT l k = 0 then (List.range k.toNat).map (fun n => own l n l.length) else []

theorem call23 (k : Int) (lo : List Nat) (H : Heap) : ∃ n t ds, callA cfg O 23 [L nl tg l, I k] lo H = some (.tup [W n t ds, I (errT l k)], H) ∧ ints ds = rowsR l k := by
  unfold rowsR errT
  by_cases hl : 200 < l.length
  · simp only [if_pos hl]
    refine ⟨some true, true, [], callA_args (H' := []) (rs := [_, _]) rfl rfl ?_ rfl, by simp [ints]⟩
    rw [f23_eq]
    simp only [lenA_sl, obs, bin_gtr, cond_B]
    rw [if_pos (by simp <;> omega)]
    rfl
  · simp only [if_neg hl]
    by_cases hk : k < 0 ∨ 8 < k
    · simp only [if_pos hk]
      refine ⟨some true, true, [], callA_args (H' := []) (rs := [_, _]) rfl rfl ?_ rfl, by simp [ints]⟩
      rw [f23_eq]
      simp only [lenA_sl, obs, bin_gtr, cond_B]
      rw [if_neg (by simp <;> omega)]
      by_cases g : k < 0
      · simp [bin_lss, g, -Option.bind_some, obs, nilS, leave, frzAll, frzA, frzLeaf]
      · have g2 : 8 < k := by omega
        simp [bin_lss, g, g2, -Option.bind_some, obs, nilS, leave, frzAll, frzA, frzLeaf]
    · simp only [if_neg hk, if_true]
      obtain ⟨m, rfl⟩ : ∃ m : Nat, k = m := ⟨k.toNat, by omega⟩
      have hh : f23_eq = f23_eq := rfl
      have key : O.ent 23 [L nl tg l, I m] [] [] = (mkBsl 1 24 [nilS] (I m) (I m) []).bind fun r7 => L23_16 [I m, r7.1, L nl tg l, I l.length, I 0] [] r7.2 := by
        rw [f23_eq]
        simp only [lenA_sl, obs, bin_gtr, cond_B]
        rw [if_neg (by simp <;> omega)]
        have g1 : ¬ (m : Int) < 0 := by omega
        have g2 : ¬ (8 : Int) < m := by omega
        simp only [bin_lss, g1, g2, decide_false, obs, gd_B, if_true, bin_gtr, pickA_B, Bool.false_eq_true, if_false, cond_B]
      by_cases h0 : m = 0
      · subst h0
        obtain ⟨n, t, H', e⟩ := loop23z (nl := nl) (tg := tg) (l := l) (by omega) _ 0 ([] ++ [.row 0 1 []]) rfl (by omega) ((Cx.nil []).newRow (sz := 1) (m := 0) (cs := []) rfl)
        refine ⟨n, t, [], callA_args (H' := H') (rs := [_, _]) rfl rfl ?_ rfl, by simp [ints]⟩
        rw [key]
        exact e
      · obtain ⟨H1, e1, c1⟩ := rr_make (n := m) (Cx.nil []) (by omega) (by omega)
        have hrep : (List.replicate m ((.p nilS, []) : AV × List Int)).map Prod.snd = (List.range m).map (fun n => own l n 0) := by
          refine List.ext_getElem (by simp) fun n h1 h2 => ?_
          simp [own, flt]
        obtain ⟨t, ds, H', e, e2⟩ := loop23 (nl := nl) (tg := tg) (l := l) (k := m) (by omega) (by omega) _ 0 (List.replicate m (.p nilS, [])) H1 rfl (by omega) hrep (by simpa using c1)
        refine ⟨some false, t, ds, callA_args (H' := H') (rs := [_, _]) rfl rfl ?_ rfl, by simpa using e2⟩
        rw [key, e1]
        exact e

end
end Row
end Go.Proofs.Ytangmjeafnkfaaa
