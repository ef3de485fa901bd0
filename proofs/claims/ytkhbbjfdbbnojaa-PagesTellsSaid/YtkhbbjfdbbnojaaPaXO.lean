import Derived.Test.YtkhbbjfdbbnojaaPaQ
set_option linter.unusedVariables false
set_option linter.unusedSimpArgs false
namespace Go.Proofs.Ytkhbbjfdbbnojaa
open Go Go.AM
namespace Pa

section
variable {s : SD}
theorem thr0 {r : Int} (h : thr s r = 0) : chk s = 0 ∧ stands s.R r ∧ ∃ k : Nat, r = (k : Int) ∧ ∃ hk : k < s.R.length, s.R[k].2.2.length = 16 := by
  unfold thr at h
  by_cases h2 : chk s = 0 ∧ dec (stands s.R r) = false
  · rw [if_pos h2] at h; omega
  · rw [if_neg h2] at h
    obtain ⟨-, -, -, hR, -⟩ := chk0 h
    have hs : stands s.R r := by
      by_cases e : stands s.R r
      · exact e
      · exact absurd ⟨h, dec_f e⟩ h2
    obtain ⟨k, e, hk, h0⟩ := hs
    have ho := hR s.R[k].2.2 (List.mem_map.mpr ⟨_, List.getElem_mem hk, rfl⟩)
    exact ⟨h, ⟨k, e, hk, h0⟩, k, e, hk, by have := ho.1; omega⟩
theorem ask2_no {a b : Int} (h : thr s a ≠ 0) : ask2 s a b = thr s a := by
  unfold ask2
  by_cases hc : chk s = 0
  · rw [if_pos hc]
    have hns : ¬ stands s.R a := fun hs => h (by
      unfold thr
      rw [if_neg (by rw [dec_iff.mpr hs]; simp), hc])
    unfold thrL thr
    rw [if_neg (show ¬ dec (∀ r ∈ [a, b], stands s.R r) = true from fun e => hns ((dec_iff.mp e) a (by simp))), if_pos ⟨hc, dec_f hns⟩]
  · rw [if_neg hc]
    unfold thr
    rw [if_neg fun e => hc e.1]
theorem ask2_yes {a b : Int} (h : thr s a = 0) : ask2 s a b = thr s b := by
  obtain ⟨hc, hs, -⟩ := thr0 h
  unfold ask2 thrL thr
  rw [if_pos hc]
  by_cases hb : stands s.R b
  · rw [if_pos (dec_iff.mpr (by intro r hr; simp at hr; rcases hr with e | e <;> subst e <;> assumption)), if_neg (by rw [dec_iff.mpr hb]; simp), hc]
  · rw [if_neg (show ¬ dec (∀ r ∈ [a, b], stands s.R r) = true from fun e => hb ((dec_iff.mp e) b (by simp))), if_pos ⟨hc, dec_f hb⟩]

theorem tail31 (hl : ∀ d ∈ s.R, d.2.2.length < 2 ^ 63) {va : Nat} {b : Int} {t d t' : SD} {n e k f m h : Int} (hw : thr s va = 0) (hv : va < s.R.length) (h16 : s.R[va].2.2.length = 16) (bt : Bd t) (bd : Bd d) (st : Same t t')
    (dP : d.P = zP s.P s.U s.R[va].2.2) (dU : d.U = subC s.U s.R[va].2.2) (dR : ints d.R = (ints s.R).set va [])
    (hmh : (thr s b ≠ 0 ∧ m = 0 ∧ h = thr s b) ∨ (∃ vb : Nat, b = vb ∧ ∃ hb : vb < s.R.length, s.R[vb].2.2.length = 16 ∧ thr s b = 0 ∧ m = (shN s.R[va].2.2 s.R[vb].2.2 16 : Nat) ∧ h = 0)) :
    L7_31 [I va, I b, .ptr 0 0, I n, I e, .ptr 1 0, I k, I f, .ptr 2 0, I 0, I m, I h, I (chk s), I 0, I e, I f, .ptr 3 0, .ptr 4 0, I n, I k, I 0] [] [bxS s, bxS t, bxS d, bxS t', bxS eS] = some ([B true], []) := by
  obtain ⟨hc, -, -⟩ := thr0 hw
  obtain ⟨hp, hr, hul, hR, hU⟩ := chk0 hc
  have hl16 : ∀ d ∈ s.R, d.2.2.length ≤ 16 := fun d hd => by
    have := (hR d.2.2 (List.mem_map.mpr ⟨d, hd, rfl⟩)).1
    omega
  obtain ⟨s2, d', e48, sP, sR, dP', dU', dR'⟩ := ent48 hv hp hr hl16
  have sd : Same d d' := drop_res hc hv dP dU dR sP sR dP' dU' dR'
  have c48 : callA cfg O 48 [avS s, I va] [] [bxS s, bxS t, bxS d, bxS t', bxS eS] = some (avS d', [bxS s, bxS t, bxS d, bxS t', bxS eS]) := callA_args (H' := []) (rs := [avS d']) rfl (pureS1 _ _) e48 rfl
  have g0 : ([bxS s, bxS t, bxS d, bxS t', bxS eS] : Heap)[0]? = some (bxS s) := rfl
  have g0' : ([bxS s, bxS t, bxS d, bxS t', bxS d'] : Heap)[0]? = some (bxS s) := rfl
  have s1 : stA 3 (.ptr 4 0) (avS d') [] [bxS s, bxS t, bxS d, bxS t', bxS eS] = some [bxS s, bxS t, bxS d, bxS t', bxS d'] := stBox3 (a := .p nilS) (b := .p nilS) (c := .p nilS) rfl rfl
  have c45 := call45 hl b [] [bxS s, bxS t, bxS d, bxS t', bxS d']
  rw [L7_31_eq]
  rcases hmh with ⟨hb, rfl, rfl⟩ | ⟨vb, rfl, hvb, hb16, hb, rfl, rfl⟩
  · simp only [ldS0 g0, c48, s1, ldS0 g0', c45, hb, obs, oms, bin_add, bin_sub, bin_lss, bin_leq, bin_gtr, bin_geq, bin_eql, bin_neq, bin_eqlB, bin_neqB, un_not, cond_B, gd_B, gd_undef, gdH_B, gdH_undef, pickA_B, extractA_tup, lenA_sl, lenA_row, fldA_fp, fldA_ptr, fldA_rptr, List.getElem?_cons_zero, List.getElem?_cons_succ, decide_true, decide_false, if_true, if_false, Bool.true_eq_false, Bool.false_eq_true, Bool.not_true, Bool.not_false]
    exact end39 hl bt bd st sd rfl
  · have hx : ∀ x ∈ s.R[va].2.2, (-1 : Int) ≤ x := fun x hx => ((hR s.R[va].2.2 (List.mem_map.mpr ⟨_, List.getElem_mem hv, rfl⟩)).2 x hx).1
    have e49 := ent49 hv hvb h16 hb16 hx
    have c49 : callA cfg O 49 [avS s, I va, I vb] [] [bxS s, bxS t, bxS d, bxS t', bxS d'] = some (I (shN s.R[va].2.2 s.R[vb].2.2 16 : Nat), [bxS s, bxS t, bxS d, bxS t', bxS d']) := callA_args (H' := []) (rs := [I (shN s.R[va].2.2 s.R[vb].2.2 16 : Nat)]) rfl (pureS2 _ _ _) e49 rfl
    rw [hb] at c45
    simp only [ldS0 g0, c48, s1, ldS0 g0', c45, eq_self, c49, obs, oms, bin_add, bin_sub, bin_lss, bin_leq, bin_gtr, bin_geq, bin_eql, bin_neq, bin_eqlB, bin_neqB, un_not, cond_B, gd_B, gd_undef, gdH_B, gdH_undef, pickA_B, extractA_tup, lenA_sl, lenA_row, fldA_fp, fldA_ptr, fldA_rptr, List.getElem?_cons_zero, List.getElem?_cons_succ, decide_true, decide_false, if_true, if_false, Bool.true_eq_false, Bool.false_eq_true, Bool.not_true, Bool.not_false]
    exact end39 hl bt bd st sd rfl

theorem law (hk : Kns s) (hl : ∀ d ∈ s.R, d.2.2.length < 2 ^ 63) (a b at' v : Int) : O.ent 7 [avS s, I a, I b, I at', I v] [] [] = some ([B true], []) := by
  have b1 : boxO [] (AV.cells (avS s)) [] = some (.ptr 0 0, [bxS s]) := boxS s []
  have g1 : ([bxS s] : Heap)[0]? = some (bxS s) := rfl
  have bz1 : boxO [] [.p nilS, .p nilS, .p nilS] [bxS s] = some (.ptr 1 0, [bxS s, bz]) := rfl
  have bz2 : ∀ t : SD, boxO [] [.p nilS, .p nilS, .p nilS] [bxS s, bxS t] = some (.ptr 2 0, [bxS s, bxS t, bz]) := fun _ => rfl
  have bz3 : ∀ t d : SD, boxO [] [.p nilS, .p nilS, .p nilS] [bxS s, bxS t, bxS d] = some (.ptr 3 0, [bxS s, bxS t, bxS d, bxS eS]) := fun _ _ => rfl
  have bz4 : ∀ t d : SD, boxO [] [.p nilS, .p nilS, .p nilS] [bxS s, bxS t, bxS d, bxS eS] = some (.ptr 4 0, [bxS s, bxS t, bxS d, bxS eS, bxS eS]) := fun _ _ => rfl
  have s1 : ∀ t : SD, stA 3 (.ptr 1 0) (avS t) [] [bxS s, bz] = some [bxS s, bxS t] := fun t => stBox3 (a := .p nilS) (b := .p nilS) (c := .p nilS) rfl rfl
  have s2 : ∀ t d : SD, stA 3 (.ptr 2 0) (avS d) [] [bxS s, bxS t, bz] = some [bxS s, bxS t, bxS d] := fun t d => stBox3 (a := .p nilS) (b := .p nilS) (c := .p nilS) rfl rfl
  have s3 : ∀ t d t' : SD, stA 3 (.ptr 3 0) (avS t') [] [bxS s, bxS t, bxS d, bxS eS, bxS eS] = some [bxS s, bxS t, bxS d, bxS t', bxS eS] := fun t d t' => stBox3 (a := .p nilS) (b := .p nilS) (c := .p nilS) rfl rfl
  have gt : ∀ t : SD, ([bxS s, bxS t] : Heap)[0]? = some (bxS s) := fun _ => rfl
  have gd' : ∀ t d : SD, ([bxS s, bxS t, bxS d] : Heap)[0]? = some (bxS s) := fun _ _ => rfl
  have g5 : ∀ t d x y : SD, ([bxS s, bxS t, bxS d, bxS x, bxS y] : Heap)[0]? = some (bxS s) := fun _ _ _ _ => rfl
  have c44 := fun H => call44 hl [] H
  have c45 := fun H => call45 hl a [] H
  by_cases hw : thr s a = 0
  · obtain ⟨hc, hsa, va, rfl, hv, h16⟩ := thr0 hw
    obtain ⟨hp, hr, hul, hR, hU⟩ := chk0 hc
    have hl16 : ∀ d ∈ s.R, d.2.2.length ≤ 16 := fun d hd => by
      have := (hR d.2.2 (List.mem_map.mpr ⟨d, hd, rfl⟩)).1
      omega
    have hil : (ints s.R).length = s.R.length := by simp [ints]
    have hm : Sm s := ⟨by omega, by omega, fun d hd => by have := hl16 d hd; omega, by omega⟩
    have hrow := (hR s.R[va].2.2 (List.mem_map.mpr ⟨_, List.getElem_mem hv, rfl⟩)).2
    -- Drop
    obtain ⟨d, e42, dP, dU, dR⟩ := ent42_yes hk hm hw hc hv h16
    have c42 : ∀ H, callA cfg O 42 [avS s, I va] [] H = some (.tup [avS d, I 0], H) := fun H => callA_args (H' := []) (rs := [avS d, I 0]) rfl (pureS1 _ _) e42 rfl
    have bd : Bd d := ⟨by rw [dU, subC_len]; omega, by rw [dP, zP_len]; omega, by rw [rows_len dR, List.length_set]; omega, rows_bd dR (by
      intro l hl'
      rcases List.mem_or_eq_of_mem_set hl' with e | e
      · obtain ⟨d, hd, e2⟩ := List.mem_map.mp e
        rw [← e2]; exact hl16 d hd
      · subst e; simp)⟩
    -- Shared
    have h43 : ∃ m h, (∀ H, callA cfg O 43 [avS s, I va, I b] [] H = some (.tup [I m, I h], H)) ∧ ((thr s b ≠ 0 ∧ m = 0 ∧ h = thr s b) ∨ (∃ vb : Nat, b = vb ∧ ∃ hb : vb < s.R.length, s.R[vb].2.2.length = 16 ∧ thr s b = 0 ∧ m = (shN s.R[va].2.2 s.R[vb].2.2 16 : Nat) ∧ h = 0)) := by
      have e2 := ask2_yes (b := b) hw
      by_cases hb : thr s b = 0
      · obtain ⟨-, -, vb, rfl, hvb, hb16⟩ := thr0 hb
        have e := ent43_yes hl (by rw [e2, hb]) hv hvb h16 hb16
        exact ⟨_, _, fun H => callA_args (H' := []) (rs := [I (shN s.R[va].2.2 s.R[vb].2.2 16 : Nat), I 0]) rfl (pureS2 _ _ _) e rfl, .inr ⟨vb, rfl, hvb, hb16, hb, rfl, rfl⟩⟩
      · have e := ent43_no hl (a := va) (b := b) (by rw [e2]; exact hb)
        rw [e2] at e
        exact ⟨_, _, fun H => callA_args (H' := []) (rs := [I 0, I (thr s b)]) rfl (pureS2 _ _ _) e rfl, .inl ⟨hb, rfl, rfl⟩⟩
    obtain ⟨m, h, c43, hmh⟩ := h43
    rw [hw] at c45
    by_cases hat : 0 ≤ at' ∧ at' < 64
    · obtain ⟨i, rfl⟩ := Int.eq_ofNat_of_zero_le hat.1
      have hi64 : i < 64 := by omega
      have hi : i / 4 < s.R[va].2.2.length := by omega
      have hxx : s.R[va].2.2[i / 4] < s.P.length := by have := (hrow _ (List.getElem_mem hi)).2; omega
      have ha0 : ask s va i = 0 := by
        unfold ask
        rw [if_neg (by omega), hw]
      have e40 := ent40_yes hl ha0 hv hi hxx
      have c40 : ∀ H, callA cfg O 40 [avS s, I va, I i] [] H = some (.tup [I (cG (pgOf s.P s.R[va].2.2[i / 4]) (i % 4)), I 0], H) := fun H => callA_args (H' := []) (rs := [I (cG (pgOf s.P s.R[va].2.2[i / 4]) (i % 4)), I 0]) rfl (pureS2 _ _ _) e40 rfl
      have c46 : ∀ H, callA cfg O 46 [avS s, I va, I i] [] H = some (I (cG (pgOf s.P s.R[va].2.2[i / 4]) (i % 4)), H) := fun H => call46 hl hv hi rfl rfl hxx [] H
      obtain ⟨t, k, f, e41, hs⟩ := ent41_yes hk hm v ha0 hc hi64 hv h16
      have c41 : ∀ H, callA cfg O 41 [avS s, I va, I i, I v] [] H = some (.tup [avS t, I k, I f], H) := fun H => callA_args (H' := []) (rs := [avS t, I k, I f]) rfl (pureSn _ [_, _, _]) e41 rfl
      obtain ⟨t', k', f', e47, hr'⟩ := ent47 v hc hi64 hv h16
      have c47 : ∀ H, callA cfg O 47 [avS s, I va, I i, I v] [] H = some (.tup [avS t', I k', I f'], H) := fun H => callA_args (H' := []) (rs := [avS t', I k', I f']) rfl (pureSn _ [_, _, _]) e47 rfl
      obtain ⟨st, rfl, rfl⟩ := set_res hc hi hs hr'
      have bt := setRes_bd hc (by omega) hs
      have h1 : ¬ ((i : Int) < 0) := by omega
      have h2 : ¬ ((63 : Int) < (i : Int)) := by omega
      rw [f7_eq]
      simp only [b1, ldS0 g1, c40, c41, bz1, s1, ldS0 (gt _), c42, bz2, s2, ldS0 (gd' _ _), c43, c44, c45, bz3, bz4, eq_self, h1, h2, ldS0 (g5 _ _ _ _), c46, c47, s3, obs, oms, bin_add, bin_sub, bin_lss, bin_leq, bin_gtr, bin_geq, bin_eql, bin_neq, bin_eqlB, bin_neqB, un_not, cond_B, gd_B, gd_undef, gdH_B, gdH_undef, pickA_B, extractA_tup, lenA_sl, lenA_row, fldA_fp, fldA_ptr, fldA_rptr, List.getElem?_cons_zero, List.getElem?_cons_succ, decide_true, decide_false, if_true, if_false, Bool.true_eq_false, Bool.false_eq_true, Bool.not_true, Bool.not_false]
      exact tail31 hl hw hv h16 bt bd st dP dU dR hmh
    · have ha1 : ask s va at' = 1 := by
        unfold ask
        rw [if_pos ⟨hw, hat⟩]
      have hne : ask s va at' ≠ 0 := by omega
      have e40 := ent40_no hl hne
      have e41 := ent41_no hl v hne
      rw [ha1] at e40 e41
      have c40 : ∀ H, callA cfg O 40 [avS s, I va, I at'] [] H = some (.tup [I 0, I 1], H) := fun H => callA_args (H' := []) (rs := [I 0, I 1]) rfl (pureS2 _ _ _) e40 rfl
      have c41 : ∀ H, callA cfg O 41 [avS s, I va, I at', I v] [] H = some (.tup [avS eS, I 0, I 1], H) := fun H => callA_args (H' := []) (rs := [avS eS, I 0, I 1]) rfl (pureSn _ [_, _, _]) e41 rfl
      have fin := tail31 (e := 1) (n := 0) (k := 0) (f := 1) hl hw hv h16 eS_bd bd ⟨rfl, rfl, rfl⟩ dP dU dR hmh
      rw [f7_eq]
      by_cases h1 : at' < 0
      · simp only [b1, ldS0 g1, c40, c41, bz1, s1, ldS0 (gt _), c42, bz2, s2, ldS0 (gd' _ _), c43, c44, c45, bz3, bz4, eq_self, h1, obs, oms, bin_add, bin_sub, bin_lss, bin_leq, bin_gtr, bin_geq, bin_eql, bin_neq, bin_eqlB, bin_neqB, un_not, cond_B, gd_B, gd_undef, gdH_B, gdH_undef, pickA_B, extractA_tup, lenA_sl, lenA_row, fldA_fp, fldA_ptr, fldA_rptr, List.getElem?_cons_zero, List.getElem?_cons_succ, decide_true, decide_false, if_true, if_false, Bool.true_eq_false, Bool.false_eq_true, Bool.not_true, Bool.not_false]
        exact fin
      · have h2 : (63 : Int) < at' := by omega
        simp only [b1, ldS0 g1, c40, c41, bz1, s1, ldS0 (gt _), c42, bz2, s2, ldS0 (gd' _ _), c43, c44, c45, bz3, bz4, eq_self, h1, h2, obs, oms, bin_add, bin_sub, bin_lss, bin_leq, bin_gtr, bin_geq, bin_eql, bin_neq, bin_eqlB, bin_neqB, un_not, cond_B, gd_B, gd_undef, gdH_B, gdH_undef, pickA_B, extractA_tup, lenA_sl, lenA_row, fldA_fp, fldA_ptr, fldA_rptr, List.getElem?_cons_zero, List.getElem?_cons_succ, decide_true, decide_false, if_true, if_false, Bool.true_eq_false, Bool.false_eq_true, Bool.not_true, Bool.not_false]
        exact fin
  · have ha1 : ask s a at' = thr s a := by
      unfold ask
      rw [if_neg fun e => hw e.1]
    have hne : ask s a at' ≠ 0 := by rw [ha1]; exact hw
    have e40 := ent40_no hl hne
    have e41 := ent41_no hl v hne
    have e42 := ent42_no hl hw
    have e43 := ent43_no hl (a := a) (b := b) (by rw [ask2_no hw]; exact hw)
    rw [ask2_no hw] at e43
    rw [ha1] at e40 e41
    have c40 : ∀ H, callA cfg O 40 [avS s, I a, I at'] [] H = some (.tup [I 0, I (thr s a)], H) := fun H => callA_args (H' := []) (rs := [I 0, I (thr s a)]) rfl (pureS2 _ _ _) e40 rfl
    have c41 : ∀ H, callA cfg O 41 [avS s, I a, I at', I v] [] H = some (.tup [avS eS, I 0, I (thr s a)], H) := fun H => callA_args (H' := []) (rs := [avS eS, I 0, I (thr s a)]) rfl (pureSn _ [_, _, _]) e41 rfl
    have c42 : ∀ H, callA cfg O 42 [avS s, I a] [] H = some (.tup [avS eS, I (thr s a)], H) := fun H => callA_args (H' := []) (rs := [avS eS, I (thr s a)]) rfl (pureS1 _ _) e42 rfl
    have c43 : ∀ H, callA cfg O 43 [avS s, I a, I b] [] H = some (.tup [I 0, I (thr s a)], H) := fun H => callA_args (H' := []) (rs := [I 0, I (thr s a)]) rfl (pureS2 _ _ _) e43 rfl
    rw [f7_eq]
    simp only [b1, ldS0 g1, c40, c41, bz1, s1, ldS0 (gt _), c42, bz2, s2, ldS0 (gd' _ _), c43, c44, c45, bz3, bz4, hw, obs, oms, bin_add, bin_sub, bin_lss, bin_leq, bin_gtr, bin_geq, bin_eql, bin_neq, bin_eqlB, bin_neqB, un_not, cond_B, gd_B, gd_undef, gdH_B, gdH_undef, pickA_B, extractA_tup, lenA_sl, lenA_row, fldA_fp, fldA_ptr, fldA_rptr, List.getElem?_cons_zero, List.getElem?_cons_succ, decide_true, decide_false, if_true, if_false, Bool.true_eq_false, Bool.false_eq_true, Bool.not_true, Bool.not_false]
    exact end39 hl eS_bd eS_bd ⟨rfl, rfl, rfl⟩ ⟨rfl, rfl, rfl⟩ rfl
end
end Pa
end Go.Proofs.Ytkhbbjfdbbnojaa
