import Derived.Test.YtangmjeafnkfaaaESnapPatches
import Derived.Test.YtangmjeafnkfaaaESchedPacks
import Derived.Test.YtangmjeafnkfaaaSpoolU
set_option linter.unusedVariables false
set_option linter.unusedSimpArgs false
namespace Go.Proofs.Ytangmjeafnkfaaa
open Go Go.AM
namespace Pack

theorem callA_keep {cfg : Cfg} {O : Oracle} {g : FuncId} {xs : List AV} {lo : List Nat} {H H' : Heap} {rs : List AV} (hm : cfg.mode g = 1) (h : O.ent g xs lo H = some (rs, H')) : callA cfg O g xs lo H = some (ret rs, H') := by
  unfold callA
  rw [hm]
  simp only [h, oms]

def thr (n : Int) : Bool := decide (0 ≤ n) && decide (n < 8)

theorem call124 (n : Int) (lo : List Nat) (H : Heap) : callA cfg O 124 [I n] lo H = some (B (thr n), H) := by
  refine callA_args (H' := []) (rs := [B (thr n)]) rfl rfl ?_ rfl
  rw [f124_eq]
  unfold thr
  by_cases h : 0 ≤ n
  · simp [-Option.bind_some, obs, h]
  · simp [-Option.bind_some, obs, h]

theorem call123 (n : Int) (lo : List Nat) (H : Heap) : callA cfg O 123 [I n] lo H = some (B (!thr n), H) := by
  refine callA_args (H' := []) (rs := [B (!thr n)]) rfl rfl ?_ rfl
  rw [f123_eq]
  simp only [call124, obs, un_not]
  rfl

section
variable {nl : Option Bool} {tg : Bool} {zs : List Int}
abbrev V (nl : Option Bool) (tg : Bool) (zs : List Int) : AV := .p (.sl nl tg zs.length (zs.map Ia))

theorem idx {k : Nat} (h : k < zs.length) : idxA 1 (V nl tg zs) (I k) = some (.fp (zs.map Ia) k) := by
  have := idxA_sl (sz := 1) (n := zs.length) (nl := nl) (t := tg) (xs := zs.map Ia) (j := (k : Int)) (by omega)
  simpa using this

theorem ldi {k : Nat} (h : k < zs.length) (H : Heap) : ld false 1 (.fp (zs.map Ia) k) H = some (I zs[k]) := by
  rw [ld_fp, List.getElem?_map, List.getElem?_eq_getElem h]; rfl

theorem anyLoop (hb : zs.length < 2 ^ 63) (lo : List Nat) (H : Heap) : ∀ (c i : Nat), zs.length - i = c → i ≤ zs.length →
    ∃ z : Int, L147_6 [V nl tg zs, .fn 123 [] [], I zs.length, I i] lo H = some ([I z], H) ∧ decide (0 ≤ z) = (zs.drop i).any fun n => !thr n := by
  intro c
  induction c with
  | zero =>
    intro i hc hi
    have : i = zs.length := by omega
    subst this
    refine ⟨-1, ?_, by simp⟩
    rw [L147_6_eq]
    simp only [bin_lss, obs, cond_B]
    rw [if_neg (by simp)]
    rfl
  | succ c ih =>
    intro i hc hi
    have hi' : i < zs.length := by omega
    have hcv : callV cfg O (.fn 123 [] []) [I zs[i]] lo H = some (B (!thr zs[i]), H) := call123 zs[i] lo H
    obtain ⟨z, h1, h2⟩ := ih (i + 1) (by omega) (by omega)
    have hstep : L147_6 [V nl tg zs, .fn 123 [] [], I zs.length, I i] lo H = if (!thr zs[i]) = true then some ([I i], H) else L147_6 [V nl tg zs, .fn 123 [] [], I zs.length, I (i + 1 : Nat)] lo H := by
      rw [L147_6_eq]
      simp only [bin_lss, obs, cond_B]
      rw [if_pos (by simp; omega), idx hi']
      simp only [obs, ldi hi', hcv, cond_B, bin_add]
      rw [wrap_id (by omega), show (i : Int) + 1 = ((i + 1 : Nat) : Int) by omega]
      rfl
    rw [hstep, List.drop_eq_getElem_cons hi', List.any_cons]
    cases ht : thr zs[i] with
    | true =>
      refine ⟨z, ?_, by simpa using h2⟩
      simpa using h1
    | false => exact ⟨i, by simp, by simp⟩

theorem call122 (hb : zs.length < 2 ^ 63) (lo : List Nat) (H : Heap) : callA cfg O 122 [V nl tg zs, .fn 123 [] []] lo H = some (B (zs.any fun n => !thr n), H) := by
  obtain ⟨z, h1, h2⟩ := anyLoop (nl := nl) (tg := tg) (zs := zs) hb lo H zs.length 0 rfl (by omega)
  refine callA_keep (rs := [B (zs.any fun n => !thr n)]) rfl ?_
  rw [f122_eq]
  have h147 : callA cfg O 147 [V nl tg zs, .fn 123 [] []] lo H = some (I z, H) := by
    refine callA_keep (rs := [I z]) rfl ?_
    rw [f147_eq]
    simp only [lenA_sl, obs]
    exact h1
  simp only [h147, obs, bin_geq]
  rw [h2, List.drop_zero]
  rfl

/-! ### Runs -/
def val (p : Int × Int) : List PV := [Ia p.1, Ia p.2]
theorem val_len (p : Int × Int) : (val p).length = 2 := rfl

def pk (acc : List (Int × Int)) (x : Int) : List (Int × Int) :=
  match acc.getLast? with
  | some p => if p.1 = x then acc.dropLast ++ [(p.1, p.2 + 1)] else acc ++ [(x, 1)]
  | none => [(x, 1)]

def pks (zs : List Int) : List (Int × Int) := zs.foldl pk []

theorem pks_snoc (zs : List Int) (x : Int) : pks (zs ++ [x]) = pk (pks zs) x := by
  unfold pks
  rw [List.foldl_append, List.foldl_cons, List.foldl_nil]

theorem pk_bound {acc : List (Int × Int)} {x : Int} {n : Int} (h : ∀ p ∈ acc, 1 ≤ p.2 ∧ p.2 ≤ n) (hn : 0 ≤ n) : ∀ p ∈ pk acc x, 1 ≤ p.2 ∧ p.2 ≤ n + 1 := by
  intro p hp
  unfold pk at hp
  split at hp
  · rename_i q hq
    have hqm := List.mem_of_getLast? hq
    have hq2 := h q hqm
    split at hp
    · rcases List.mem_append.mp hp with e | e
      · have := h p ((List.dropLast_sublist _).subset e); omega
      · simp at e; subst e; simp; omega
    · rcases List.mem_append.mp hp with e | e
      · have := h p e; omega
      · simp at e; subst e; simp; omega
  · simp at hp; subst hp; simp; omega

theorem pks_bound : ∀ (zs : List Int), ∀ p ∈ pks zs, 1 ≤ p.2 ∧ p.2 ≤ zs.length := by
  refine snoc_ind (by intro p hp; cases hp) fun zs x ih => ?_
  intro p hp
  rw [pks_snoc] at hp
  have := pk_bound ih (by omega) p hp
  rw [List.length_append, List.length_singleton]
  omega

theorem pk_len (acc : List (Int × Int)) (x : Int) : (pk acc x).length ≤ acc.length + 1 := by
  unfold pk
  split
  · rename_i q hq
    split
    · simp
    · simp
  · simp

theorem pks_len : ∀ (zs : List Int), (pks zs).length ≤ zs.length := by
  refine snoc_ind (by simp [pks]) fun zs x ih => ?_
  rw [pks_snoc, List.length_append, List.length_singleton]
  have := pk_len (pks zs) x
  omega

/-- A list of runs in a row of the call's own. -/
def Own (out : AV) (H : Heap) (acc : List (Int × Int)) : Prop := (acc = [] ∧ out = .p nilS) ∨ ∃ id g, out = .row id g 0 acc.length ∧ H[id]? = some (.row g 2 (acc.flatMap val))

theorem Own.lst {out : AV} {H : Heap} {acc : List (Int × Int)} (h : Own out H acc) : Lst 2 out H acc.length (acc.flatMap val) := by
  rcases h with ⟨rfl, rfl⟩ | ⟨id, g, rfl, ho⟩
  · exact Lst.nil 2 H
  · exact Lst.row (by rw [rows_length val_len]) ho

theorem take_snoc {α : Type} {bs : List α} {i : Nat} (h : i < bs.length) : bs.take (i + 1) = bs.take i ++ [bs[i]] := by
  rw [List.take_add_one, List.getElem?_eq_getElem h]; rfl

theorem packLoop (hz : zs.length ≤ 200) (lo : List Nat) : ∀ (c i : Nat) (out : AV) (H : Heap), zs.length - i = c → i ≤ zs.length → Own out H (pks (zs.take i)) →
    ∃ nl' tg' H', L57_16 [out, V nl tg zs, I zs.length, I i] lo H = some ([.p (.sl nl' tg' (pks zs).length ((pks zs).flatMap val)), I 0], H') := by
  intro c
  induction c with
  | zero =>
    intro i out H hc hi hO
    have : i = zs.length := by omega
    subst this
    rw [List.take_length] at hO
    obtain ⟨nl', tg', H', e⟩ := hO.lst.leave2 lo (Ia 0)
    refine ⟨nl', tg', H', ?_⟩
    rw [L57_16_eq]
    simp only [bin_lss, obs, cond_B]
    rw [if_neg (by simp)]
    exact e
  | succ c ih =>
    intro i out H hc hi hO
    have hi' : i < zs.length := by omega
    have hlen := pks_len (zs.take i)
    rw [List.length_take] at hlen
    have hL := hO.lst
    -- the next round
    have next : ∀ out' H', Own out' H' (pk (pks (zs.take i)) zs[i]) → ∃ nl' tg' H'', L57_29 [out', V nl tg zs, I zs.length, I i] lo H' = some ([.p (.sl nl' tg' (pks zs).length ((pks zs).flatMap val)), I 0], H'') := by
      intro out' H' h
      rw [L57_29_eq]
      simp only [bin_add, obs]
      rw [wrap_id (by omega), show (i : Int) + 1 = ((i + 1 : Nat) : Int) by omega]
      exact ih (i + 1) out' H' (by omega) (by omega) (by rw [take_snoc hi', pks_snoc]; exact h)
    -- a new run
    have fresh : pk (pks (zs.take i)) zs[i] = pks (zs.take i) ++ [(zs[i], 1)] → ∃ nl' tg' H'', ((buildA [I 0, I 0] [(0, 1, I zs[i]), (1, 1, I 1)]).bind fun x22 => (litA false 2 [x22] H).bind fun r23 => (appA 2 16 out r23.1 r23.2).bind fun r24 => L57_29 [r24.1, V nl tg zs, I zs.length, I i] lo r24.2) = some ([.p (.sl nl' tg' (pks zs).length ((pks zs).flatMap val)), I 0], H'') := by
      intro hp
      have bld : buildA [I 0, I 0] [(0, 1, I zs[i]), (1, 1, I 1)] = some (.agg [I zs[i], I 1]) := rfl
      have hlit : litA false 2 [.agg [I zs[i], I 1]] H = some (.p (.sl (some false) true 1 (val (zs[i], 1))), H) := rfl
      obtain ⟨out', H1, ea, hL', _, _, _, id, g, ho1, ho2⟩ := hL.app (bytes := 16) (y := .p (.sl (some false) true 1 (val (zs[i], 1)))) (k := 1) (new := val (zs[i], 1)) (by simp [cellsA, val_len]) rfl (by omega) (by simp only [room]; omega)
      simp only [bld, hlit, obs, ea]
      refine next out' H1 ?_
      rw [hp]
      exact .inr ⟨id, g, by rw [ho1]; simp, by rw [ho2]; simp⟩
    rw [L57_16_eq]
    simp only [bin_lss, obs, cond_B]
    rw [if_pos (by simp; omega), idx hi']
    simp only [obs, ldi hi', hL.len, bin_sub]
    rw [wrap_id (by omega)]
    simp only [bin_geq, gd_B, obs]
    rcases hO with ⟨ha, rfl⟩ | ⟨id, g, rfl, ho⟩
    · rw [ha]
      simp only [List.length_nil]
      have : ¬ ((0 : Int) ≤ ((0 : Nat) : Int) - 1) := by omega
      simp only [this, decide_false, Bool.false_eq_true, if_false, obs, gd_undef, pickA_B, cond_B]
      exact fresh (by rw [ha]; rfl)
    · by_cases ha : pks (zs.take i) = []
      · rw [ha]
        simp only [List.length_nil]
        have : ¬ ((0 : Int) ≤ ((0 : Nat) : Int) - 1) := by omega
        simp only [this, decide_false, Bool.false_eq_true, if_false, obs, gd_undef, pickA_B, cond_B]
        have := fresh (by rw [ha]; rfl)
        rw [ha] at this
        exact this
      · obtain ⟨pre, p, hp⟩ : ∃ pre p, pks (zs.take i) = pre ++ [p] := ⟨_, _, (List.dropLast_concat_getLast ha).symm⟩
        have hpb := pks_bound (zs.take i) p (by rw [hp]; simp)
        rw [List.length_take] at hpb
        rw [hp] at ho hlen ⊢
        rw [List.length_append, List.length_singleton] at hlen ⊢
        have h1 : ((0 : Int) ≤ (pre.length : Nat)) := by omega
        have hk : ((pre.length + 1 : Nat) : Int) - 1 = (pre.length : Nat) := by omega
        have hget : ∀ j, j < 2 → ((pre ++ [p]).flatMap val)[pre.length * 2 + j]? = (val p)[j]? := fun j hj => rows_get val_len (by simp) hj
        have g0 := hget 0 (by omega)
        have g1 := hget 1 (by omega)
        simp only [val, List.getElem?_cons_zero, List.getElem?_cons_succ] at g0 g1
        have hld0 : ld false 1 (.rptr id g (0 + pre.length * 2 + 0)) H = some (I p.1) := by
          rw [ld_row ho, Nat.zero_add]
          have : ((pre ++ [p]).flatMap val)[pre.length * 2 + 0]? = some (Ia p.1) := g0
          rw [this]; rfl
        have hld1 : ld false 1 (.rptr id g (0 + pre.length * 2 + 1)) H = some (I p.2) := by
          rw [ld_row ho, Nat.zero_add]
          have : ((pre ++ [p]).flatMap val)[pre.length * 2 + 1]? = some (Ia p.2) := g1
          rw [this]; rfl
        simp only [h1, decide_true, if_true, obs, hk, idxA_row (show (0 : Int) ≤ (pre.length : Nat) ∧ ((pre.length : Nat) : Int) < (pre.length + 1 : Nat) by omega), Int.toNat_natCast, fldA_rptr, hld0, hld1, bin_eql, pickA_B, cond_B, bin_add]
        by_cases he : p.1 = zs[i]
        · simp only [he, decide_true, if_true]
          rw [wrap_id (by omega), stA_row ho (by rw [rows_length val_len, List.length_append, List.length_singleton]; omega)]
          simp only [oms, obs]
          refine next _ _ ?_
          have hpk : pk (pks (zs.take i)) zs[i] = pre ++ [(p.1, p.2 + 1)] := by
            rw [hp]
            simp [pk, he]
          rw [hpk]
          refine .inr ⟨id, g, by simp, ?_⟩
          rw [List.getElem?_set_self (getElem?_lt ho)]
          congr 2
          rw [List.flatMap_append, List.flatMap_append, Nat.zero_add]
          have hpl : (pre.flatMap val).length = pre.length * 2 := rows_length val_len pre
          rw [List.set_append_right _ _ (by omega), hpl, show pre.length * 2 + 1 - pre.length * 2 = 1 by omega]
          simp [val]
        · simp only [he, decide_false, Bool.false_eq_true, if_false]
          have := fresh (by rw [hp]; simp [pk, he])
          rw [hp, List.length_append, List.length_singleton] at this
          exact this

theorem call57 (hb : zs.length < 2 ^ 63) (lo : List Nat) (H : Heap) : ∃ nl' tg', callA cfg O 57 [V nl tg zs] lo H = some (.tup (if 200 < zs.length then [.p nilS, I 2] else if (zs.any fun n => !thr n) = true then [.p nilS, I 1] else [.p (.sl nl' tg' (pks zs).length ((pks zs).flatMap val)), I 0]), H) := by
  by_cases h : 200 < zs.length
  · refine ⟨none, false, ?_⟩
    rw [if_pos h]
    refine callA_args (H' := []) (rs := [.p nilS, I 2]) rfl rfl ?_ rfl
    rw [f57_eq]
    simp only [lenA_sl, obs, bin_gtr, cond_B]
    rw [if_pos (by simp; omega)]
    rfl
  · simp only [if_neg h]
    by_cases h1 : (zs.any fun n => !thr n) = true
    · refine ⟨none, false, ?_⟩
      rw [if_pos h1]
      refine callA_args (H' := []) (rs := [.p nilS, I 1]) rfl rfl ?_ rfl
      rw [f57_eq]
      simp only [lenA_sl, obs, bin_gtr, cond_B]
      rw [if_neg (by simp; omega), call122 hb, h1]
      simp only [obs, cond_B, if_true]
      rfl
    · obtain ⟨nl', tg', H', e⟩ := packLoop (nl := nl) (tg := tg) (zs := zs) (by omega) [] zs.length 0 (.p nilS) [] rfl (by omega) (.inl ⟨rfl, rfl⟩)
      refine ⟨nl', tg', ?_⟩
      rw [if_neg h1]
      refine callA_args (H' := H') (rs := [_, _]) rfl rfl ?_ rfl
      rw [f57_eq]
      simp only [lenA_sl, obs, bin_gtr, cond_B]
      rw [if_neg (by simp; omega), call122 hb]
      simp only [obs, cond_B]
      rw [if_neg h1]
      exact e

end
end Pack
end Go.Proofs.Ytangmjeafnkfaaa
