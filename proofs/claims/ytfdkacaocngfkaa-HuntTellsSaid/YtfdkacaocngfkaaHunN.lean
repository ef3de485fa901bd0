import Derived.Test.YtfdkacaocngfkaaHunM
set_option linter.unusedVariables false
set_option linter.unusedSimpArgs false
namespace Go.Proofs.Ytfdkacaocngfkaa
open Go Go.AM
namespace Hun

section
variable {nl : Option Bool} {tg : Bool} {l : List Dd}

/-! ### The document's -/
theorem susLoop (hv : Valid l) (hu : ∀ k, (U l k).length < 2 ^ 63) (hN : l.length ≤ 200) {n2 : Option Bool} {t2 : Bool} {gs : List Int} (hgl : gs.length < 2 ^ 40) (hgs : ∀ g ∈ gs, 0 ≤ g ∧ g < (l.length : Int)) {n : Nat} (hn : n < l.length) : ∀ (c i : Nat), gs.length - i = c → i ≤ gs.length →
    L34_10 [W nl tg l, I n, V n2 t2 gs, I i] [] [] = some ([B (!((gs.drop i).any fun g => rb l g.toNat n))], []) := by
  intro c
  induction c with
  | zero =>
    intro i hc hi
    have : i = gs.length := by omega
    subst this
    rw [L34_10_eq]
    simp only [obs, oms, bin_add, bin_sub, bin_lss, bin_leq, bin_gtr, bin_geq, bin_eql, bin_neq, bin_eqlB, bin_neqB, un_not, cond_B, gd_B, gd_undef, gdH_B, gdH_undef, pickA_B, extractA_tup, lenA_sl, lenA_row, fldA_fp, fldA_ptr, fldA_rptr, List.getElem?_cons_zero, List.getElem?_cons_succ, decide_true, decide_false, if_true, if_false, Bool.true_eq_false, Bool.false_eq_true, Bool.not_true, Bool.not_false, leave0_B]
    rw [if_neg (by simp)]
    simp
  | succ c ih =>
    intro i hc hi
    have hi' : i < gs.length := by omega
    have hd : ((gs.drop i).any fun g => rb l g.toNat n) = (rb l gs[i].toNat n || (gs.drop (i + 1)).any fun g => rb l g.toNat n) := by rw [List.drop_eq_getElem_cons hi', List.any_cons]
    obtain ⟨h1, h2⟩ := hgs _ (List.getElem_mem hi')
    obtain ⟨m, hm⟩ : ∃ m : Nat, gs[i] = m := ⟨gs[i].toNat, by omega⟩
    rw [L34_10_eq, hd]
    simp only [obs, oms, bin_add, bin_sub, bin_lss, bin_leq, bin_gtr, bin_geq, bin_eql, bin_neq, bin_eqlB, bin_neqB, un_not, cond_B, gd_B, gd_undef, gdH_B, gdH_undef, pickA_B, extractA_tup, lenA_sl, lenA_row, fldA_fp, fldA_ptr, fldA_rptr, List.getElem?_cons_zero, List.getElem?_cons_succ, decide_true, decide_false, if_true, if_false, Bool.true_eq_false, Bool.false_eq_true, Bool.not_true, Bool.not_false, leave0_B]
    rw [if_pos (by simp <;> omega), idxV hi']
    simp only [obs, oms, bin_add, bin_sub, bin_lss, bin_leq, bin_gtr, bin_geq, bin_eql, bin_neq, bin_eqlB, bin_neqB, un_not, cond_B, gd_B, gd_undef, gdH_B, gdH_undef, pickA_B, extractA_tup, lenA_sl, lenA_row, fldA_fp, fldA_ptr, fldA_rptr, List.getElem?_cons_zero, List.getElem?_cons_succ, decide_true, decide_false, if_true, if_false, Bool.true_eq_false, Bool.false_eq_true, Bool.not_true, Bool.not_false, ldV hi', hm, call63 (nl := nl) (tg := tg) hv hu (show m < l.length by omega) hN hn, Int.toNat_natCast]
    rw [wrap_id (by omega), nxt, ih (i + 1) (by omega) (by omega)]
    cases rb l m n with
    | true => rfl
    | false => rfl

theorem ent34 (hv : Valid l) (hu : ∀ k, (U l k).length < 2 ^ 63) (hN : l.length ≤ 200) {n2 : Option Bool} {t2 : Bool} {gs : List Int} (hgl : gs.length < 2 ^ 40) (hgs : ∀ g ∈ gs, 0 ≤ g ∧ g < (l.length : Int)) {n b : Nat} (hn : n < l.length) (hb : b < l.length) :
    O.ent 34 [W nl tg l, I n, I b, V n2 t2 gs] [] [] = some ([B (sb l b gs n)], []) := by
  rw [f34_eq]
  simp only [call63 (nl := nl) (tg := tg) hv hu hb hN hn, obs, oms, bin_add, bin_sub, bin_lss, bin_leq, bin_gtr, bin_geq, bin_eql, bin_neq, bin_eqlB, bin_neqB, un_not, cond_B, gd_B, gd_undef, gdH_B, gdH_undef, pickA_B, extractA_tup, lenA_sl, lenA_row, fldA_fp, fldA_ptr, fldA_rptr, List.getElem?_cons_zero, List.getElem?_cons_succ, decide_true, decide_false, if_true, if_false, Bool.true_eq_false, Bool.false_eq_true, Bool.not_true, Bool.not_false, leave0_B]
  rw [show (I 0) = I (0 : Nat) from rfl, susLoop hv hu hN hgl hgs hn _ 0 rfl (by omega), List.drop_zero]
  unfold sb
  cases rb l b n with
  | true => rfl
  | false => rfl

theorem src_args {H : Heap} {x : AV} {gs : List Int} (hx : Src x H gs) : ∃ n2 t2 b, ∀ xs : List PV, pureArgs H (xs.map .p ++ [x]) = some (xs.map .p ++ [V n2 t2 gs], b) := by
  obtain ⟨n2, t2, b, hp⟩ := hx.pure
  refine ⟨n2, t2, b, fun xs => ?_⟩
  induction xs with
  | nil => simp only [List.map_nil, List.nil_append, pureArgs, hp, obs, oms, Bool.or_false]
  | cons y ys ih =>
    have : pureArg H (.p y) = some (.p y, false) := rfl
    simp only [List.map_cons, List.cons_append, pureArgs, ih, this, obs, oms, Bool.false_or]

theorem call34 (hv : Valid l) (hu : ∀ k, (U l k).length < 2 ^ 63) (hN : l.length ≤ 200) {gs : List Int} (hgl : gs.length < 2 ^ 40) (hgs : ∀ g ∈ gs, 0 ≤ g ∧ g < (l.length : Int)) {n b : Nat} (hn : n < l.length) (hb : b < l.length) {x : AV} {H : Heap} (hx : Src x H gs) (lo : List Nat) :
    callA cfg O 34 [W nl tg l, I n, I b, x] lo H = some (B (sb l b gs n), H) := by
  obtain ⟨n2, t2, q, hp⟩ := src_args hx
  exact callA_rows (H' := []) (rs := [B (sb l b gs n)]) rfl (hp [.sl nl tg l.length (l.map us), Ia n, Ia b]) (ent34 hv hu hN hgl hgs hn hb) rfl rfl

/-! ### HuntPick -/
def finq (n : Nat) (st : Int × Int) (a r : Nat) : Int × Int := if st.1 < min (a : Int) r then (min (a : Int) r, (n : Int)) else st
noncomputable def stq (l : List Dd) (b : Nat) (gs : List Int) (st : Int × Int) (n : Nat) : Int × Int :=
  if n = b ∨ sb l b gs n = false then st else finq n st ((List.range l.length).countP fun k => sb l b gs k && rb l n k) ((List.range l.length).countP fun k => sb l b gs k && !rb l n k)

theorem cnt_drop {N i : Nat} (hi : i < N) (p : Nat → Bool) : ((List.range N).drop i).countP p = (if p i = true then 1 else 0) + ((List.range N).drop (i + 1)).countP p := by
  rw [List.drop_eq_getElem_cons (by simpa using hi), List.countP_cons, List.getElem_range]
  omega

theorem qLoop (hv : Valid l) (hu : ∀ k, (U l k).length < 2 ^ 63) (hN : l.length ≤ 200) {n2 : Option Bool} {t2 : Bool} {gs : List Int} (hgl : gs.length < 2 ^ 40) (hgs : ∀ g ∈ gs, 0 ≤ g ∧ g < (l.length : Int)) {n b : Nat} (hn : n < l.length) (hb : b < l.length) {st : Int × Int} : ∀ (c k a r : Nat), l.length - k = c → k ≤ l.length → a ≤ k → r ≤ k →
    ∃ st', st' = finq n st (a + ((List.range l.length).drop k).countP fun k => sb l b gs k && rb l n k) (r + ((List.range l.length).drop k).countP fun k => sb l b gs k && !rb l n k) ∧
    L35_18 [W nl tg l, I b, V n2 t2 gs, I st.1, I st.2, I n, I a, I r, I k] [] [] = L35_11 [W nl tg l, I b, V n2 t2 gs, I st'.1, I st'.2, I n] [] [] := by
  intro c
  induction c with
  | zero =>
    intro k a r hc hk ha hr
    have : k = l.length := by omega
    subst this
    refine ⟨_, rfl, ?_⟩
    rw [L35_18_eq, List.drop_eq_nil_of_le (by simp)]
    simp only [obs, oms, bin_add, bin_sub, bin_lss, bin_leq, bin_gtr, bin_geq, bin_eql, bin_neq, bin_eqlB, bin_neqB, un_not, cond_B, gd_B, gd_undef, gdH_B, gdH_undef, pickA_B, extractA_tup, lenA_sl, lenA_row, fldA_fp, fldA_ptr, fldA_rptr, List.getElem?_cons_zero, List.getElem?_cons_succ, decide_true, decide_false, if_true, if_false, Bool.true_eq_false, Bool.false_eq_true, Bool.not_true, Bool.not_false, bests_min, List.countP_nil, Nat.add_zero]
    rw [if_neg (by simp)]
    by_cases h2 : st.1 < min (a : Int) r
    · have e : finq n st a r = (min (a : Int) r, (n : Int)) := if_pos h2
      rw [e]
      simp only [h2, obs, oms, bin_add, bin_sub, bin_lss, bin_leq, bin_gtr, bin_geq, bin_eql, bin_neq, bin_eqlB, bin_neqB, un_not, cond_B, gd_B, gd_undef, gdH_B, gdH_undef, pickA_B, extractA_tup, lenA_sl, lenA_row, fldA_fp, fldA_ptr, fldA_rptr, List.getElem?_cons_zero, List.getElem?_cons_succ, decide_true, decide_false, if_true, if_false, Bool.true_eq_false, Bool.false_eq_true, Bool.not_true, Bool.not_false]
    · have e : finq n st a r = st := if_neg h2
      rw [e]
      simp only [h2, obs, oms, bin_add, bin_sub, bin_lss, bin_leq, bin_gtr, bin_geq, bin_eql, bin_neq, bin_eqlB, bin_neqB, un_not, cond_B, gd_B, gd_undef, gdH_B, gdH_undef, pickA_B, extractA_tup, lenA_sl, lenA_row, fldA_fp, fldA_ptr, fldA_rptr, List.getElem?_cons_zero, List.getElem?_cons_succ, decide_true, decide_false, if_true, if_false, Bool.true_eq_false, Bool.false_eq_true, Bool.not_true, Bool.not_false]
  | succ c ih =>
    intro k a r hc hk ha hr
    have hk' : k < l.length := by omega
    have c1 := cnt_drop hk' fun k => sb l b gs k && rb l n k
    have c2 := cnt_drop hk' fun k => sb l b gs k && !rb l n k
    rw [L35_18_eq]
    simp only [obs, oms, bin_add, bin_sub, bin_lss, bin_leq, bin_gtr, bin_geq, bin_eql, bin_neq, bin_eqlB, bin_neqB, un_not, cond_B, gd_B, gd_undef, gdH_B, gdH_undef, pickA_B, extractA_tup, lenA_sl, lenA_row, fldA_fp, fldA_ptr, fldA_rptr, List.getElem?_cons_zero, List.getElem?_cons_succ, decide_true, decide_false, if_true, if_false, Bool.true_eq_false, Bool.false_eq_true, Bool.not_true, Bool.not_false]
    rw [if_pos (by simp <;> omega)]
    simp only [call34 hv hu hN hgl hgs hk' hb (Src.v n2 t2 gs []), call63 (nl := nl) (tg := tg) hv hu hn hN hk', obs, oms, bin_add, bin_sub, bin_lss, bin_leq, bin_gtr, bin_geq, bin_eql, bin_neq, bin_eqlB, bin_neqB, un_not, cond_B, gd_B, gd_undef, gdH_B, gdH_undef, pickA_B, extractA_tup, lenA_sl, lenA_row, fldA_fp, fldA_ptr, fldA_rptr, List.getElem?_cons_zero, List.getElem?_cons_succ, decide_true, decide_false, if_true, if_false, Bool.true_eq_false, Bool.false_eq_true, Bool.not_true, Bool.not_false]
    have next : ∀ a' r' : Nat, a' ≤ k + 1 → r' ≤ k + 1 → ∃ st', st' = finq n st (a' + ((List.range l.length).drop (k + 1)).countP fun k => sb l b gs k && rb l n k) (r' + ((List.range l.length).drop (k + 1)).countP fun k => sb l b gs k && !rb l n k) ∧
        L35_21 [W nl tg l, I b, V n2 t2 gs, I st.1, I st.2, I n, I a', I r', I k] [] [] = L35_11 [W nl tg l, I b, V n2 t2 gs, I st'.1, I st'.2, I n] [] [] := by
      intro a' r' h1 h2
      obtain ⟨st', e1, e2⟩ := ih (k + 1) a' r' (by omega) (by omega) h1 h2
      refine ⟨st', e1, ?_⟩
      rw [L35_21_eq]
      simp only [obs, oms, bin_add, bin_sub, bin_lss, bin_leq, bin_gtr, bin_geq, bin_eql, bin_neq, bin_eqlB, bin_neqB, un_not, cond_B, gd_B, gd_undef, gdH_B, gdH_undef, pickA_B, extractA_tup, lenA_sl, lenA_row, fldA_fp, fldA_ptr, fldA_rptr, List.getElem?_cons_zero, List.getElem?_cons_succ, decide_true, decide_false, if_true, if_false, Bool.true_eq_false, Bool.false_eq_true, Bool.not_true, Bool.not_false]
      rw [wrap_id (by omega), nxt, e2]
    by_cases hs : sb l b gs k = true
    · by_cases hr' : rb l n k = true
      · obtain ⟨st', e1, e2⟩ := next (a + 1) r (by omega) (by omega)
        refine ⟨st', by rw [e1, c1, c2]; simp only [hs, hr', Bool.and_self, if_true, Bool.not_true, Bool.and_false, Bool.false_eq_true, if_false]; congr 1 <;> omega, ?_⟩
        rw [if_pos hs, if_pos hr', wrap_id (by omega), nxt, e2]
      · have hr2 : rb l n k = false := by simpa using hr'
        obtain ⟨st', e1, e2⟩ := next a (r + 1) (by omega) (by omega)
        refine ⟨st', by rw [e1, c1, c2]; simp only [hs, hr2, Bool.and_self, if_true, Bool.not_false, Bool.and_false, Bool.false_eq_true, if_false]; congr 1 <;> omega, ?_⟩
        rw [if_pos hs, if_neg hr', wrap_id (by omega), nxt, e2]
    · have hs2 : sb l b gs k = false := by simpa using hs
      obtain ⟨st', e1, e2⟩ := next a r (by omega) (by omega)
      refine ⟨st', by rw [e1, c1, c2]; simp only [hs2, Bool.false_and, Bool.false_eq_true, if_false]; congr 1 <;> omega, ?_⟩
      rw [if_neg hs, e2]

theorem pLoop (hv : Valid l) (hu : ∀ k, (U l k).length < 2 ^ 63) (hN : l.length ≤ 200) {n2 : Option Bool} {t2 : Bool} {gs : List Int} (hgl : gs.length < 2 ^ 40) (hgs : ∀ g ∈ gs, 0 ≤ g ∧ g < (l.length : Int)) {b : Nat} (hb : b < l.length) : ∀ (c n : Nat) (st : Int × Int), l.length - n = c → n ≤ l.length →
    L35_8 [W nl tg l, I b, V n2 t2 gs, I st.1, I st.2, I n] [] [] = some ([I (((List.range l.length).drop n).foldl (stq l b gs) st).2], []) := by
  intro c
  induction c with
  | zero =>
    intro n st hc hn
    have : n = l.length := by omega
    subst this
    rw [L35_8_eq, List.drop_eq_nil_of_le (by simp)]
    simp only [obs, oms, bin_add, bin_sub, bin_lss, bin_leq, bin_gtr, bin_geq, bin_eql, bin_neq, bin_eqlB, bin_neqB, un_not, cond_B, gd_B, gd_undef, gdH_B, gdH_undef, pickA_B, extractA_tup, lenA_sl, lenA_row, fldA_fp, fldA_ptr, fldA_rptr, List.getElem?_cons_zero, List.getElem?_cons_succ, decide_true, decide_false, if_true, if_false, Bool.true_eq_false, Bool.false_eq_true, Bool.not_true, Bool.not_false, leave0_I]
    rw [if_neg (by simp)]
    rfl
  | succ c ih =>
    intro n st hc hn
    have hn' : n < l.length := by omega
    have next : ∀ st', L35_11 [W nl tg l, I b, V n2 t2 gs, I st'.1, I st'.2, I n] [] [] = some ([I (((List.range l.length).drop (n + 1)).foldl (stq l b gs) st').2], []) := by
      intro st'
      rw [L35_11_eq]
      simp only [obs, oms, bin_add, bin_sub, bin_lss, bin_leq, bin_gtr, bin_geq, bin_eql, bin_neq, bin_eqlB, bin_neqB, un_not, cond_B, gd_B, gd_undef, gdH_B, gdH_undef, pickA_B, extractA_tup, lenA_sl, lenA_row, fldA_fp, fldA_ptr, fldA_rptr, List.getElem?_cons_zero, List.getElem?_cons_succ, decide_true, decide_false, if_true, if_false, Bool.true_eq_false, Bool.false_eq_true, Bool.not_true, Bool.not_false]
      rw [wrap_id (by omega), nxt]
      exact ih (n + 1) st' (by omega) (by omega)
    have hd : ((List.range l.length).drop n).foldl (stq l b gs) st = ((List.range l.length).drop (n + 1)).foldl (stq l b gs) (stq l b gs st n) := by
      rw [List.drop_eq_getElem_cons (by simpa using hn'), List.foldl_cons, List.getElem_range]
    rw [L35_8_eq, hd]
    simp only [obs, oms, bin_add, bin_sub, bin_lss, bin_leq, bin_gtr, bin_geq, bin_eql, bin_neq, bin_eqlB, bin_neqB, un_not, cond_B, gd_B, gd_undef, gdH_B, gdH_undef, pickA_B, extractA_tup, lenA_sl, lenA_row, fldA_fp, fldA_ptr, fldA_rptr, List.getElem?_cons_zero, List.getElem?_cons_succ, decide_true, decide_false, if_true, if_false, Bool.true_eq_false, Bool.false_eq_true, Bool.not_true, Bool.not_false]
    rw [if_pos (by simp <;> omega)]
    by_cases h1 : n = b
    · subst h1
      have e : stq l n gs st n = st := if_pos (.inl rfl)
      rw [e]
      simp only [obs, oms, bin_add, bin_sub, bin_lss, bin_leq, bin_gtr, bin_geq, bin_eql, bin_neq, bin_eqlB, bin_neqB, un_not, cond_B, gd_B, gd_undef, gdH_B, gdH_undef, pickA_B, extractA_tup, lenA_sl, lenA_row, fldA_fp, fldA_ptr, fldA_rptr, List.getElem?_cons_zero, List.getElem?_cons_succ, decide_true, decide_false, if_true, if_false, Bool.true_eq_false, Bool.false_eq_true, Bool.not_true, Bool.not_false]
      exact next st
    · have h1' : ¬ (n : Int) = b := by omega
      simp only [h1', obs, oms, bin_add, bin_sub, bin_lss, bin_leq, bin_gtr, bin_geq, bin_eql, bin_neq, bin_eqlB, bin_neqB, un_not, cond_B, gd_B, gd_undef, gdH_B, gdH_undef, pickA_B, extractA_tup, lenA_sl, lenA_row, fldA_fp, fldA_ptr, fldA_rptr, List.getElem?_cons_zero, List.getElem?_cons_succ, decide_true, decide_false, if_true, if_false, Bool.true_eq_false, Bool.false_eq_true, Bool.not_true, Bool.not_false, call34 hv hu hN hgl hgs hn' hb (Src.v n2 t2 gs [])]
      by_cases hs : sb l b gs n = true
      · obtain ⟨st', e1, e2⟩ := qLoop (nl := nl) (tg := tg) (n2 := n2) (t2 := t2) hv hu hN hgl hgs hn' hb (st := st) _ 0 0 0 rfl (by omega) (by omega) (by omega)
        have e : stq l b gs st n = st' := by
          rw [e1, List.drop_zero, Nat.zero_add, Nat.zero_add]
          exact if_neg (by simp [h1, hs])
        simp only [hs, obs, oms, bin_add, bin_sub, bin_lss, bin_leq, bin_gtr, bin_geq, bin_eql, bin_neq, bin_eqlB, bin_neqB, un_not, cond_B, gd_B, gd_undef, gdH_B, gdH_undef, pickA_B, extractA_tup, lenA_sl, lenA_row, fldA_fp, fldA_ptr, fldA_rptr, List.getElem?_cons_zero, List.getElem?_cons_succ, decide_true, decide_false, if_true, if_false, Bool.true_eq_false, Bool.false_eq_true, Bool.not_true, Bool.not_false]
        rw [e, show L35_18 [W nl tg l, I b, V n2 t2 gs, I st.1, I st.2, I n, I 0, I 0, I 0] [] [] = _ from e2]
        exact next st'
      · have hs2 : sb l b gs n = false := by simpa using hs
        have e : stq l b gs st n = st := if_pos (.inr hs2)
        rw [e]
        simp only [hs2, obs, oms, bin_add, bin_sub, bin_lss, bin_leq, bin_gtr, bin_geq, bin_eql, bin_neq, bin_eqlB, bin_neqB, un_not, cond_B, gd_B, gd_undef, gdH_B, gdH_undef, pickA_B, extractA_tup, lenA_sl, lenA_row, fldA_fp, fldA_ptr, fldA_rptr, List.getElem?_cons_zero, List.getElem?_cons_succ, decide_true, decide_false, if_true, if_false, Bool.true_eq_false, Bool.false_eq_true, Bool.not_true, Bool.not_false]
        exact next st

/-- Both pick the same. -/
theorem pk_eq (b : Nat) (gs : List Int) : pk l b gs = ((List.range l.length).foldl (stq l b gs) (-1, -1)).2 := by
  unfold pk pickI
  congr 1
  have e : ∀ (ns : List Nat) (st : Int × Int), (∀ n ∈ ns, n < l.length) → ((ns.filter (sb l b gs)).map fun (m : Nat) => (m : Int)).foldl (stp l (ss l b gs) b) st = ns.foldl (stq l b gs) st := by
    intro ns
    induction ns with
    | nil => intro st _; rfl
    | cons n ns ih =>
      intro st hns
      have ih' := fun st => ih st fun m hm => hns m (List.mem_cons_of_mem _ hm)
      have hn := hns n (List.mem_cons_self ..)
      rw [List.foldl_cons, List.filter_cons]
      by_cases hs : sb l b gs n = true
      · rw [if_pos hs, List.map_cons, List.foldl_cons, ih']
        congr 1
        have hp : part l (ss l b gs) (n : Int) = (List.range l.length).countP fun k => sb l b gs k && rb l n k := by
          unfold part flt
          rw [List.countP_map, List.countP_filter, Int.toNat_natCast]
          refine List.countP_congr fun k hk => ?_
          have hk' : k < l.length := by simpa using hk
          simp only [Function.comp, Bool.and_eq_true, decide_eq_true_eq]
          unfold ss
          rw [flt_mem]
          exact ⟨fun h => ⟨h.1.2, h.2⟩, fun h => ⟨⟨hk', h.1⟩, h.2⟩⟩
        have hlen : (ss l b gs).length = ((List.range l.length).countP fun k => sb l b gs k && rb l n k) + (List.range l.length).countP fun k => sb l b gs k && !rb l n k := by
          unfold ss flt
          rw [List.length_map, ← List.countP_eq_length_filter]
          generalize List.range l.length = r
          induction r with
          | nil => rfl
          | cons k r ih =>
            simp only [List.countP_cons, ih]
            cases sb l b gs k <;> cases rb l n k <;> simp <;> omega
        unfold stp stq
        rw [hp, hlen]
        by_cases h1 : n = b
        · rw [if_pos (.inl h1)]
          exact if_neg (fun e => e.1 (by rw [h1]))
        · rw [if_neg (by simp [h1, hs])]
          unfold fin finq
          have h1' : (n : Int) ≠ b := by omega
          generalize ((List.range l.length).countP fun k => sb l b gs k && rb l n k) = a
          generalize ((List.range l.length).countP fun k => sb l b gs k && !rb l n k) = r
          rw [show ((a + r : Nat) : Int) - a = r by omega]
          by_cases h2 : st.1 < min (a : Int) r
          · rw [if_pos ⟨h1', h2⟩, if_pos h2]
          · rw [if_neg (fun e => h2 e.2), if_neg h2]
      · rw [if_neg hs, ih']
        congr 1
        exact (if_pos (.inr (by simpa using hs))).symm
  exact e _ _ fun n hn => by simpa using hn

theorem call35 (hv : Valid l) (hu : ∀ k, (U l k).length < 2 ^ 63) (hN : l.length ≤ 200) {gs : List Int} (hgl : gs.length < 2 ^ 40) (hgs : ∀ g ∈ gs, 0 ≤ g ∧ g < (l.length : Int)) {b : Nat} (hb : b < l.length) {x : AV} {H : Heap} (hx : Src x H gs) (lo : List Nat) :
    callA cfg O 35 [W nl tg l, I b, x] lo H = some (I (pk l b gs), H) := by
  obtain ⟨n2, t2, q, hp⟩ := src_args hx
  refine callA_rows (H' := []) (rs := [I (pk l b gs)]) rfl (hp [.sl nl tg l.length (l.map us), Ia b]) ?_ rfl rfl
  have := pLoop (nl := nl) (tg := tg) (n2 := n2) (t2 := t2) hv hu hN hgl hgs hb _ 0 (-1, -1) rfl (by omega)
  rw [List.drop_zero, ← pk_eq] at this
  show O.ent 35 [W nl tg l, I b, V n2 t2 gs] [] [] = _
  rw [f35_eq]
  exact this

/-! ### HuntErr -/
theorem ent62 {ps : List Int} {n2 : Option Bool} {t2 : Bool} (hu : ∀ k, (U l k).length < 2 ^ 63) (hp : ps.length < 2 ^ 63) : O.ent 62 [W nl tg l, V n2 t2 ps] [] [] = some ([I (errF l ps)], []) := by
  unfold errF
  by_cases h : 200 < l.length
  · rw [if_pos h, f62_eq]
    simp only [obs, oms, bin_add, bin_sub, bin_lss, bin_leq, bin_gtr, bin_geq, bin_eql, bin_neq, bin_eqlB, bin_neqB, un_not, cond_B, gd_B, gd_undef, gdH_B, gdH_undef, pickA_B, extractA_tup, lenA_sl, lenA_row, fldA_fp, fldA_ptr, fldA_rptr, List.getElem?_cons_zero, List.getElem?_cons_succ, decide_true, decide_false, if_true, if_false, Bool.true_eq_false, Bool.false_eq_true, Bool.not_true, Bool.not_false, leave0_I]
    rw [if_pos (by simp <;> omega)]
  · rw [if_neg h, f62_eq]
    simp only [obs, oms, bin_add, bin_sub, bin_lss, bin_leq, bin_gtr, bin_geq, bin_eql, bin_neq, bin_eqlB, bin_neqB, un_not, cond_B, gd_B, gd_undef, gdH_B, gdH_undef, pickA_B, extractA_tup, lenA_sl, lenA_row, fldA_fp, fldA_ptr, fldA_rptr, List.getElem?_cons_zero, List.getElem?_cons_succ, decide_true, decide_false, if_true, if_false, Bool.true_eq_false, Bool.false_eq_true, Bool.not_true, Bool.not_false]
    rw [if_neg (by simp <;> omega)]
    exact refCheck (by omega) hu hp [] [] _ 0 rfl (by omega)

theorem call33 (hu : ∀ k, (U l k).length < 2 ^ 63) {n2 : Option Bool} {t2 : Bool} {gs : List Int} (hgl : gs.length < 2 ^ 40) (b : Int) (lo : List Nat) (H : Heap) :
    callA cfg O 33 [W nl tg l, I b, V n2 t2 gs] lo H = some (I (wErr l b gs), H) := by
  refine callA_args (H' := []) (rs := [I (wErr l b gs)]) rfl rfl ?_ rfl
  have happ : ∃ x H', appA 1 8 (.p (.sl (some false) true 1 [Ia b])) (V n2 t2 gs) [] = some (x, H') ∧ Src x H' (b :: gs) := by
    by_cases hg : gs.length = 0
    · have : gs = [] := List.length_eq_zero_iff.mp hg
      subst this
      exact ⟨_, [], rfl, Src.v (some false) true [b] []⟩
    · have hC : Cx [] [] ([] ++ [((AV.p (.sl (some false) true 1 [Ia b]), 1, 1, [Ia b]) : Ll)]) := (Cx.nil []).newLit (sz := 1) (m := 1) rfl
      obtain ⟨x, H', e, hC', _⟩ := Cx.app (bytes := 8) (y := V n2 t2 gs) (k := gs.length) (new := gs.map Ia) [] hC (by simp [cellsA]) (by simp) (by omega) (by simp only [room]; omega)
      refine ⟨x, H', e, Src.of ?_⟩
      have := hC'.hd
      rw [show (b :: gs).length = 1 + gs.length by simp; omega]
      exact this
  obtain ⟨x, H', e, hx⟩ := happ
  obtain ⟨n3, t3, q, hp⟩ := src_args hx
  have e62 : callA cfg O 62 [W nl tg l, x] [] H' = some (I (errF l (b :: gs)), H') :=
    callA_rows (H' := []) (rs := [I (errF l (b :: gs))]) rfl (hp [.sl nl tg l.length (l.map us)]) (ent62 hu (by simp; omega)) rfl rfl
  rw [f33_eq]
  simp only [lit1, obs, e, e62, obs, oms, bin_add, bin_sub, bin_lss, bin_leq, bin_gtr, bin_geq, bin_eql, bin_neq, bin_eqlB, bin_neqB, un_not, cond_B, gd_B, gd_undef, gdH_B, gdH_undef, pickA_B, extractA_tup, lenA_sl, lenA_row, fldA_fp, fldA_ptr, fldA_rptr, List.getElem?_cons_zero, List.getElem?_cons_succ, decide_true, decide_false, if_true, if_false, Bool.true_eq_false, Bool.false_eq_true, Bool.not_true, Bool.not_false]
  unfold wErr
  by_cases h : errF l (b :: gs) = 0
  · obtain ⟨hN, hv, ⟨bn, rfl, hb⟩, hgs⟩ := gs_ok h
    simp only [h, obs, oms, bin_add, bin_sub, bin_lss, bin_leq, bin_gtr, bin_geq, bin_eql, bin_neq, bin_eqlB, bin_neqB, un_not, cond_B, gd_B, gd_undef, gdH_B, gdH_undef, pickA_B, extractA_tup, lenA_sl, lenA_row, fldA_fp, fldA_ptr, fldA_rptr, List.getElem?_cons_zero, List.getElem?_cons_succ, decide_true, decide_false, if_true, if_false, Bool.true_eq_false, Bool.false_eq_true, Bool.not_true, Bool.not_false, call34 hv hu hN hgl hgs hb hb (Src.v n2 t2 gs H'), Int.toNat_natCast, L33_11_eq, leave0_I]
    by_cases hs : sb l bn gs bn = true
    · simp only [hs, obs, oms, bin_add, bin_sub, bin_lss, bin_leq, bin_gtr, bin_geq, bin_eql, bin_neq, bin_eqlB, bin_neqB, un_not, cond_B, gd_B, gd_undef, gdH_B, gdH_undef, pickA_B, extractA_tup, lenA_sl, lenA_row, fldA_fp, fldA_ptr, fldA_rptr, List.getElem?_cons_zero, List.getElem?_cons_succ, decide_true, decide_false, if_true, if_false, Bool.true_eq_false, Bool.false_eq_true, Bool.not_true, Bool.not_false]
    · have hs' : sb l bn gs bn = false := by simpa using hs
      simp only [hs', obs, oms, bin_add, bin_sub, bin_lss, bin_leq, bin_gtr, bin_geq, bin_eql, bin_neq, bin_eqlB, bin_neqB, un_not, cond_B, gd_B, gd_undef, gdH_B, gdH_undef, pickA_B, extractA_tup, lenA_sl, lenA_row, fldA_fp, fldA_ptr, fldA_rptr, List.getElem?_cons_zero, List.getElem?_cons_succ, decide_true, decide_false, if_true, if_false, Bool.true_eq_false, Bool.false_eq_true, Bool.not_true, Bool.not_false]
  · simp only [h, obs, oms, bin_add, bin_sub, bin_lss, bin_leq, bin_gtr, bin_geq, bin_eql, bin_neq, bin_eqlB, bin_neqB, un_not, cond_B, gd_B, gd_undef, gdH_B, gdH_undef, pickA_B, extractA_tup, lenA_sl, lenA_row, fldA_fp, fldA_ptr, fldA_rptr, List.getElem?_cons_zero, List.getElem?_cons_succ, decide_true, decide_false, if_true, if_false, Bool.true_eq_false, Bool.false_eq_true, Bool.not_true, Bool.not_false, L33_11_eq, leave0_I]
end
end Hun
end Go.Proofs.Ytfdkacaocngfkaa
