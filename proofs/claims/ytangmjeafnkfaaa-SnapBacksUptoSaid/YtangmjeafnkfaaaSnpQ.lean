import Derived.Test.YtangmjeafnkfaaaSnpR
set_option linter.unusedVariables false
set_option linter.unusedSimpArgs false
namespace Go.Proofs.Ytangmjeafnkfaaa
open Go Go.AM
namespace Snp

/-! ### Cells that are given away -/
def LvS (H : Heap) : Nat → List AV → List PV → Prop
  | _, [], [] => True
  | N, y :: ys, c :: cs => (y = .p c ∧ LvS H N ys cs) ∨ ∃ id g sz m, ∃ xs : List PV, y = .row id g 0 m ∧ N ≤ id ∧ H[id]? = some (.row g sz xs) ∧ xs.length = m * sz ∧ c = .sl (if 0 < m then some false else none) false m xs ∧ LvS H (id + 1) ys cs
  | _, _, _ => False

theorem LvS.len {H : Heap} : ∀ {N : Nat} {ys : List AV} {cs : List PV}, LvS H N ys cs → ys.length = cs.length := by
  intro N ys
  induction ys generalizing N with
  | nil => intro cs h; cases cs with | nil => rfl | cons c cs => exact h.elim
  | cons y ys ih =>
    intro cs h
    cases cs with
    | nil => exact h.elim
    | cons c cs =>
      obtain ⟨_, h⟩ | ⟨id, g, sz, m, xs, _, _, _, _, _, h⟩ := h
      · simp [ih h]
      · simp [ih h]

theorem LvS.mono {H H' : Heap} : ∀ {N M : Nat} {ys : List AV} {cs : List PV}, LvS H N ys cs → M ≤ N → (∀ j, N ≤ j → H'[j]? = H[j]?) → LvS H' M ys cs := by
  intro N M ys
  induction ys generalizing N M with
  | nil => intro cs h _ _; cases cs with | nil => trivial | cons c cs => exact h.elim
  | cons y ys ih =>
    intro cs h hm hk
    cases cs with
    | nil => exact h.elim
    | cons c cs =>
      obtain ⟨e, h⟩ | ⟨id, g, sz, m, xs, e, h1, h2, h3, h4, h⟩ := h
      · exact .inl ⟨e, ih h hm hk⟩
      · exact .inr ⟨id, g, sz, m, xs, e, by omega, by rw [hk id h1]; exact h2, h3, h4, ih h (Nat.le_refl _) fun j hj => hk j (by omega)⟩

theorem LvS.toPVs {H : Heap} : ∀ {N : Nat} {ys : List AV} {cs : List PV}, LvS H N ys cs → ∃ H', AM.toPVs H ys = some (cs, H') ∧ H'.length = H.length ∧ ∀ j, j < N → H'[j]? = H[j]? := by
  intro N ys
  induction ys generalizing N H with
  | nil => intro cs h; cases cs with | nil => exact ⟨H, rfl, rfl, fun _ _ => rfl⟩ | cons c cs => exact h.elim
  | cons y ys ih =>
    intro cs h
    cases cs with
    | nil => exact h.elim
    | cons c cs =>
      obtain ⟨rfl, h⟩ | ⟨id, g, sz, m, xs, rfl, h1, h2, h3, rfl, h⟩ := h
      · obtain ⟨H', e, hl, hk⟩ := ih h
        exact ⟨H', by simp only [AM.toPVs, toPV, obs, e, oms], hl, hk⟩
      · have hlt := getElem?_lt h2
        obtain ⟨H', e, hl, hk⟩ := ih (h.mono (H' := H.set id (.row (g + 1) sz [])) (Nat.le_refl _) fun j hj => by rw [List.getElem?_set_ne (by omega)])
        refine ⟨H', ?_, by rw [hl, List.length_set], fun j hj => by rw [hk j (by omega), List.getElem?_set_ne (by omega)]⟩
        have e1 : toPV H (.row id g 0 m) = some (.sl (if 0 < m then some false else none) false m xs, H.set id (.row (g + 1) sz [])) := by
          simp only [toPV, h2, Nat.zero_add, h3, Nat.le_refl, and_self, if_true]
          rw [List.drop_zero, List.take_of_length_le (by omega)]
        simp only [AM.toPVs, e1, obs, e, oms]

/-- A list under way among them. -/
theorem LvS.lst {H : Heap} {N M sz m : Nat} {o : AV} {xs : List PV} {ys : List AV} {cs : List PV} (hL : Lst sz o H m xs) (hN : New N o) (hM : ∀ id g off n, o = .row id g off n → id < M) (hNM : N ≤ M) (h : LvS H M ys cs) : ∃ nt : Option Bool × Bool, LvS H N (o :: ys) (.sl nt.1 nt.2 m xs :: cs) := by
  obtain ⟨hl, ⟨nl, rfl, _⟩ | ⟨id, g, rfl, ho⟩⟩ := hL
  · exact ⟨(nl, true), .inl ⟨rfl, h.mono hNM fun _ _ => rfl⟩⟩
  · exact ⟨(_, false), .inr ⟨id, g, sz, m, xs, rfl, hN _ _ _ _ rfl, ho, hl, rfl, h.mono (hM _ _ _ _ rfl) fun _ _ => rfl⟩⟩

theorem Lst.kr {sz m N r : Nat} {o : AV} {H H' : Heap} {cs : List PV} {xs : List AV} (h : Lst sz o H m cs) (hk : ∀ j, j < H.length → j ≠ r → H'[j]? = H[j]?) (hr : H[r]? = some (.box xs)) : Lst sz o H' m cs := by
  obtain ⟨hl, ⟨nl, rfl, h1⟩ | ⟨id, g, rfl, ho⟩⟩ := h
  · exact ⟨hl, .inl ⟨nl, rfl, h1⟩⟩
  · exact ⟨hl, .inr ⟨id, g, rfl, by rw [hk id (getElem?_lt ho) fun e => by rw [e, hr] at ho; cases ho]; exact ho⟩⟩

def postO {α : Type} (enc : α → List PV) (fe : α → List Int) (ok : α → Prop) (y : AV) (H : Heap) (N : Nat) (out : List Int) : Prop := ∃ d, ok d ∧ LvS H N y.cells (enc d) ∧ out = fe d
def postS {α : Type} (c : Nat) (enc : α → List PV) (fe : α → List Int) (ok : α → Prop) (y : AV) (H : Heap) (N : Nat) (out : List Int) : Prop :=
  ∃ l : List α, Lst c y H l.length (l.flatMap enc) ∧ New N y ∧ (∀ id g off n, y = .row id g off n → id < H.length) ∧ l.length ≤ RLIM ∧ (∀ x ∈ l, ok x) ∧ out = (l.length : Int) :: l.flatMap fe
def FS (FE : List Int → Prop) (w : List Int) : Prop := ∃ ws : List (List Int), w = (ws.length : Int) :: ws.flatten ∧ ∀ v ∈ ws, FE v

theorem flat_len {FE : List Int → Prop} (hF : ∀ w, FE w → w ≠ []) : ∀ (ws : List (List Int)), (∀ v ∈ ws, FE v) → ws.length ≤ ws.flatten.length := by
  intro ws
  induction ws with
  | nil => intro _; simp
  | cons w ws ih =>
    intro h
    have h1 := ih fun v hv => h v (List.mem_cons_of_mem _ hv)
    have h2 := List.length_pos_iff.mpr (hF w (h w (List.mem_cons_self ..)))
    simp only [List.length_cons, List.flatten_cons, List.length_append]
    omega

theorem one_lit {c : Nat} {y : AV} {H : Heap} {N : Nat} {cs : List PV} (h : LvS H N y.cells cs) (hc : cs.length = c) : ∃ H', litA false c [y] H = some (.p (.sl (some false) true 1 cs), H') ∧ H'.length = H.length ∧ ∀ j, j < N → H'[j]? = H[j]? := by
  obtain ⟨H', e, hl, hk⟩ := h.toPVs
  refine ⟨H', ?_, hl, hk⟩
  have h1 := h.len
  unfold litA
  rw [if_pos (by simp [h1, hc])]
  simp only [litCells, List.append_nil, e, obs, Bool.false_eq_true, if_false, List.length_singleton]

theorem app_new {sz bytes m k N : Nat} {o y : AV} {H : Heap} {cs new : List PV} (hL : Lst sz o H m cs) (hN : New N o) (hle : N ≤ H.length) (hy : cellsA sz y H = some (k, new)) (hn : new.length = k * sz) (hk : 0 < k) (hr : (m + k) * bytes ≤ room) :
    ∃ o' H', appA sz bytes o y H = some (o', H') ∧ Lst sz o' H' (m + k) (cs ++ new) ∧ New N o' ∧ KN N H H' ∧ ∀ (j : Nat) (xs : List AV), H[j]? = some (AObj.box xs) → H'[j]? = some (AObj.box xs) := by
  obtain ⟨o', H', ea, hL', hK, _, h6, id, g, q1, q2⟩ := hL.app (bytes := bytes) (y := y) hy hn hk hr
  refine ⟨o', H', ea, hL', fun id' g' off n e => ?_, ⟨hK.1, fun j hj => ?_⟩, fun j xs hj => ?_⟩
  · rcases Nat.lt_or_ge id' N with hlt | hge
    · rw [q1] at e
      cases e
      exact (h6 id (by omega) (fun g n e => by have := hN _ _ _ _ e; omega) _ _ q1).elim
    · exact hge
  · have hj' : j < H.length := by omega
    rw [List.getElem?_eq_getElem hj']
    exact hK.2 j _ (List.getElem?_eq_getElem hj') fun g n e => by have := hN _ _ _ _ e; omega
  · refine hK.2 j _ hj fun g' n e => ?_
    obtain ⟨_, ⟨nl, rfl, _⟩ | ⟨id', g'', rfl, ho⟩⟩ := hL
    · cases e
    · cases e
      rw [hj] at ho
      cases ho

theorem lst_row_lt {sz m : Nat} {o : AV} {H : Heap} {cs : List PV} (h : Lst sz o H m cs) : ∀ id g off n, o = .row id g off n → id < H.length := by
  intro id g off n e
  obtain ⟨_, ⟨nl, rfl, _⟩ | ⟨id', g', rfl, ho⟩⟩ := h
  · cases e
  · cases e; exact getElem?_lt ho

section
variable {α : Type} {enc : α → List PV} {fe : α → List Int} {ok : α → Prop} {FE : List Int → Prop} {cl : AV} {r M : Nat} {lo : List Nat}

/-! ### some 101 -/
theorem stop101 {n : Int} {i : Nat} {o : AV} {H : Heap} {zs : List Int} (h : Rd r M lo H zs true) : L101_14 [.ptr r 0, cl, I n, o, I i] lo H = leave 1 lo [o] H := by
  obtain ⟨x, h1, h2, h3⟩ := h
  have hn : nilCheckA (.ptr r 0) = some (.ptr r 0) := rfl
  rw [L101_14_eq]
  by_cases hi : (i : Int) < n
  · simp only [hi, obs, oms, bin_add, bin_sub, bin_lss, bin_leq, bin_gtr, bin_geq, bin_eql, bin_neq, bin_eqlB, bin_neqB, un_not, cond_B, gd_B, gd_undef, gdH_B, gdH_undef, pickA_B, extractA_tup, lenA_sl, lenA_row, fldA_fp, fldA_ptr, fldA_rptr, List.getElem?_cons_zero, List.getElem?_cons_succ, decide_true, decide_false, if_true, if_false, Bool.true_eq_false, Bool.false_eq_true, Bool.not_true, Bool.not_false, hn, ldR1 h1]
  · simp only [hi, obs, oms, bin_add, bin_sub, bin_lss, bin_leq, bin_gtr, bin_geq, bin_eql, bin_neq, bin_eqlB, bin_neqB, un_not, cond_B, gd_B, gd_undef, gdH_B, gdH_undef, pickA_B, extractA_tup, lenA_sl, lenA_row, fldA_fp, fldA_ptr, fldA_rptr, List.getElem?_cons_zero, List.getElem?_cons_succ, decide_true, decide_false, if_true, if_false, Bool.true_eq_false, Bool.false_eq_true, Bool.not_true, Bool.not_false]

theorem loop101 (hE : ∀ p, (enc p).length = 4) (hcl : RS r M lo (fun H => callV cfg O cl [] lo H) FE (postO enc fe ok)) {N n : Nat} (hn : n ≤ RLIM) (hMN : M ≤ N) (hrN : r < N) : ∀ (cnt i : Nat) (o : AV) (H : Heap) (zs : List Int) (bad : Bool) (acc : List α), n - i = cnt → i ≤ n → acc.length = i → Lst 4 o H i (acc.flatMap enc) → New N o → N ≤ H.length → Rd r M lo H zs bad → zs.length ≤ RLIM → (∀ x ∈ acc, ok x) →
    ∃ o' H' zs' bad', ∃ acc' : List α, L101_14 [.ptr r 0, cl, I n, o, I i] lo H = leave 1 lo [o'] H' ∧ Rd r M lo H' zs' bad' ∧ KR r N H H' ∧ Lst 4 o' H' acc'.length (acc'.flatMap enc) ∧ New N o' ∧ acc'.length ≤ n ∧ (∀ x ∈ acc', ok x) ∧ zs'.length ≤ zs.length ∧
      (bad' = false → bad = false ∧ acc'.length = n ∧ acc.flatMap fe ++ zs = acc'.flatMap fe ++ zs') ∧
      (bad = false → ∀ (ws : List (List Int)) t, ws.length = n - i → (∀ w ∈ ws, FE w) → zs = ws.flatten ++ t → bad' = false ∧ zs' = t) := by
  have hrl : RLIM = 16777216 := rfl
  intro cnt
  induction cnt with
  | zero =>
    intro i o H zs bad acc hc hi ha hL hN hle hR hz hok
    have : i = n := by omega
    subst this
    refine ⟨o, H, zs, bad, acc, ?_, hR, KR.refl _ _ _, by rw [ha]; exact hL, hN, by omega, hok, Nat.le_refl _, fun e => ⟨e, ha, rfl⟩, fun e ws t h1 h2 h3 => ?_⟩
    · rw [L101_14_eq]
      simp only [obs, oms, bin_add, bin_sub, bin_lss, bin_leq, bin_gtr, bin_geq, bin_eql, bin_neq, bin_eqlB, bin_neqB, un_not, cond_B, gd_B, gd_undef, gdH_B, gdH_undef, pickA_B, extractA_tup, lenA_sl, lenA_row, fldA_fp, fldA_ptr, fldA_rptr, List.getElem?_cons_zero, List.getElem?_cons_succ, decide_true, decide_false, if_true, if_false, Bool.true_eq_false, Bool.false_eq_true, Bool.not_true, Bool.not_false, Int.lt_irrefl]
    · have : ws = [] := List.length_eq_zero_iff.mp (by omega)
      subst this
      exact ⟨e, by simpa using h3⟩
  | succ cnt ih =>
    intro i o H zs bad acc hc hi ha hL hN hle hR hz hok
    cases bad with
    | true => exact ⟨o, H, zs, true, acc, stop101 hR, hR, KR.refl _ _ _, by rw [ha]; exact hL, hN, by omega, hok, Nat.le_refl _, fun e => by simp at e, fun e => by simp at e⟩
    | false =>
      obtain ⟨y, H1, zs1, bad1, out, e1, hR1, hK1, hT1, d, hd, hlv, hout⟩ := hcl H zs false hR hz
      obtain ⟨x, h1, h2, h3⟩ := hR
      have hrlt := getElem?_lt h1
      obtain ⟨H2, e2, hl2, hk2⟩ := one_lit hlv (hE d)
      have hL1 : Lst 4 o H1 i (acc.flatMap enc) := Lst.kr (N := N) hL hK1.2 h1
      have hR2 : Rd r M lo H2 zs1 bad1 := hR1.kn (K := H.length) ⟨by omega, hk2⟩ hrlt (by omega)
      have hL2 : Lst 4 o H2 i (acc.flatMap enc) := by
        obtain ⟨hl, ⟨nl, rfl, h1'⟩ | ⟨id, g, rfl, ho⟩⟩ := hL1
        · exact ⟨hl, .inl ⟨nl, rfl, h1'⟩⟩
        · exact ⟨hl, .inr ⟨id, g, rfl, by rw [hk2 id (lst_row_lt hL _ _ _ _ rfl)]; exact ho⟩⟩
      have hlen1 := hK1.1
      obtain ⟨o', H3, e3, hL3, hN3, hk3, hb3⟩ := app_new (bytes := 64) (y := .p (.sl (some false) true 1 (enc d))) (k := 1) (new := enc d) hL2 hN (by omega) (by simp [cellsA, hE]) (by simp [hE]) (by omega) (by simp only [room]; omega)
      have hR3 : Rd r M lo H3 zs1 bad1 := hR2.kn (K := N) hk3 hrN hMN
      obtain ⟨o4, H4, zs4, bad4, acc4, e4, hR4, hK4, hL4, hN4, hle4, hok4, hz4, hs4, hc4⟩ := ih (i + 1) o' H3 zs1 bad1 (acc ++ [d]) (by omega) (by omega) (by simp [ha]) (by simpa using hL3) hN3 (by have := hk3.1; omega) hR3 (by have := hT1.len; omega) (fun x hx => by
        rcases List.mem_append.mp hx with h | h
        · exact hok x h
        · rw [List.mem_singleton.mp h]; exact hd)
      refine ⟨o4, H4, zs4, bad4, acc4, ?_, hR4, ⟨by have := hk3.1; have := hK4.1; omega, fun j hj hjr => by rw [hK4.2 j hj hjr, hk3.2 j hj, hk2 j (by omega), hK1.2 j (by omega) hjr]⟩, hL4, hN4, hle4, hok4, by have := hT1.len; omega, fun e => ?_, fun e ws t g1 g2 g3 => ?_⟩
      · have hnc : nilCheckA (.ptr r 0) = some (.ptr r 0) := rfl
        have hi' : (i : Int) < n := by omega
        rw [L101_14_eq]
        simp only [hi', obs, oms, bin_add, bin_sub, bin_lss, bin_leq, bin_gtr, bin_geq, bin_eql, bin_neq, bin_eqlB, bin_neqB, un_not, cond_B, gd_B, gd_undef, gdH_B, gdH_undef, pickA_B, extractA_tup, lenA_sl, lenA_row, fldA_fp, fldA_ptr, fldA_rptr, List.getElem?_cons_zero, List.getElem?_cons_succ, decide_true, decide_false, if_true, if_false, Bool.true_eq_false, Bool.false_eq_true, Bool.not_true, Bool.not_false, hnc, ldR1 h1, e1, e2, e3]
        rw [wrap_id (by omega), nxt, e4]
      · obtain ⟨s1, s2, s3⟩ := hs4 e
        obtain ⟨s4, s5⟩ := hT1.snd s1
        refine ⟨rfl, s2, ?_⟩
        rw [← s3, s5, hout]
        simp
      · cases ws with
        | nil => simp at g1; omega
        | cons w ws =>
          obtain ⟨s1, s2⟩ := hT1.cmp rfl w (ws.flatten ++ t) (g2 w (List.mem_cons_self ..)) (by rw [g3]; simp)
          exact hc4 s1 ws t (by simp at g1; omega) (fun v hv => g2 v (List.mem_cons_of_mem _ hv)) s2

theorem ent101 (hE : ∀ p, (enc p).length = 4) (hF : ∀ w, FE w → w ≠ []) (hcl : ∀ lo', RS r M lo' (fun H => callV cfg O cl [] lo' H) FE (postO enc fe ok)) : ∀ H zs bad, Rd r M lo H zs bad → zs.length ≤ RLIM →
    ∃ o H' zs' bad' out, O.ent 101 [.ptr r 0, cl] lo H = leave 1 lo [o] H' ∧ Rd r M lo H' zs' bad' ∧ KR r H.length H H' ∧ Tr zs bad zs' bad' out (FS FE) ∧ postS 4 enc fe ok o H' H.length out := by
  intro H zs bad hR hz
  have hR0 : Rd r M lo H zs bad := by first | exact hR | exact hR.up
  have hMl := hR.le
  have hrl0 := hR.lt
  obtain ⟨y, H1, zs1, bad1, out1, e1, hR1, hK1, hT1, n, rfl, rfl⟩ := call113 (lo := lo) H zs bad hR0 hz
  have hlen := hK1.1
  have hz1 := hT1.len
  obtain ⟨x, h1, h2, h3⟩ := hR1
  have hnc : nilCheckA (.ptr r 0) = some (.ptr r 0) := rfl
  by_cases hbad : n < 0 ∨ (zs1.length : Int) < n
  · obtain ⟨k1, k2⟩ := Rd.flag (zs' := zs1) h1 h2 h3 true h2 h3.1
    refine ⟨.p nilS, H1.set r (.box [x, B true]), zs1, true, [0], ?_, k1, hK1.trans k2 hlen, ⟨fun e => by simp at e, fun e w t hw hzz => ?_, hz1⟩, [], Lst.nil _ _, (fun _ _ _ _ e => by cases e), (fun _ _ _ _ e => by cases e), by simp, by simp, rfl⟩
    · have hs := stop101 (cl := cl) (n := n) (i := 0) (o := .p nilS) k1
      rw [f101_eq]
      simp only [e1, obs]
      by_cases hn0 : n < 0
      · simp only [hn0, obs, oms, bin_add, bin_sub, bin_lss, bin_leq, bin_gtr, bin_geq, bin_eql, bin_neq, bin_eqlB, bin_neqB, un_not, cond_B, gd_B, gd_undef, gdH_B, gdH_undef, pickA_B, extractA_tup, lenA_sl, lenA_row, fldA_fp, fldA_ptr, fldA_rptr, List.getElem?_cons_zero, List.getElem?_cons_succ, decide_true, decide_false, if_true, if_false, Bool.true_eq_false, Bool.false_eq_true, Bool.not_true, Bool.not_false, hnc, stR1 h1]
        rw [L101_11_eq]
        exact hs
      · have hn1 : (zs1.length : Int) < n := by omega
        simp only [hn0, hn1, obs, oms, bin_add, bin_sub, bin_lss, bin_leq, bin_gtr, bin_geq, bin_eql, bin_neq, bin_eqlB, bin_neqB, un_not, cond_B, gd_B, gd_undef, gdH_B, gdH_undef, pickA_B, extractA_tup, lenA_sl, lenA_row, fldA_fp, fldA_ptr, fldA_rptr, List.getElem?_cons_zero, List.getElem?_cons_succ, decide_true, decide_false, if_true, if_false, Bool.true_eq_false, Bool.false_eq_true, Bool.not_true, Bool.not_false, hnc, ldR0 h1, h2.len, stR1 h1]
        rw [L101_11_eq]
        exact hs
    · obtain ⟨ws, rfl, hws⟩ := hw
      obtain ⟨s1, s2⟩ := hT1.cmp e [(ws.length : Int)] (ws.flatten ++ t) ⟨_, rfl⟩ (by rw [hzz]; simp)
      obtain ⟨_, s3⟩ := hT1.snd s1
      rw [hzz] at s3
      simp only [List.cons_append, List.nil_append, List.cons.injEq] at s3
      have := flat_len hF ws hws
      have hl : zs1.length = ws.flatten.length + t.length := by rw [s2, List.length_append]
      omega
  · obtain ⟨k, rfl⟩ : ∃ k : Nat, n = k := ⟨n.toNat, by omega⟩
    obtain ⟨o', H', zs', bad', acc', e2, hR2, hK2, hL2, hN2, hle2, hok2, hz2, hs2, hc2⟩ := loop101 (lo := lo) (N := H.length) (n := k) hE (hcl _) (by omega) hMl hrl0 k 0 (.p nilS) H1 zs1 bad1 [] rfl (by omega) rfl (Lst.nil _ _) (fun _ _ _ _ e => by cases e) (by omega) ⟨x, h1, h2, h3⟩ (by omega) (by simp)
    refine ⟨o', H', zs', bad', (acc'.length : Int) :: acc'.flatMap fe, ?_, hR2, hK1.trans hK2 (Nat.le_refl _), ⟨fun e => ?_, fun e w t hw hzz => ?_, by omega⟩, acc', hL2, hN2, lst_row_lt hL2, by omega, hok2, rfl⟩
    · rw [f101_eq]
      have hn0 : ¬ (k : Int) < 0 := by omega
      have hn1 : ¬ (zs1.length : Int) < k := by omega
      simp only [e1, hn0, hn1, obs, oms, bin_add, bin_sub, bin_lss, bin_leq, bin_gtr, bin_geq, bin_eql, bin_neq, bin_eqlB, bin_neqB, un_not, cond_B, gd_B, gd_undef, gdH_B, gdH_undef, pickA_B, extractA_tup, lenA_sl, lenA_row, fldA_fp, fldA_ptr, fldA_rptr, List.getElem?_cons_zero, List.getElem?_cons_succ, decide_true, decide_false, if_true, if_false, Bool.true_eq_false, Bool.false_eq_true, Bool.not_true, Bool.not_false, hnc, ldR0 h1, h2.len]
      rw [L101_11_eq]
      exact e2
    · obtain ⟨s1, s2, s3⟩ := hs2 e
      obtain ⟨s4, s5⟩ := hT1.snd s1
      refine ⟨s4, ?_⟩
      rw [s5, s2]
      simp only [List.flatMap_nil, List.nil_append] at s3
      rw [s3]
      simp
    · obtain ⟨ws, rfl, hws⟩ := hw
      obtain ⟨s1, s2⟩ := hT1.cmp e [(ws.length : Int)] (ws.flatten ++ t) ⟨_, rfl⟩ (by rw [hzz]; simp)
      obtain ⟨_, s3⟩ := hT1.snd s1
      rw [hzz] at s3
      simp only [List.cons_append, List.nil_append, List.cons.injEq] at s3
      exact hc2 s1 ws t (by omega) hws s2

theorem call101 (hE : ∀ p, (enc p).length = 4) (hF : ∀ w, FE w → w ≠ []) (hcl : ∀ lo', RS r M lo' (fun H => callV cfg O cl [] lo' H) FE (postO enc fe ok)) : RS r M lo (fun H => callA cfg O 101 [.ptr r 0, cl] lo H) (FS FE) (postS 4 enc fe ok) := by
  intro H zs bad hR hz
  obtain ⟨o, H', zs', bad', out, e, rest⟩ := ent101 hE hF hcl H zs bad hR hz
  exact ⟨o, H', zs', bad', out, callA_keep (rs := [o]) rfl e, rest⟩

/-! ### some 103 -/
theorem stop103 {n : Int} {i : Nat} {o : AV} {H : Heap} {zs : List Int} (h : Rd r M lo H zs true) : L103_14 [.ptr r 0, cl, I n, o, I i] lo H = leave 1 lo [o] H := by
  obtain ⟨x, h1, h2, h3⟩ := h
  have hn : nilCheckA (.ptr r 0) = some (.ptr r 0) := rfl
  rw [L103_14_eq]
  by_cases hi : (i : Int) < n
  · simp only [hi, obs, oms, bin_add, bin_sub, bin_lss, bin_leq, bin_gtr, bin_geq, bin_eql, bin_neq, bin_eqlB, bin_neqB, un_not, cond_B, gd_B, gd_undef, gdH_B, gdH_undef, pickA_B, extractA_tup, lenA_sl, lenA_row, fldA_fp, fldA_ptr, fldA_rptr, List.getElem?_cons_zero, List.getElem?_cons_succ, decide_true, decide_false, if_true, if_false, Bool.true_eq_false, Bool.false_eq_true, Bool.not_true, Bool.not_false, hn, ldR1 h1]
  · simp only [hi, obs, oms, bin_add, bin_sub, bin_lss, bin_leq, bin_gtr, bin_geq, bin_eql, bin_neq, bin_eqlB, bin_neqB, un_not, cond_B, gd_B, gd_undef, gdH_B, gdH_undef, pickA_B, extractA_tup, lenA_sl, lenA_row, fldA_fp, fldA_ptr, fldA_rptr, List.getElem?_cons_zero, List.getElem?_cons_succ, decide_true, decide_false, if_true, if_false, Bool.true_eq_false, Bool.false_eq_true, Bool.not_true, Bool.not_false]

theorem loop103 (hE : ∀ p, (enc p).length = 2) (hcl : RS r M lo (fun H => callV cfg O cl [] lo H) FE (postO enc fe ok)) {N n : Nat} (hn : n ≤ RLIM) (hMN : M ≤ N) (hrN : r < N) : ∀ (cnt i : Nat) (o : AV) (H : Heap) (zs : List Int) (bad : Bool) (acc : List α), n - i = cnt → i ≤ n → acc.length = i → Lst 2 o H i (acc.flatMap enc) → New N o → N ≤ H.length → Rd r M lo H zs bad → zs.length ≤ RLIM → (∀ x ∈ acc, ok x) →
    ∃ o' H' zs' bad', ∃ acc' : List α, L103_14 [.ptr r 0, cl, I n, o, I i] lo H = leave 1 lo [o'] H' ∧ Rd r M lo H' zs' bad' ∧ KR r N H H' ∧ Lst 2 o' H' acc'.length (acc'.flatMap enc) ∧ New N o' ∧ acc'.length ≤ n ∧ (∀ x ∈ acc', ok x) ∧ zs'.length ≤ zs.length ∧
      (bad' = false → bad = false ∧ acc'.length = n ∧ acc.flatMap fe ++ zs = acc'.flatMap fe ++ zs') ∧
      (bad = false → ∀ (ws : List (List Int)) t, ws.length = n - i → (∀ w ∈ ws, FE w) → zs = ws.flatten ++ t → bad' = false ∧ zs' = t) := by
  have hrl : RLIM = 16777216 := rfl
  intro cnt
  induction cnt with
  | zero =>
    intro i o H zs bad acc hc hi ha hL hN hle hR hz hok
    have : i = n := by omega
    subst this
    refine ⟨o, H, zs, bad, acc, ?_, hR, KR.refl _ _ _, by rw [ha]; exact hL, hN, by omega, hok, Nat.le_refl _, fun e => ⟨e, ha, rfl⟩, fun e ws t h1 h2 h3 => ?_⟩
    · rw [L103_14_eq]
      simp only [obs, oms, bin_add, bin_sub, bin_lss, bin_leq, bin_gtr, bin_geq, bin_eql, bin_neq, bin_eqlB, bin_neqB, un_not, cond_B, gd_B, gd_undef, gdH_B, gdH_undef, pickA_B, extractA_tup, lenA_sl, lenA_row, fldA_fp, fldA_ptr, fldA_rptr, List.getElem?_cons_zero, List.getElem?_cons_succ, decide_true, decide_false, if_true, if_false, Bool.true_eq_false, Bool.false_eq_true, Bool.not_true, Bool.not_false, Int.lt_irrefl]
    · have : ws = [] := List.length_eq_zero_iff.mp (by omega)
      subst this
      exact ⟨e, by simpa using h3⟩
  | succ cnt ih =>
    intro i o H zs bad acc hc hi ha hL hN hle hR hz hok
    cases bad with
    | true => exact ⟨o, H, zs, true, acc, stop103 hR, hR, KR.refl _ _ _, by rw [ha]; exact hL, hN, by omega, hok, Nat.le_refl _, fun e => by simp at e, fun e => by simp at e⟩
    | false =>
      obtain ⟨y, H1, zs1, bad1, out, e1, hR1, hK1, hT1, d, hd, hlv, hout⟩ := hcl H zs false hR hz
      obtain ⟨x, h1, h2, h3⟩ := hR
      have hrlt := getElem?_lt h1
      obtain ⟨H2, e2, hl2, hk2⟩ := one_lit hlv (hE d)
      have hL1 : Lst 2 o H1 i (acc.flatMap enc) := Lst.kr (N := N) hL hK1.2 h1
      have hR2 : Rd r M lo H2 zs1 bad1 := hR1.kn (K := H.length) ⟨by omega, hk2⟩ hrlt (by omega)
      have hL2 : Lst 2 o H2 i (acc.flatMap enc) := by
        obtain ⟨hl, ⟨nl, rfl, h1'⟩ | ⟨id, g, rfl, ho⟩⟩ := hL1
        · exact ⟨hl, .inl ⟨nl, rfl, h1'⟩⟩
        · exact ⟨hl, .inr ⟨id, g, rfl, by rw [hk2 id (lst_row_lt hL _ _ _ _ rfl)]; exact ho⟩⟩
      have hlen1 := hK1.1
      obtain ⟨o', H3, e3, hL3, hN3, hk3, hb3⟩ := app_new (bytes := 16) (y := .p (.sl (some false) true 1 (enc d))) (k := 1) (new := enc d) hL2 hN (by omega) (by simp [cellsA, hE]) (by simp [hE]) (by omega) (by simp only [room]; omega)
      have hR3 : Rd r M lo H3 zs1 bad1 := hR2.kn (K := N) hk3 hrN hMN
      obtain ⟨o4, H4, zs4, bad4, acc4, e4, hR4, hK4, hL4, hN4, hle4, hok4, hz4, hs4, hc4⟩ := ih (i + 1) o' H3 zs1 bad1 (acc ++ [d]) (by omega) (by omega) (by simp [ha]) (by simpa using hL3) hN3 (by have := hk3.1; omega) hR3 (by have := hT1.len; omega) (fun x hx => by
        rcases List.mem_append.mp hx with h | h
        · exact hok x h
        · rw [List.mem_singleton.mp h]; exact hd)
      refine ⟨o4, H4, zs4, bad4, acc4, ?_, hR4, ⟨by have := hk3.1; have := hK4.1; omega, fun j hj hjr => by rw [hK4.2 j hj hjr, hk3.2 j hj, hk2 j (by omega), hK1.2 j (by omega) hjr]⟩, hL4, hN4, hle4, hok4, by have := hT1.len; omega, fun e => ?_, fun e ws t g1 g2 g3 => ?_⟩
      · have hnc : nilCheckA (.ptr r 0) = some (.ptr r 0) := rfl
        have hi' : (i : Int) < n := by omega
        rw [L103_14_eq]
        simp only [hi', obs, oms, bin_add, bin_sub, bin_lss, bin_leq, bin_gtr, bin_geq, bin_eql, bin_neq, bin_eqlB, bin_neqB, un_not, cond_B, gd_B, gd_undef, gdH_B, gdH_undef, pickA_B, extractA_tup, lenA_sl, lenA_row, fldA_fp, fldA_ptr, fldA_rptr, List.getElem?_cons_zero, List.getElem?_cons_succ, decide_true, decide_false, if_true, if_false, Bool.true_eq_false, Bool.false_eq_true, Bool.not_true, Bool.not_false, hnc, ldR1 h1, e1, e2, e3]
        rw [wrap_id (by omega), nxt, e4]
      · obtain ⟨s1, s2, s3⟩ := hs4 e
        obtain ⟨s4, s5⟩ := hT1.snd s1
        refine ⟨rfl, s2, ?_⟩
        rw [← s3, s5, hout]
        simp
      · cases ws with
        | nil => simp at g1; omega
        | cons w ws =>
          obtain ⟨s1, s2⟩ := hT1.cmp rfl w (ws.flatten ++ t) (g2 w (List.mem_cons_self ..)) (by rw [g3]; simp)
          exact hc4 s1 ws t (by simp at g1; omega) (fun v hv => g2 v (List.mem_cons_of_mem _ hv)) s2

theorem ent103 (hE : ∀ p, (enc p).length = 2) (hF : ∀ w, FE w → w ≠ []) (hcl : ∀ lo', RS r M lo' (fun H => callV cfg O cl [] lo' H) FE (postO enc fe ok)) : ∀ H zs bad, Rd r M lo H zs bad → zs.length ≤ RLIM →
    ∃ o H' zs' bad' out, O.ent 103 [.ptr r 0, cl] lo H = leave 1 lo [o] H' ∧ Rd r M lo H' zs' bad' ∧ KR r H.length H H' ∧ Tr zs bad zs' bad' out (FS FE) ∧ postS 2 enc fe ok o H' H.length out := by
  intro H zs bad hR hz
  have hR0 : Rd r M lo H zs bad := by first | exact hR | exact hR.up
  have hMl := hR.le
  have hrl0 := hR.lt
  obtain ⟨y, H1, zs1, bad1, out1, e1, hR1, hK1, hT1, n, rfl, rfl⟩ := call113 (lo := lo) H zs bad hR0 hz
  have hlen := hK1.1
  have hz1 := hT1.len
  obtain ⟨x, h1, h2, h3⟩ := hR1
  have hnc : nilCheckA (.ptr r 0) = some (.ptr r 0) := rfl
  by_cases hbad : n < 0 ∨ (zs1.length : Int) < n
  · obtain ⟨k1, k2⟩ := Rd.flag (zs' := zs1) h1 h2 h3 true h2 h3.1
    refine ⟨.p nilS, H1.set r (.box [x, B true]), zs1, true, [0], ?_, k1, hK1.trans k2 hlen, ⟨fun e => by simp at e, fun e w t hw hzz => ?_, hz1⟩, [], Lst.nil _ _, (fun _ _ _ _ e => by cases e), (fun _ _ _ _ e => by cases e), by simp, by simp, rfl⟩
    · have hs := stop103 (cl := cl) (n := n) (i := 0) (o := .p nilS) k1
      rw [f103_eq]
      simp only [e1, obs]
      by_cases hn0 : n < 0
      · simp only [hn0, obs, oms, bin_add, bin_sub, bin_lss, bin_leq, bin_gtr, bin_geq, bin_eql, bin_neq, bin_eqlB, bin_neqB, un_not, cond_B, gd_B, gd_undef, gdH_B, gdH_undef, pickA_B, extractA_tup, lenA_sl, lenA_row, fldA_fp, fldA_ptr, fldA_rptr, List.getElem?_cons_zero, List.getElem?_cons_succ, decide_true, decide_false, if_true, if_false, Bool.true_eq_false, Bool.false_eq_true, Bool.not_true, Bool.not_false, hnc, stR1 h1]
        rw [L103_11_eq]
        exact hs
      · have hn1 : (zs1.length : Int) < n := by omega
        simp only [hn0, hn1, obs, oms, bin_add, bin_sub, bin_lss, bin_leq, bin_gtr, bin_geq, bin_eql, bin_neq, bin_eqlB, bin_neqB, un_not, cond_B, gd_B, gd_undef, gdH_B, gdH_undef, pickA_B, extractA_tup, lenA_sl, lenA_row, fldA_fp, fldA_ptr, fldA_rptr, List.getElem?_cons_zero, List.getElem?_cons_succ, decide_true, decide_false, if_true, if_false, Bool.true_eq_false, Bool.false_eq_true, Bool.not_true, Bool.not_false, hnc, ldR0 h1, h2.len, stR1 h1]
        rw [L103_11_eq]
        exact hs
    · obtain ⟨ws, rfl, hws⟩ := hw
      obtain ⟨s1, s2⟩ := hT1.cmp e [(ws.length : Int)] (ws.flatten ++ t) ⟨_, rfl⟩ (by rw [hzz]; simp)
      obtain ⟨_, s3⟩ := hT1.snd s1
      rw [hzz] at s3
      simp only [List.cons_append, List.nil_append, List.cons.injEq] at s3
      have := flat_len hF ws hws
      have hl : zs1.length = ws.flatten.length + t.length := by rw [s2, List.length_append]
      omega
  · obtain ⟨k, rfl⟩ : ∃ k : Nat, n = k := ⟨n.toNat, by omega⟩
    obtain ⟨o', H', zs', bad', acc', e2, hR2, hK2, hL2, hN2, hle2, hok2, hz2, hs2, hc2⟩ := loop103 (lo := lo) (N := H.length) (n := k) hE (hcl _) (by omega) hMl hrl0 k 0 (.p nilS) H1 zs1 bad1 [] rfl (by omega) rfl (Lst.nil _ _) (fun _ _ _ _ e => by cases e) (by omega) ⟨x, h1, h2, h3⟩ (by omega) (by simp)
    refine ⟨o', H', zs', bad', (acc'.length : Int) :: acc'.flatMap fe, ?_, hR2, hK1.trans hK2 (Nat.le_refl _), ⟨fun e => ?_, fun e w t hw hzz => ?_, by omega⟩, acc', hL2, hN2, lst_row_lt hL2, by omega, hok2, rfl⟩
    · rw [f103_eq]
      have hn0 : ¬ (k : Int) < 0 := by omega
      have hn1 : ¬ (zs1.length : Int) < k := by omega
      simp only [e1, hn0, hn1, obs, oms, bin_add, bin_sub, bin_lss, bin_leq, bin_gtr, bin_geq, bin_eql, bin_neq, bin_eqlB, bin_neqB, un_not, cond_B, gd_B, gd_undef, gdH_B, gdH_undef, pickA_B, extractA_tup, lenA_sl, lenA_row, fldA_fp, fldA_ptr, fldA_rptr, List.getElem?_cons_zero, List.getElem?_cons_succ, decide_true, decide_false, if_true, if_false, Bool.true_eq_false, Bool.false_eq_true, Bool.not_true, Bool.not_false, hnc, ldR0 h1, h2.len]
      rw [L103_11_eq]
      exact e2
    · obtain ⟨s1, s2, s3⟩ := hs2 e
      obtain ⟨s4, s5⟩ := hT1.snd s1
      refine ⟨s4, ?_⟩
      rw [s5, s2]
      simp only [List.flatMap_nil, List.nil_append] at s3
      rw [s3]
      simp
    · obtain ⟨ws, rfl, hws⟩ := hw
      obtain ⟨s1, s2⟩ := hT1.cmp e [(ws.length : Int)] (ws.flatten ++ t) ⟨_, rfl⟩ (by rw [hzz]; simp)
      obtain ⟨_, s3⟩ := hT1.snd s1
      rw [hzz] at s3
      simp only [List.cons_append, List.nil_append, List.cons.injEq] at s3
      exact hc2 s1 ws t (by omega) hws s2

theorem call103 (hE : ∀ p, (enc p).length = 2) (hF : ∀ w, FE w → w ≠ []) (hcl : ∀ lo', RS r M lo' (fun H => callV cfg O cl [] lo' H) FE (postO enc fe ok)) : RS r M lo (fun H => callA cfg O 103 [.ptr r 0, cl] lo H) (FS FE) (postS 2 enc fe ok) := by
  intro H zs bad hR hz
  obtain ⟨o, H', zs', bad', out, e, rest⟩ := ent103 hE hF hcl H zs bad hR hz
  exact ⟨o, H', zs', bad', out, callA_keep (rs := [o]) rfl e, rest⟩

/-! ### some 105 -/
theorem stop105 {n : Int} {i : Nat} {o : AV} {H : Heap} {zs : List Int} (h : Rd r M lo H zs true) : L105_14 [.ptr r 0, cl, I n, o, I i] lo H = leave 1 lo [o] H := by
  obtain ⟨x, h1, h2, h3⟩ := h
  have hn : nilCheckA (.ptr r 0) = some (.ptr r 0) := rfl
  rw [L105_14_eq]
  by_cases hi : (i : Int) < n
  · simp only [hi, obs, oms, bin_add, bin_sub, bin_lss, bin_leq, bin_gtr, bin_geq, bin_eql, bin_neq, bin_eqlB, bin_neqB, un_not, cond_B, gd_B, gd_undef, gdH_B, gdH_undef, pickA_B, extractA_tup, lenA_sl, lenA_row, fldA_fp, fldA_ptr, fldA_rptr, List.getElem?_cons_zero, List.getElem?_cons_succ, decide_true, decide_false, if_true, if_false, Bool.true_eq_false, Bool.false_eq_true, Bool.not_true, Bool.not_false, hn, ldR1 h1]
  · simp only [hi, obs, oms, bin_add, bin_sub, bin_lss, bin_leq, bin_gtr, bin_geq, bin_eql, bin_neq, bin_eqlB, bin_neqB, un_not, cond_B, gd_B, gd_undef, gdH_B, gdH_undef, pickA_B, extractA_tup, lenA_sl, lenA_row, fldA_fp, fldA_ptr, fldA_rptr, List.getElem?_cons_zero, List.getElem?_cons_succ, decide_true, decide_false, if_true, if_false, Bool.true_eq_false, Bool.false_eq_true, Bool.not_true, Bool.not_false]

theorem loop105 (hE : ∀ p, (enc p).length = 1) (hcl : RS r M lo (fun H => callV cfg O cl [] lo H) FE (postO enc fe ok)) {N n : Nat} (hn : n ≤ RLIM) (hMN : M ≤ N) (hrN : r < N) : ∀ (cnt i : Nat) (o : AV) (H : Heap) (zs : List Int) (bad : Bool) (acc : List α), n - i = cnt → i ≤ n → acc.length = i → Lst 1 o H i (acc.flatMap enc) → New N o → N ≤ H.length → Rd r M lo H zs bad → zs.length ≤ RLIM → (∀ x ∈ acc, ok x) →
    ∃ o' H' zs' bad', ∃ acc' : List α, L105_14 [.ptr r 0, cl, I n, o, I i] lo H = leave 1 lo [o'] H' ∧ Rd r M lo H' zs' bad' ∧ KR r N H H' ∧ Lst 1 o' H' acc'.length (acc'.flatMap enc) ∧ New N o' ∧ acc'.length ≤ n ∧ (∀ x ∈ acc', ok x) ∧ zs'.length ≤ zs.length ∧
      (bad' = false → bad = false ∧ acc'.length = n ∧ acc.flatMap fe ++ zs = acc'.flatMap fe ++ zs') ∧
      (bad = false → ∀ (ws : List (List Int)) t, ws.length = n - i → (∀ w ∈ ws, FE w) → zs = ws.flatten ++ t → bad' = false ∧ zs' = t) := by
  have hrl : RLIM = 16777216 := rfl
  intro cnt
  induction cnt with
  | zero =>
    intro i o H zs bad acc hc hi ha hL hN hle hR hz hok
    have : i = n := by omega
    subst this
    refine ⟨o, H, zs, bad, acc, ?_, hR, KR.refl _ _ _, by rw [ha]; exact hL, hN, by omega, hok, Nat.le_refl _, fun e => ⟨e, ha, rfl⟩, fun e ws t h1 h2 h3 => ?_⟩
    · rw [L105_14_eq]
      simp only [obs, oms, bin_add, bin_sub, bin_lss, bin_leq, bin_gtr, bin_geq, bin_eql, bin_neq, bin_eqlB, bin_neqB, un_not, cond_B, gd_B, gd_undef, gdH_B, gdH_undef, pickA_B, extractA_tup, lenA_sl, lenA_row, fldA_fp, fldA_ptr, fldA_rptr, List.getElem?_cons_zero, List.getElem?_cons_succ, decide_true, decide_false, if_true, if_false, Bool.true_eq_false, Bool.false_eq_true, Bool.not_true, Bool.not_false, Int.lt_irrefl]
    · have : ws = [] := List.length_eq_zero_iff.mp (by omega)
      subst this
      exact ⟨e, by simpa using h3⟩
  | succ cnt ih =>
    intro i o H zs bad acc hc hi ha hL hN hle hR hz hok
    cases bad with
    | true => exact ⟨o, H, zs, true, acc, stop105 hR, hR, KR.refl _ _ _, by rw [ha]; exact hL, hN, by omega, hok, Nat.le_refl _, fun e => by simp at e, fun e => by simp at e⟩
    | false =>
      obtain ⟨y, H1, zs1, bad1, out, e1, hR1, hK1, hT1, d, hd, hlv, hout⟩ := hcl H zs false hR hz
      obtain ⟨x, h1, h2, h3⟩ := hR
      have hrlt := getElem?_lt h1
      obtain ⟨H2, e2, hl2, hk2⟩ := one_lit hlv (hE d)
      have hL1 : Lst 1 o H1 i (acc.flatMap enc) := Lst.kr (N := N) hL hK1.2 h1
      have hR2 : Rd r M lo H2 zs1 bad1 := hR1.kn (K := H.length) ⟨by omega, hk2⟩ hrlt (by omega)
      have hL2 : Lst 1 o H2 i (acc.flatMap enc) := by
        obtain ⟨hl, ⟨nl, rfl, h1'⟩ | ⟨id, g, rfl, ho⟩⟩ := hL1
        · exact ⟨hl, .inl ⟨nl, rfl, h1'⟩⟩
        · exact ⟨hl, .inr ⟨id, g, rfl, by rw [hk2 id (lst_row_lt hL _ _ _ _ rfl)]; exact ho⟩⟩
      have hlen1 := hK1.1
      obtain ⟨o', H3, e3, hL3, hN3, hk3, hb3⟩ := app_new (bytes := 16) (y := .p (.sl (some false) true 1 (enc d))) (k := 1) (new := enc d) hL2 hN (by omega) (by simp [cellsA, hE]) (by simp [hE]) (by omega) (by simp only [room]; omega)
      have hR3 : Rd r M lo H3 zs1 bad1 := hR2.kn (K := N) hk3 hrN hMN
      obtain ⟨o4, H4, zs4, bad4, acc4, e4, hR4, hK4, hL4, hN4, hle4, hok4, hz4, hs4, hc4⟩ := ih (i + 1) o' H3 zs1 bad1 (acc ++ [d]) (by omega) (by omega) (by simp [ha]) (by simpa using hL3) hN3 (by have := hk3.1; omega) hR3 (by have := hT1.len; omega) (fun x hx => by
        rcases List.mem_append.mp hx with h | h
        · exact hok x h
        · rw [List.mem_singleton.mp h]; exact hd)
      refine ⟨o4, H4, zs4, bad4, acc4, ?_, hR4, ⟨by have := hk3.1; have := hK4.1; omega, fun j hj hjr => by rw [hK4.2 j hj hjr, hk3.2 j hj, hk2 j (by omega), hK1.2 j (by omega) hjr]⟩, hL4, hN4, hle4, hok4, by have := hT1.len; omega, fun e => ?_, fun e ws t g1 g2 g3 => ?_⟩
      · have hnc : nilCheckA (.ptr r 0) = some (.ptr r 0) := rfl
        have hi' : (i : Int) < n := by omega
        rw [L105_14_eq]
        simp only [hi', obs, oms, bin_add, bin_sub, bin_lss, bin_leq, bin_gtr, bin_geq, bin_eql, bin_neq, bin_eqlB, bin_neqB, un_not, cond_B, gd_B, gd_undef, gdH_B, gdH_undef, pickA_B, extractA_tup, lenA_sl, lenA_row, fldA_fp, fldA_ptr, fldA_rptr, List.getElem?_cons_zero, List.getElem?_cons_succ, decide_true, decide_false, if_true, if_false, Bool.true_eq_false, Bool.false_eq_true, Bool.not_true, Bool.not_false, hnc, ldR1 h1, e1, e2, e3]
        rw [wrap_id (by omega), nxt, e4]
      · obtain ⟨s1, s2, s3⟩ := hs4 e
        obtain ⟨s4, s5⟩ := hT1.snd s1
        refine ⟨rfl, s2, ?_⟩
        rw [← s3, s5, hout]
        simp
      · cases ws with
        | nil => simp at g1; omega
        | cons w ws =>
          obtain ⟨s1, s2⟩ := hT1.cmp rfl w (ws.flatten ++ t) (g2 w (List.mem_cons_self ..)) (by rw [g3]; simp)
          exact hc4 s1 ws t (by simp at g1; omega) (fun v hv => g2 v (List.mem_cons_of_mem _ hv)) s2

theorem ent105 (hE : ∀ p, (enc p).length = 1) (hF : ∀ w, FE w → w ≠ []) (hcl : ∀ lo', RS r M lo' (fun H => callV cfg O cl [] lo' H) FE (postO enc fe ok)) : ∀ H zs bad, Rd r M lo H zs bad → zs.length ≤ RLIM →
    ∃ o H' zs' bad' out, O.ent 105 [.ptr r 0, cl] lo H = leave 1 lo [o] H' ∧ Rd r M lo H' zs' bad' ∧ KR r H.length H H' ∧ Tr zs bad zs' bad' out (FS FE) ∧ postS 1 enc fe ok o H' H.length out := by
  intro H zs bad hR hz
  have hR0 : Rd r M lo H zs bad := by first | exact hR | exact hR.up
  have hMl := hR.le
  have hrl0 := hR.lt
  obtain ⟨y, H1, zs1, bad1, out1, e1, hR1, hK1, hT1, n, rfl, rfl⟩ := call113 (lo := lo) H zs bad hR0 hz
  have hlen := hK1.1
  have hz1 := hT1.len
  obtain ⟨x, h1, h2, h3⟩ := hR1
  have hnc : nilCheckA (.ptr r 0) = some (.ptr r 0) := rfl
  by_cases hbad : n < 0 ∨ (zs1.length : Int) < n
  · obtain ⟨k1, k2⟩ := Rd.flag (zs' := zs1) h1 h2 h3 true h2 h3.1
    refine ⟨.p nilS, H1.set r (.box [x, B true]), zs1, true, [0], ?_, k1, hK1.trans k2 hlen, ⟨fun e => by simp at e, fun e w t hw hzz => ?_, hz1⟩, [], Lst.nil _ _, (fun _ _ _ _ e => by cases e), (fun _ _ _ _ e => by cases e), by simp, by simp, rfl⟩
    · have hs := stop105 (cl := cl) (n := n) (i := 0) (o := .p nilS) k1
      rw [f105_eq]
      simp only [e1, obs]
      by_cases hn0 : n < 0
      · simp only [hn0, obs, oms, bin_add, bin_sub, bin_lss, bin_leq, bin_gtr, bin_geq, bin_eql, bin_neq, bin_eqlB, bin_neqB, un_not, cond_B, gd_B, gd_undef, gdH_B, gdH_undef, pickA_B, extractA_tup, lenA_sl, lenA_row, fldA_fp, fldA_ptr, fldA_rptr, List.getElem?_cons_zero, List.getElem?_cons_succ, decide_true, decide_false, if_true, if_false, Bool.true_eq_false, Bool.false_eq_true, Bool.not_true, Bool.not_false, hnc, stR1 h1]
        rw [L105_11_eq]
        exact hs
      · have hn1 : (zs1.length : Int) < n := by omega
        simp only [hn0, hn1, obs, oms, bin_add, bin_sub, bin_lss, bin_leq, bin_gtr, bin_geq, bin_eql, bin_neq, bin_eqlB, bin_neqB, un_not, cond_B, gd_B, gd_undef, gdH_B, gdH_undef, pickA_B, extractA_tup, lenA_sl, lenA_row, fldA_fp, fldA_ptr, fldA_rptr, List.getElem?_cons_zero, List.getElem?_cons_succ, decide_true, decide_false, if_true, if_false, Bool.true_eq_false, Bool.false_eq_true, Bool.not_true, Bool.not_false, hnc, ldR0 h1, h2.len, stR1 h1]
        rw [L105_11_eq]
        exact hs
    · obtain ⟨ws, rfl, hws⟩ := hw
      obtain ⟨s1, s2⟩ := hT1.cmp e [(ws.length : Int)] (ws.flatten ++ t) ⟨_, rfl⟩ (by rw [hzz]; simp)
      obtain ⟨_, s3⟩ := hT1.snd s1
      rw [hzz] at s3
      simp only [List.cons_append, List.nil_append, List.cons.injEq] at s3
      have := flat_len hF ws hws
      have hl : zs1.length = ws.flatten.length + t.length := by rw [s2, List.length_append]
      omega
  · obtain ⟨k, rfl⟩ : ∃ k : Nat, n = k := ⟨n.toNat, by omega⟩
    obtain ⟨o', H', zs', bad', acc', e2, hR2, hK2, hL2, hN2, hle2, hok2, hz2, hs2, hc2⟩ := loop105 (lo := lo) (N := H.length) (n := k) hE (hcl _) (by omega) hMl hrl0 k 0 (.p nilS) H1 zs1 bad1 [] rfl (by omega) rfl (Lst.nil _ _) (fun _ _ _ _ e => by cases e) (by omega) ⟨x, h1, h2, h3⟩ (by omega) (by simp)
    refine ⟨o', H', zs', bad', (acc'.length : Int) :: acc'.flatMap fe, ?_, hR2, hK1.trans hK2 (Nat.le_refl _), ⟨fun e => ?_, fun e w t hw hzz => ?_, by omega⟩, acc', hL2, hN2, lst_row_lt hL2, by omega, hok2, rfl⟩
    · rw [f105_eq]
      have hn0 : ¬ (k : Int) < 0 := by omega
      have hn1 : ¬ (zs1.length : Int) < k := by omega
      simp only [e1, hn0, hn1, obs, oms, bin_add, bin_sub, bin_lss, bin_leq, bin_gtr, bin_geq, bin_eql, bin_neq, bin_eqlB, bin_neqB, un_not, cond_B, gd_B, gd_undef, gdH_B, gdH_undef, pickA_B, extractA_tup, lenA_sl, lenA_row, fldA_fp, fldA_ptr, fldA_rptr, List.getElem?_cons_zero, List.getElem?_cons_succ, decide_true, decide_false, if_true, if_false, Bool.true_eq_false, Bool.false_eq_true, Bool.not_true, Bool.not_false, hnc, ldR0 h1, h2.len]
      rw [L105_11_eq]
      exact e2
    · obtain ⟨s1, s2, s3⟩ := hs2 e
      obtain ⟨s4, s5⟩ := hT1.snd s1
      refine ⟨s4, ?_⟩
      rw [s5, s2]
      simp only [List.flatMap_nil, List.nil_append] at s3
      rw [s3]
      simp
    · obtain ⟨ws, rfl, hws⟩ := hw
      obtain ⟨s1, s2⟩ := hT1.cmp e [(ws.length : Int)] (ws.flatten ++ t) ⟨_, rfl⟩ (by rw [hzz]; simp)
      obtain ⟨_, s3⟩ := hT1.snd s1
      rw [hzz] at s3
      simp only [List.cons_append, List.nil_append, List.cons.injEq] at s3
      exact hc2 s1 ws t (by omega) hws s2

theorem call105 (hE : ∀ p, (enc p).length = 1) (hF : ∀ w, FE w → w ≠ []) (hcl : ∀ lo', RS r M lo' (fun H => callV cfg O cl [] lo' H) FE (postO enc fe ok)) : RS r M lo (fun H => callA cfg O 105 [.ptr r 0, cl] lo H) (FS FE) (postS 1 enc fe ok) := by
  intro H zs bad hR hz
  obtain ⟨o, H', zs', bad', out, e, rest⟩ := ent105 hE hF hcl H zs bad hR hz
  exact ⟨o, H', zs', bad', out, callA_keep (rs := [o]) rfl e, rest⟩

/-! ### some 107 -/
theorem stop107 {n : Int} {i : Nat} {o : AV} {H : Heap} {zs : List Int} (h : Rd r M lo H zs true) : L107_14 [.ptr r 0, cl, I n, o, I i] lo H = leave 1 lo [o] H := by
  obtain ⟨x, h1, h2, h3⟩ := h
  have hn : nilCheckA (.ptr r 0) = some (.ptr r 0) := rfl
  rw [L107_14_eq]
  by_cases hi : (i : Int) < n
  · simp only [hi, obs, oms, bin_add, bin_sub, bin_lss, bin_leq, bin_gtr, bin_geq, bin_eql, bin_neq, bin_eqlB, bin_neqB, un_not, cond_B, gd_B, gd_undef, gdH_B, gdH_undef, pickA_B, extractA_tup, lenA_sl, lenA_row, fldA_fp, fldA_ptr, fldA_rptr, List.getElem?_cons_zero, List.getElem?_cons_succ, decide_true, decide_false, if_true, if_false, Bool.true_eq_false, Bool.false_eq_true, Bool.not_true, Bool.not_false, hn, ldR1 h1]
  · simp only [hi, obs, oms, bin_add, bin_sub, bin_lss, bin_leq, bin_gtr, bin_geq, bin_eql, bin_neq, bin_eqlB, bin_neqB, un_not, cond_B, gd_B, gd_undef, gdH_B, gdH_undef, pickA_B, extractA_tup, lenA_sl, lenA_row, fldA_fp, fldA_ptr, fldA_rptr, List.getElem?_cons_zero, List.getElem?_cons_succ, decide_true, decide_false, if_true, if_false, Bool.true_eq_false, Bool.false_eq_true, Bool.not_true, Bool.not_false]

theorem loop107 (hE : ∀ p, (enc p).length = 5) (hcl : RS r M lo (fun H => callV cfg O cl [] lo H) FE (postO enc fe ok)) {N n : Nat} (hn : n ≤ RLIM) (hMN : M ≤ N) (hrN : r < N) : ∀ (cnt i : Nat) (o : AV) (H : Heap) (zs : List Int) (bad : Bool) (acc : List α), n - i = cnt → i ≤ n → acc.length = i → Lst 5 o H i (acc.flatMap enc) → New N o → N ≤ H.length → Rd r M lo H zs bad → zs.length ≤ RLIM → (∀ x ∈ acc, ok x) →
    ∃ o' H' zs' bad', ∃ acc' : List α, L107_14 [.ptr r 0, cl, I n, o, I i] lo H = leave 1 lo [o'] H' ∧ Rd r M lo H' zs' bad' ∧ KR r N H H' ∧ Lst 5 o' H' acc'.length (acc'.flatMap enc) ∧ New N o' ∧ acc'.length ≤ n ∧ (∀ x ∈ acc', ok x) ∧ zs'.length ≤ zs.length ∧
      (bad' = false → bad = false ∧ acc'.length = n ∧ acc.flatMap fe ++ zs = acc'.flatMap fe ++ zs') ∧
      (bad = false → ∀ (ws : List (List Int)) t, ws.length = n - i → (∀ w ∈ ws, FE w) → zs = ws.flatten ++ t → bad' = false ∧ zs' = t) := by
  have hrl : RLIM = 16777216 := rfl
  intro cnt
  induction cnt with
  | zero =>
    intro i o H zs bad acc hc hi ha hL hN hle hR hz hok
    have : i = n := by omega
    subst this
    refine ⟨o, H, zs, bad, acc, ?_, hR, KR.refl _ _ _, by rw [ha]; exact hL, hN, by omega, hok, Nat.le_refl _, fun e => ⟨e, ha, rfl⟩, fun e ws t h1 h2 h3 => ?_⟩
    · rw [L107_14_eq]
      simp only [obs, oms, bin_add, bin_sub, bin_lss, bin_leq, bin_gtr, bin_geq, bin_eql, bin_neq, bin_eqlB, bin_neqB, un_not, cond_B, gd_B, gd_undef, gdH_B, gdH_undef, pickA_B, extractA_tup, lenA_sl, lenA_row, fldA_fp, fldA_ptr, fldA_rptr, List.getElem?_cons_zero, List.getElem?_cons_succ, decide_true, decide_false, if_true, if_false, Bool.true_eq_false, Bool.false_eq_true, Bool.not_true, Bool.not_false, Int.lt_irrefl]
    · have : ws = [] := List.length_eq_zero_iff.mp (by omega)
      subst this
      exact ⟨e, by simpa using h3⟩
  | succ cnt ih =>
    intro i o H zs bad acc hc hi ha hL hN hle hR hz hok
    cases bad with
    | true => exact ⟨o, H, zs, true, acc, stop107 hR, hR, KR.refl _ _ _, by rw [ha]; exact hL, hN, by omega, hok, Nat.le_refl _, fun e => by simp at e, fun e => by simp at e⟩
    | false =>
      obtain ⟨y, H1, zs1, bad1, out, e1, hR1, hK1, hT1, d, hd, hlv, hout⟩ := hcl H zs false hR hz
      obtain ⟨x, h1, h2, h3⟩ := hR
      have hrlt := getElem?_lt h1
      obtain ⟨H2, e2, hl2, hk2⟩ := one_lit hlv (hE d)
      have hL1 : Lst 5 o H1 i (acc.flatMap enc) := Lst.kr (N := N) hL hK1.2 h1
      have hR2 : Rd r M lo H2 zs1 bad1 := hR1.kn (K := H.length) ⟨by omega, hk2⟩ hrlt (by omega)
      have hL2 : Lst 5 o H2 i (acc.flatMap enc) := by
        obtain ⟨hl, ⟨nl, rfl, h1'⟩ | ⟨id, g, rfl, ho⟩⟩ := hL1
        · exact ⟨hl, .inl ⟨nl, rfl, h1'⟩⟩
        · exact ⟨hl, .inr ⟨id, g, rfl, by rw [hk2 id (lst_row_lt hL _ _ _ _ rfl)]; exact ho⟩⟩
      have hlen1 := hK1.1
      obtain ⟨o', H3, e3, hL3, hN3, hk3, hb3⟩ := app_new (bytes := 56) (y := .p (.sl (some false) true 1 (enc d))) (k := 1) (new := enc d) hL2 hN (by omega) (by simp [cellsA, hE]) (by simp [hE]) (by omega) (by simp only [room]; omega)
      have hR3 : Rd r M lo H3 zs1 bad1 := hR2.kn (K := N) hk3 hrN hMN
      obtain ⟨o4, H4, zs4, bad4, acc4, e4, hR4, hK4, hL4, hN4, hle4, hok4, hz4, hs4, hc4⟩ := ih (i + 1) o' H3 zs1 bad1 (acc ++ [d]) (by omega) (by omega) (by simp [ha]) (by simpa using hL3) hN3 (by have := hk3.1; omega) hR3 (by have := hT1.len; omega) (fun x hx => by
        rcases List.mem_append.mp hx with h | h
        · exact hok x h
        · rw [List.mem_singleton.mp h]; exact hd)
      refine ⟨o4, H4, zs4, bad4, acc4, ?_, hR4, ⟨by have := hk3.1; have := hK4.1; omega, fun j hj hjr => by rw [hK4.2 j hj hjr, hk3.2 j hj, hk2 j (by omega), hK1.2 j (by omega) hjr]⟩, hL4, hN4, hle4, hok4, by have := hT1.len; omega, fun e => ?_, fun e ws t g1 g2 g3 => ?_⟩
      · have hnc : nilCheckA (.ptr r 0) = some (.ptr r 0) := rfl
        have hi' : (i : Int) < n := by omega
        rw [L107_14_eq]
        simp only [hi', obs, oms, bin_add, bin_sub, bin_lss, bin_leq, bin_gtr, bin_geq, bin_eql, bin_neq, bin_eqlB, bin_neqB, un_not, cond_B, gd_B, gd_undef, gdH_B, gdH_undef, pickA_B, extractA_tup, lenA_sl, lenA_row, fldA_fp, fldA_ptr, fldA_rptr, List.getElem?_cons_zero, List.getElem?_cons_succ, decide_true, decide_false, if_true, if_false, Bool.true_eq_false, Bool.false_eq_true, Bool.not_true, Bool.not_false, hnc, ldR1 h1, e1, e2, e3]
        rw [wrap_id (by omega), nxt, e4]
      · obtain ⟨s1, s2, s3⟩ := hs4 e
        obtain ⟨s4, s5⟩ := hT1.snd s1
        refine ⟨rfl, s2, ?_⟩
        rw [← s3, s5, hout]
        simp
      · cases ws with
        | nil => simp at g1; omega
        | cons w ws =>
          obtain ⟨s1, s2⟩ := hT1.cmp rfl w (ws.flatten ++ t) (g2 w (List.mem_cons_self ..)) (by rw [g3]; simp)
          exact hc4 s1 ws t (by simp at g1; omega) (fun v hv => g2 v (List.mem_cons_of_mem _ hv)) s2

theorem ent107 (hE : ∀ p, (enc p).length = 5) (hF : ∀ w, FE w → w ≠ []) (hcl : ∀ lo', RS r M lo' (fun H => callV cfg O cl [] lo' H) FE (postO enc fe ok)) : ∀ H zs bad, Rd r M lo H zs bad → zs.length ≤ RLIM →
    ∃ o H' zs' bad' out, O.ent 107 [.ptr r 0, cl] lo H = leave 1 lo [o] H' ∧ Rd r M lo H' zs' bad' ∧ KR r H.length H H' ∧ Tr zs bad zs' bad' out (FS FE) ∧ postS 5 enc fe ok o H' H.length out := by
  intro H zs bad hR hz
  have hR0 : Rd r M lo H zs bad := by first | exact hR | exact hR.up
  have hMl := hR.le
  have hrl0 := hR.lt
  obtain ⟨y, H1, zs1, bad1, out1, e1, hR1, hK1, hT1, n, rfl, rfl⟩ := call113 (lo := lo) H zs bad hR0 hz
  have hlen := hK1.1
  have hz1 := hT1.len
  obtain ⟨x, h1, h2, h3⟩ := hR1
  have hnc : nilCheckA (.ptr r 0) = some (.ptr r 0) := rfl
  by_cases hbad : n < 0 ∨ (zs1.length : Int) < n
  · obtain ⟨k1, k2⟩ := Rd.flag (zs' := zs1) h1 h2 h3 true h2 h3.1
    refine ⟨.p nilS, H1.set r (.box [x, B true]), zs1, true, [0], ?_, k1, hK1.trans k2 hlen, ⟨fun e => by simp at e, fun e w t hw hzz => ?_, hz1⟩, [], Lst.nil _ _, (fun _ _ _ _ e => by cases e), (fun _ _ _ _ e => by cases e), by simp, by simp, rfl⟩
    · have hs := stop107 (cl := cl) (n := n) (i := 0) (o := .p nilS) k1
      rw [f107_eq]
      simp only [e1, obs]
      by_cases hn0 : n < 0
      · simp only [hn0, obs, oms, bin_add, bin_sub, bin_lss, bin_leq, bin_gtr, bin_geq, bin_eql, bin_neq, bin_eqlB, bin_neqB, un_not, cond_B, gd_B, gd_undef, gdH_B, gdH_undef, pickA_B, extractA_tup, lenA_sl, lenA_row, fldA_fp, fldA_ptr, fldA_rptr, List.getElem?_cons_zero, List.getElem?_cons_succ, decide_true, decide_false, if_true, if_false, Bool.true_eq_false, Bool.false_eq_true, Bool.not_true, Bool.not_false, hnc, stR1 h1]
        rw [L107_11_eq]
        exact hs
      · have hn1 : (zs1.length : Int) < n := by omega
        simp only [hn0, hn1, obs, oms, bin_add, bin_sub, bin_lss, bin_leq, bin_gtr, bin_geq, bin_eql, bin_neq, bin_eqlB, bin_neqB, un_not, cond_B, gd_B, gd_undef, gdH_B, gdH_undef, pickA_B, extractA_tup, lenA_sl, lenA_row, fldA_fp, fldA_ptr, fldA_rptr, List.getElem?_cons_zero, List.getElem?_cons_succ, decide_true, decide_false, if_true, if_false, Bool.true_eq_false, Bool.false_eq_true, Bool.not_true, Bool.not_false, hnc, ldR0 h1, h2.len, stR1 h1]
        rw [L107_11_eq]
        exact hs
    · obtain ⟨ws, rfl, hws⟩ := hw
      obtain ⟨s1, s2⟩ := hT1.cmp e [(ws.length : Int)] (ws.flatten ++ t) ⟨_, rfl⟩ (by rw [hzz]; simp)
      obtain ⟨_, s3⟩ := hT1.snd s1
      rw [hzz] at s3
      simp only [List.cons_append, List.nil_append, List.cons.injEq] at s3
      have := flat_len hF ws hws
      have hl : zs1.length = ws.flatten.length + t.length := by rw [s2, List.length_append]
      omega
  · obtain ⟨k, rfl⟩ : ∃ k : Nat, n = k := ⟨n.toNat, by omega⟩
    obtain ⟨o', H', zs', bad', acc', e2, hR2, hK2, hL2, hN2, hle2, hok2, hz2, hs2, hc2⟩ := loop107 (lo := lo) (N := H.length) (n := k) hE (hcl _) (by omega) hMl hrl0 k 0 (.p nilS) H1 zs1 bad1 [] rfl (by omega) rfl (Lst.nil _ _) (fun _ _ _ _ e => by cases e) (by omega) ⟨x, h1, h2, h3⟩ (by omega) (by simp)
    refine ⟨o', H', zs', bad', (acc'.length : Int) :: acc'.flatMap fe, ?_, hR2, hK1.trans hK2 (Nat.le_refl _), ⟨fun e => ?_, fun e w t hw hzz => ?_, by omega⟩, acc', hL2, hN2, lst_row_lt hL2, by omega, hok2, rfl⟩
    · rw [f107_eq]
      have hn0 : ¬ (k : Int) < 0 := by omega
      have hn1 : ¬ (zs1.length : Int) < k := by omega
      simp only [e1, hn0, hn1, obs, oms, bin_add, bin_sub, bin_lss, bin_leq, bin_gtr, bin_geq, bin_eql, bin_neq, bin_eqlB, bin_neqB, un_not, cond_B, gd_B, gd_undef, gdH_B, gdH_undef, pickA_B, extractA_tup, lenA_sl, lenA_row, fldA_fp, fldA_ptr, fldA_rptr, List.getElem?_cons_zero, List.getElem?_cons_succ, decide_true, decide_false, if_true, if_false, Bool.true_eq_false, Bool.false_eq_true, Bool.not_true, Bool.not_false, hnc, ldR0 h1, h2.len]
      rw [L107_11_eq]
      exact e2
    · obtain ⟨s1, s2, s3⟩ := hs2 e
      obtain ⟨s4, s5⟩ := hT1.snd s1
      refine ⟨s4, ?_⟩
      rw [s5, s2]
      simp only [List.flatMap_nil, List.nil_append] at s3
      rw [s3]
      simp
    · obtain ⟨ws, rfl, hws⟩ := hw
      obtain ⟨s1, s2⟩ := hT1.cmp e [(ws.length : Int)] (ws.flatten ++ t) ⟨_, rfl⟩ (by rw [hzz]; simp)
      obtain ⟨_, s3⟩ := hT1.snd s1
      rw [hzz] at s3
      simp only [List.cons_append, List.nil_append, List.cons.injEq] at s3
      exact hc2 s1 ws t (by omega) hws s2

theorem call107 (hE : ∀ p, (enc p).length = 5) (hF : ∀ w, FE w → w ≠ []) (hcl : ∀ lo', RS r M lo' (fun H => callV cfg O cl [] lo' H) FE (postO enc fe ok)) : RS r M lo (fun H => callA cfg O 107 [.ptr r 0, cl] lo H) (FS FE) (postS 5 enc fe ok) := by
  intro H zs bad hR hz
  obtain ⟨o, H', zs', bad', out, e, rest⟩ := ent107 hE hF hcl H zs bad hR hz
  exact ⟨o, H', zs', bad', out, callA_keep (rs := [o]) rfl e, rest⟩

/-! ### some 109 -/
theorem stop109 {n : Int} {i : Nat} {o : AV} {H : Heap} {zs : List Int} (h : Rd r M lo H zs true) : L109_14 [.ptr r 0, cl, I n, o, I i] lo H = leave 1 lo [o] H := by
  obtain ⟨x, h1, h2, h3⟩ := h
  have hn : nilCheckA (.ptr r 0) = some (.ptr r 0) := rfl
  rw [L109_14_eq]
  by_cases hi : (i : Int) < n
  · simp only [hi, obs, oms, bin_add, bin_sub, bin_lss, bin_leq, bin_gtr, bin_geq, bin_eql, bin_neq, bin_eqlB, bin_neqB, un_not, cond_B, gd_B, gd_undef, gdH_B, gdH_undef, pickA_B, extractA_tup, lenA_sl, lenA_row, fldA_fp, fldA_ptr, fldA_rptr, List.getElem?_cons_zero, List.getElem?_cons_succ, decide_true, decide_false, if_true, if_false, Bool.true_eq_false, Bool.false_eq_true, Bool.not_true, Bool.not_false, hn, ldR1 h1]
  · simp only [hi, obs, oms, bin_add, bin_sub, bin_lss, bin_leq, bin_gtr, bin_geq, bin_eql, bin_neq, bin_eqlB, bin_neqB, un_not, cond_B, gd_B, gd_undef, gdH_B, gdH_undef, pickA_B, extractA_tup, lenA_sl, lenA_row, fldA_fp, fldA_ptr, fldA_rptr, List.getElem?_cons_zero, List.getElem?_cons_succ, decide_true, decide_false, if_true, if_false, Bool.true_eq_false, Bool.false_eq_true, Bool.not_true, Bool.not_false]

theorem loop109 (hE : ∀ p, (enc p).length = 3) (hcl : RS r M lo (fun H => callV cfg O cl [] lo H) FE (postO enc fe ok)) {N n : Nat} (hn : n ≤ RLIM) (hMN : M ≤ N) (hrN : r < N) : ∀ (cnt i : Nat) (o : AV) (H : Heap) (zs : List Int) (bad : Bool) (acc : List α), n - i = cnt → i ≤ n → acc.length = i → Lst 3 o H i (acc.flatMap enc) → New N o → N ≤ H.length → Rd r M lo H zs bad → zs.length ≤ RLIM → (∀ x ∈ acc, ok x) →
    ∃ o' H' zs' bad', ∃ acc' : List α, L109_14 [.ptr r 0, cl, I n, o, I i] lo H = leave 1 lo [o'] H' ∧ Rd r M lo H' zs' bad' ∧ KR r N H H' ∧ Lst 3 o' H' acc'.length (acc'.flatMap enc) ∧ New N o' ∧ acc'.length ≤ n ∧ (∀ x ∈ acc', ok x) ∧ zs'.length ≤ zs.length ∧
      (bad' = false → bad = false ∧ acc'.length = n ∧ acc.flatMap fe ++ zs = acc'.flatMap fe ++ zs') ∧
      (bad = false → ∀ (ws : List (List Int)) t, ws.length = n - i → (∀ w ∈ ws, FE w) → zs = ws.flatten ++ t → bad' = false ∧ zs' = t) := by
  have hrl : RLIM = 16777216 := rfl
  intro cnt
  induction cnt with
  | zero =>
    intro i o H zs bad acc hc hi ha hL hN hle hR hz hok
    have : i = n := by omega
    subst this
    refine ⟨o, H, zs, bad, acc, ?_, hR, KR.refl _ _ _, by rw [ha]; exact hL, hN, by omega, hok, Nat.le_refl _, fun e => ⟨e, ha, rfl⟩, fun e ws t h1 h2 h3 => ?_⟩
    · rw [L109_14_eq]
      simp only [obs, oms, bin_add, bin_sub, bin_lss, bin_leq, bin_gtr, bin_geq, bin_eql, bin_neq, bin_eqlB, bin_neqB, un_not, cond_B, gd_B, gd_undef, gdH_B, gdH_undef, pickA_B, extractA_tup, lenA_sl, lenA_row, fldA_fp, fldA_ptr, fldA_rptr, List.getElem?_cons_zero, List.getElem?_cons_succ, decide_true, decide_false, if_true, if_false, Bool.true_eq_false, Bool.false_eq_true, Bool.not_true, Bool.not_false, Int.lt_irrefl]
    · have : ws = [] := List.length_eq_zero_iff.mp (by omega)
      subst this
      exact ⟨e, by simpa using h3⟩
  | succ cnt ih =>
    intro i o H zs bad acc hc hi ha hL hN hle hR hz hok
    cases bad with
    | true => exact ⟨o, H, zs, true, acc, stop109 hR, hR, KR.refl _ _ _, by rw [ha]; exact hL, hN, by omega, hok, Nat.le_refl _, fun e => by simp at e, fun e => by simp at e⟩
    | false =>
      obtain ⟨y, H1, zs1, bad1, out, e1, hR1, hK1, hT1, d, hd, hlv, hout⟩ := hcl H zs false hR hz
      obtain ⟨x, h1, h2, h3⟩ := hR
      have hrlt := getElem?_lt h1
      obtain ⟨H2, e2, hl2, hk2⟩ := one_lit hlv (hE d)
      have hL1 : Lst 3 o H1 i (acc.flatMap enc) := Lst.kr (N := N) hL hK1.2 h1
      have hR2 : Rd r M lo H2 zs1 bad1 := hR1.kn (K := H.length) ⟨by omega, hk2⟩ hrlt (by omega)
      have hL2 : Lst 3 o H2 i (acc.flatMap enc) := by
        obtain ⟨hl, ⟨nl, rfl, h1'⟩ | ⟨id, g, rfl, ho⟩⟩ := hL1
        · exact ⟨hl, .inl ⟨nl, rfl, h1'⟩⟩
        · exact ⟨hl, .inr ⟨id, g, rfl, by rw [hk2 id (lst_row_lt hL _ _ _ _ rfl)]; exact ho⟩⟩
      have hlen1 := hK1.1
      obtain ⟨o', H3, e3, hL3, hN3, hk3, hb3⟩ := app_new (bytes := 24) (y := .p (.sl (some false) true 1 (enc d))) (k := 1) (new := enc d) hL2 hN (by omega) (by simp [cellsA, hE]) (by simp [hE]) (by omega) (by simp only [room]; omega)
      have hR3 : Rd r M lo H3 zs1 bad1 := hR2.kn (K := N) hk3 hrN hMN
      obtain ⟨o4, H4, zs4, bad4, acc4, e4, hR4, hK4, hL4, hN4, hle4, hok4, hz4, hs4, hc4⟩ := ih (i + 1) o' H3 zs1 bad1 (acc ++ [d]) (by omega) (by omega) (by simp [ha]) (by simpa using hL3) hN3 (by have := hk3.1; omega) hR3 (by have := hT1.len; omega) (fun x hx => by
        rcases List.mem_append.mp hx with h | h
        · exact hok x h
        · rw [List.mem_singleton.mp h]; exact hd)
      refine ⟨o4, H4, zs4, bad4, acc4, ?_, hR4, ⟨by have := hk3.1; have := hK4.1; omega, fun j hj hjr => by rw [hK4.2 j hj hjr, hk3.2 j hj, hk2 j (by omega), hK1.2 j (by omega) hjr]⟩, hL4, hN4, hle4, hok4, by have := hT1.len; omega, fun e => ?_, fun e ws t g1 g2 g3 => ?_⟩
      · have hnc : nilCheckA (.ptr r 0) = some (.ptr r 0) := rfl
        have hi' : (i : Int) < n := by omega
        rw [L109_14_eq]
        simp only [hi', obs, oms, bin_add, bin_sub, bin_lss, bin_leq, bin_gtr, bin_geq, bin_eql, bin_neq, bin_eqlB, bin_neqB, un_not, cond_B, gd_B, gd_undef, gdH_B, gdH_undef, pickA_B, extractA_tup, lenA_sl, lenA_row, fldA_fp, fldA_ptr, fldA_rptr, List.getElem?_cons_zero, List.getElem?_cons_succ, decide_true, decide_false, if_true, if_false, Bool.true_eq_false, Bool.false_eq_true, Bool.not_true, Bool.not_false, hnc, ldR1 h1, e1, e2, e3]
        rw [wrap_id (by omega), nxt, e4]
      · obtain ⟨s1, s2, s3⟩ := hs4 e
        obtain ⟨s4, s5⟩ := hT1.snd s1
        refine ⟨rfl, s2, ?_⟩
        rw [← s3, s5, hout]
        simp
      · cases ws with
        | nil => simp at g1; omega
        | cons w ws =>
          obtain ⟨s1, s2⟩ := hT1.cmp rfl w (ws.flatten ++ t) (g2 w (List.mem_cons_self ..)) (by rw [g3]; simp)
          exact hc4 s1 ws t (by simp at g1; omega) (fun v hv => g2 v (List.mem_cons_of_mem _ hv)) s2

theorem ent109 (hE : ∀ p, (enc p).length = 3) (hF : ∀ w, FE w → w ≠ []) (hcl : ∀ lo', RS r M lo' (fun H => callV cfg O cl [] lo' H) FE (postO enc fe ok)) : ∀ H zs bad, Rd r M lo H zs bad → zs.length ≤ RLIM →
    ∃ o H' zs' bad' out, O.ent 109 [.ptr r 0, cl] lo H = leave 1 lo [o] H' ∧ Rd r M lo H' zs' bad' ∧ KR r H.length H H' ∧ Tr zs bad zs' bad' out (FS FE) ∧ postS 3 enc fe ok o H' H.length out := by
  intro H zs bad hR hz
  have hR0 : Rd r M lo H zs bad := by first | exact hR | exact hR.up
  have hMl := hR.le
  have hrl0 := hR.lt
  obtain ⟨y, H1, zs1, bad1, out1, e1, hR1, hK1, hT1, n, rfl, rfl⟩ := call113 (lo := lo) H zs bad hR0 hz
  have hlen := hK1.1
  have hz1 := hT1.len
  obtain ⟨x, h1, h2, h3⟩ := hR1
  have hnc : nilCheckA (.ptr r 0) = some (.ptr r 0) := rfl
  by_cases hbad : n < 0 ∨ (zs1.length : Int) < n
  · obtain ⟨k1, k2⟩ := Rd.flag (zs' := zs1) h1 h2 h3 true h2 h3.1
    refine ⟨.p nilS, H1.set r (.box [x, B true]), zs1, true, [0], ?_, k1, hK1.trans k2 hlen, ⟨fun e => by simp at e, fun e w t hw hzz => ?_, hz1⟩, [], Lst.nil _ _, (fun _ _ _ _ e => by cases e), (fun _ _ _ _ e => by cases e), by simp, by simp, rfl⟩
    · have hs := stop109 (cl := cl) (n := n) (i := 0) (o := .p nilS) k1
      rw [f109_eq]
      simp only [e1, obs]
      by_cases hn0 : n < 0
      · simp only [hn0, obs, oms, bin_add, bin_sub, bin_lss, bin_leq, bin_gtr, bin_geq, bin_eql, bin_neq, bin_eqlB, bin_neqB, un_not, cond_B, gd_B, gd_undef, gdH_B, gdH_undef, pickA_B, extractA_tup, lenA_sl, lenA_row, fldA_fp, fldA_ptr, fldA_rptr, List.getElem?_cons_zero, List.getElem?_cons_succ, decide_true, decide_false, if_true, if_false, Bool.true_eq_false, Bool.false_eq_true, Bool.not_true, Bool.not_false, hnc, stR1 h1]
        rw [L109_11_eq]
        exact hs
      · have hn1 : (zs1.length : Int) < n := by omega
        simp only [hn0, hn1, obs, oms, bin_add, bin_sub, bin_lss, bin_leq, bin_gtr, bin_geq, bin_eql, bin_neq, bin_eqlB, bin_neqB, un_not, cond_B, gd_B, gd_undef, gdH_B, gdH_undef, pickA_B, extractA_tup, lenA_sl, lenA_row, fldA_fp, fldA_ptr, fldA_rptr, List.getElem?_cons_zero, List.getElem?_cons_succ, decide_true, decide_false, if_true, if_false, Bool.true_eq_false, Bool.false_eq_true, Bool.not_true, Bool.not_false, hnc, ldR0 h1, h2.len, stR1 h1]
        rw [L109_11_eq]
        exact hs
    · obtain ⟨ws, rfl, hws⟩ := hw
      obtain ⟨s1, s2⟩ := hT1.cmp e [(ws.length : Int)] (ws.flatten ++ t) ⟨_, rfl⟩ (by rw [hzz]; simp)
      obtain ⟨_, s3⟩ := hT1.snd s1
      rw [hzz] at s3
      simp only [List.cons_append, List.nil_append, List.cons.injEq] at s3
      have := flat_len hF ws hws
      have hl : zs1.length = ws.flatten.length + t.length := by rw [s2, List.length_append]
      omega
  · obtain ⟨k, rfl⟩ : ∃ k : Nat, n = k := ⟨n.toNat, by omega⟩
    obtain ⟨o', H', zs', bad', acc', e2, hR2, hK2, hL2, hN2, hle2, hok2, hz2, hs2, hc2⟩ := loop109 (lo := lo) (N := H.length) (n := k) hE (hcl _) (by omega) hMl hrl0 k 0 (.p nilS) H1 zs1 bad1 [] rfl (by omega) rfl (Lst.nil _ _) (fun _ _ _ _ e => by cases e) (by omega) ⟨x, h1, h2, h3⟩ (by omega) (by simp)
    refine ⟨o', H', zs', bad', (acc'.length : Int) :: acc'.flatMap fe, ?_, hR2, hK1.trans hK2 (Nat.le_refl _), ⟨fun e => ?_, fun e w t hw hzz => ?_, by omega⟩, acc', hL2, hN2, lst_row_lt hL2, by omega, hok2, rfl⟩
    · rw [f109_eq]
      have hn0 : ¬ (k : Int) < 0 := by omega
      have hn1 : ¬ (zs1.length : Int) < k := by omega
      simp only [e1, hn0, hn1, obs, oms, bin_add, bin_sub, bin_lss, bin_leq, bin_gtr, bin_geq, bin_eql, bin_neq, bin_eqlB, bin_neqB, un_not, cond_B, gd_B, gd_undef, gdH_B, gdH_undef, pickA_B, extractA_tup, lenA_sl, lenA_row, fldA_fp, fldA_ptr, fldA_rptr, List.getElem?_cons_zero, List.getElem?_cons_succ, decide_true, decide_false, if_true, if_false, Bool.true_eq_false, Bool.false_eq_true, Bool.not_true, Bool.not_false, hnc, ldR0 h1, h2.len]
      rw [L109_11_eq]
      exact e2
    · obtain ⟨s1, s2, s3⟩ := hs2 e
      obtain ⟨s4, s5⟩ := hT1.snd s1
      refine ⟨s4, ?_⟩
      rw [s5, s2]
      simp only [List.flatMap_nil, List.nil_append] at s3
      rw [s3]
      simp
    · obtain ⟨ws, rfl, hws⟩ := hw
      obtain ⟨s1, s2⟩ := hT1.cmp e [(ws.length : Int)] (ws.flatten ++ t) ⟨_, rfl⟩ (by rw [hzz]; simp)
      obtain ⟨_, s3⟩ := hT1.snd s1
      rw [hzz] at s3
      simp only [List.cons_append, List.nil_append, List.cons.injEq] at s3
      exact hc2 s1 ws t (by omega) hws s2

theorem call109 (hE : ∀ p, (enc p).length = 3) (hF : ∀ w, FE w → w ≠ []) (hcl : ∀ lo', RS r M lo' (fun H => callV cfg O cl [] lo' H) FE (postO enc fe ok)) : RS r M lo (fun H => callA cfg O 109 [.ptr r 0, cl] lo H) (FS FE) (postS 3 enc fe ok) := by
  intro H zs bad hR hz
  obtain ⟨o, H', zs', bad', out, e, rest⟩ := ent109 hE hF hcl H zs bad hR hz
  exact ⟨o, H', zs', bad', out, callA_keep (rs := [o]) rfl e, rest⟩

/-! ### some 111 -/
theorem stop111 {n : Int} {i : Nat} {o : AV} {H : Heap} {zs : List Int} (h : Rd r M lo H zs true) : L111_14 [.ptr r 0, cl, I n, o, I i] lo H = leave 1 lo [o] H := by
  obtain ⟨x, h1, h2, h3⟩ := h
  have hn : nilCheckA (.ptr r 0) = some (.ptr r 0) := rfl
  rw [L111_14_eq]
  by_cases hi : (i : Int) < n
  · simp only [hi, obs, oms, bin_add, bin_sub, bin_lss, bin_leq, bin_gtr, bin_geq, bin_eql, bin_neq, bin_eqlB, bin_neqB, un_not, cond_B, gd_B, gd_undef, gdH_B, gdH_undef, pickA_B, extractA_tup, lenA_sl, lenA_row, fldA_fp, fldA_ptr, fldA_rptr, List.getElem?_cons_zero, List.getElem?_cons_succ, decide_true, decide_false, if_true, if_false, Bool.true_eq_false, Bool.false_eq_true, Bool.not_true, Bool.not_false, hn, ldR1 h1]
  · simp only [hi, obs, oms, bin_add, bin_sub, bin_lss, bin_leq, bin_gtr, bin_geq, bin_eql, bin_neq, bin_eqlB, bin_neqB, un_not, cond_B, gd_B, gd_undef, gdH_B, gdH_undef, pickA_B, extractA_tup, lenA_sl, lenA_row, fldA_fp, fldA_ptr, fldA_rptr, List.getElem?_cons_zero, List.getElem?_cons_succ, decide_true, decide_false, if_true, if_false, Bool.true_eq_false, Bool.false_eq_true, Bool.not_true, Bool.not_false]

theorem loop111 (hE : ∀ p, (enc p).length = 2) (hcl : RS r M lo (fun H => callV cfg O cl [] lo H) FE (postO enc fe ok)) {N n : Nat} (hn : n ≤ RLIM) (hMN : M ≤ N) (hrN : r < N) : ∀ (cnt i : Nat) (o : AV) (H : Heap) (zs : List Int) (bad : Bool) (acc : List α), n - i = cnt → i ≤ n → acc.length = i → Lst 2 o H i (acc.flatMap enc) → New N o → N ≤ H.length → Rd r M lo H zs bad → zs.length ≤ RLIM → (∀ x ∈ acc, ok x) →
    ∃ o' H' zs' bad', ∃ acc' : List α, L111_14 [.ptr r 0, cl, I n, o, I i] lo H = leave 1 lo [o'] H' ∧ Rd r M lo H' zs' bad' ∧ KR r N H H' ∧ Lst 2 o' H' acc'.length (acc'.flatMap enc) ∧ New N o' ∧ acc'.length ≤ n ∧ (∀ x ∈ acc', ok x) ∧ zs'.length ≤ zs.length ∧
      (bad' = false → bad = false ∧ acc'.length = n ∧ acc.flatMap fe ++ zs = acc'.flatMap fe ++ zs') ∧
      (bad = false → ∀ (ws : List (List Int)) t, ws.length = n - i → (∀ w ∈ ws, FE w) → zs = ws.flatten ++ t → bad' = false ∧ zs' = t) := by
  have hrl : RLIM = 16777216 := rfl
  intro cnt
  induction cnt with
  | zero =>
    intro i o H zs bad acc hc hi ha hL hN hle hR hz hok
    have : i = n := by omega
    subst this
    refine ⟨o, H, zs, bad, acc, ?_, hR, KR.refl _ _ _, by rw [ha]; exact hL, hN, by omega, hok, Nat.le_refl _, fun e => ⟨e, ha, rfl⟩, fun e ws t h1 h2 h3 => ?_⟩
    · rw [L111_14_eq]
      simp only [obs, oms, bin_add, bin_sub, bin_lss, bin_leq, bin_gtr, bin_geq, bin_eql, bin_neq, bin_eqlB, bin_neqB, un_not, cond_B, gd_B, gd_undef, gdH_B, gdH_undef, pickA_B, extractA_tup, lenA_sl, lenA_row, fldA_fp, fldA_ptr, fldA_rptr, List.getElem?_cons_zero, List.getElem?_cons_succ, decide_true, decide_false, if_true, if_false, Bool.true_eq_false, Bool.false_eq_true, Bool.not_true, Bool.not_false, Int.lt_irrefl]
    · have : ws = [] := List.length_eq_zero_iff.mp (by omega)
      subst this
      exact ⟨e, by simpa using h3⟩
  | succ cnt ih =>
    intro i o H zs bad acc hc hi ha hL hN hle hR hz hok
    cases bad with
    | true => exact ⟨o, H, zs, true, acc, stop111 hR, hR, KR.refl _ _ _, by rw [ha]; exact hL, hN, by omega, hok, Nat.le_refl _, fun e => by simp at e, fun e => by simp at e⟩
    | false =>
      obtain ⟨y, H1, zs1, bad1, out, e1, hR1, hK1, hT1, d, hd, hlv, hout⟩ := hcl H zs false hR hz
      obtain ⟨x, h1, h2, h3⟩ := hR
      have hrlt := getElem?_lt h1
      obtain ⟨H2, e2, hl2, hk2⟩ := one_lit hlv (hE d)
      have hL1 : Lst 2 o H1 i (acc.flatMap enc) := Lst.kr (N := N) hL hK1.2 h1
      have hR2 : Rd r M lo H2 zs1 bad1 := hR1.kn (K := H.length) ⟨by omega, hk2⟩ hrlt (by omega)
      have hL2 : Lst 2 o H2 i (acc.flatMap enc) := by
        obtain ⟨hl, ⟨nl, rfl, h1'⟩ | ⟨id, g, rfl, ho⟩⟩ := hL1
        · exact ⟨hl, .inl ⟨nl, rfl, h1'⟩⟩
        · exact ⟨hl, .inr ⟨id, g, rfl, by rw [hk2 id (lst_row_lt hL _ _ _ _ rfl)]; exact ho⟩⟩
      have hlen1 := hK1.1
      obtain ⟨o', H3, e3, hL3, hN3, hk3, hb3⟩ := app_new (bytes := 16) (y := .p (.sl (some false) true 1 (enc d))) (k := 1) (new := enc d) hL2 hN (by omega) (by simp [cellsA, hE]) (by simp [hE]) (by omega) (by simp only [room]; omega)
      have hR3 : Rd r M lo H3 zs1 bad1 := hR2.kn (K := N) hk3 hrN hMN
      obtain ⟨o4, H4, zs4, bad4, acc4, e4, hR4, hK4, hL4, hN4, hle4, hok4, hz4, hs4, hc4⟩ := ih (i + 1) o' H3 zs1 bad1 (acc ++ [d]) (by omega) (by omega) (by simp [ha]) (by simpa using hL3) hN3 (by have := hk3.1; omega) hR3 (by have := hT1.len; omega) (fun x hx => by
        rcases List.mem_append.mp hx with h | h
        · exact hok x h
        · rw [List.mem_singleton.mp h]; exact hd)
      refine ⟨o4, H4, zs4, bad4, acc4, ?_, hR4, ⟨by have := hk3.1; have := hK4.1; omega, fun j hj hjr => by rw [hK4.2 j hj hjr, hk3.2 j hj, hk2 j (by omega), hK1.2 j (by omega) hjr]⟩, hL4, hN4, hle4, hok4, by have := hT1.len; omega, fun e => ?_, fun e ws t g1 g2 g3 => ?_⟩
      · have hnc : nilCheckA (.ptr r 0) = some (.ptr r 0) := rfl
        have hi' : (i : Int) < n := by omega
        rw [L111_14_eq]
        simp only [hi', obs, oms, bin_add, bin_sub, bin_lss, bin_leq, bin_gtr, bin_geq, bin_eql, bin_neq, bin_eqlB, bin_neqB, un_not, cond_B, gd_B, gd_undef, gdH_B, gdH_undef, pickA_B, extractA_tup, lenA_sl, lenA_row, fldA_fp, fldA_ptr, fldA_rptr, List.getElem?_cons_zero, List.getElem?_cons_succ, decide_true, decide_false, if_true, if_false, Bool.true_eq_false, Bool.false_eq_true, Bool.not_true, Bool.not_false, hnc, ldR1 h1, e1, e2, e3]
        rw [wrap_id (by omega), nxt, e4]
      · obtain ⟨s1, s2, s3⟩ := hs4 e
        obtain ⟨s4, s5⟩ := hT1.snd s1
        refine ⟨rfl, s2, ?_⟩
        rw [← s3, s5, hout]
        simp
      · cases ws with
        | nil => simp at g1; omega
        | cons w ws =>
          obtain ⟨s1, s2⟩ := hT1.cmp rfl w (ws.flatten ++ t) (g2 w (List.mem_cons_self ..)) (by rw [g3]; simp)
          exact hc4 s1 ws t (by simp at g1; omega) (fun v hv => g2 v (List.mem_cons_of_mem _ hv)) s2

theorem ent111 (hE : ∀ p, (enc p).length = 2) (hF : ∀ w, FE w → w ≠ []) (hcl : ∀ lo', RS r M lo' (fun H => callV cfg O cl [] lo' H) FE (postO enc fe ok)) : ∀ H zs bad, Rd r M lo H zs bad → zs.length ≤ RLIM →
    ∃ o H' zs' bad' out, O.ent 111 [.ptr r 0, cl] lo H = leave 1 lo [o] H' ∧ Rd r M lo H' zs' bad' ∧ KR r H.length H H' ∧ Tr zs bad zs' bad' out (FS FE) ∧ postS 2 enc fe ok o H' H.length out := by
  intro H zs bad hR hz
  have hR0 : Rd r M lo H zs bad := by first | exact hR | exact hR.up
  have hMl := hR.le
  have hrl0 := hR.lt
  obtain ⟨y, H1, zs1, bad1, out1, e1, hR1, hK1, hT1, n, rfl, rfl⟩ := call113 (lo := lo) H zs bad hR0 hz
  have hlen := hK1.1
  have hz1 := hT1.len
  obtain ⟨x, h1, h2, h3⟩ := hR1
  have hnc : nilCheckA (.ptr r 0) = some (.ptr r 0) := rfl
  by_cases hbad : n < 0 ∨ (zs1.length : Int) < n
  · obtain ⟨k1, k2⟩ := Rd.flag (zs' := zs1) h1 h2 h3 true h2 h3.1
    refine ⟨.p nilS, H1.set r (.box [x, B true]), zs1, true, [0], ?_, k1, hK1.trans k2 hlen, ⟨fun e => by simp at e, fun e w t hw hzz => ?_, hz1⟩, [], Lst.nil _ _, (fun _ _ _ _ e => by cases e), (fun _ _ _ _ e => by cases e), by simp, by simp, rfl⟩
    · have hs := stop111 (cl := cl) (n := n) (i := 0) (o := .p nilS) k1
      rw [f111_eq]
      simp only [e1, obs]
      by_cases hn0 : n < 0
      · simp only [hn0, obs, oms, bin_add, bin_sub, bin_lss, bin_leq, bin_gtr, bin_geq, bin_eql, bin_neq, bin_eqlB, bin_neqB, un_not, cond_B, gd_B, gd_undef, gdH_B, gdH_undef, pickA_B, extractA_tup, lenA_sl, lenA_row, fldA_fp, fldA_ptr, fldA_rptr, List.getElem?_cons_zero, List.getElem?_cons_succ, decide_true, decide_false, if_true, if_false, Bool.true_eq_false, Bool.false_eq_true, Bool.not_true, Bool.not_false, hnc, stR1 h1]
        rw [L111_11_eq]
        exact hs
      · have hn1 : (zs1.length : Int) < n := by omega
        simp only [hn0, hn1, obs, oms, bin_add, bin_sub, bin_lss, bin_leq, bin_gtr, bin_geq, bin_eql, bin_neq, bin_eqlB, bin_neqB, un_not, cond_B, gd_B, gd_undef, gdH_B, gdH_undef, pickA_B, extractA_tup, lenA_sl, lenA_row, fldA_fp, fldA_ptr, fldA_rptr, List.getElem?_cons_zero, List.getElem?_cons_succ, decide_true, decide_false, if_true, if_false, Bool.true_eq_false, Bool.false_eq_true, Bool.not_true, Bool.not_false, hnc, ldR0 h1, h2.len, stR1 h1]
        rw [L111_11_eq]
        exact hs
    · obtain ⟨ws, rfl, hws⟩ := hw
      obtain ⟨s1, s2⟩ := hT1.cmp e [(ws.length : Int)] (ws.flatten ++ t) ⟨_, rfl⟩ (by rw [hzz]; simp)
      obtain ⟨_, s3⟩ := hT1.snd s1
      rw [hzz] at s3
      simp only [List.cons_append, List.nil_append, List.cons.injEq] at s3
      have := flat_len hF ws hws
      have hl : zs1.length = ws.flatten.length + t.length := by rw [s2, List.length_append]
      omega
  · obtain ⟨k, rfl⟩ : ∃ k : Nat, n = k := ⟨n.toNat, by omega⟩
    obtain ⟨o', H', zs', bad', acc', e2, hR2, hK2, hL2, hN2, hle2, hok2, hz2, hs2, hc2⟩ := loop111 (lo := lo) (N := H.length) (n := k) hE (hcl _) (by omega) hMl hrl0 k 0 (.p nilS) H1 zs1 bad1 [] rfl (by omega) rfl (Lst.nil _ _) (fun _ _ _ _ e => by cases e) (by omega) ⟨x, h1, h2, h3⟩ (by omega) (by simp)
    refine ⟨o', H', zs', bad', (acc'.length : Int) :: acc'.flatMap fe, ?_, hR2, hK1.trans hK2 (Nat.le_refl _), ⟨fun e => ?_, fun e w t hw hzz => ?_, by omega⟩, acc', hL2, hN2, lst_row_lt hL2, by omega, hok2, rfl⟩
    · rw [f111_eq]
      have hn0 : ¬ (k : Int) < 0 := by omega
      have hn1 : ¬ (zs1.length : Int) < k := by omega
      simp only [e1, hn0, hn1, obs, oms, bin_add, bin_sub, bin_lss, bin_leq, bin_gtr, bin_geq, bin_eql, bin_neq, bin_eqlB, bin_neqB, un_not, cond_B, gd_B, gd_undef, gdH_B, gdH_undef, pickA_B, extractA_tup, lenA_sl, lenA_row, fldA_fp, fldA_ptr, fldA_rptr, List.getElem?_cons_zero, List.getElem?_cons_succ, decide_true, decide_false, if_true, if_false, Bool.true_eq_false, Bool.false_eq_true, Bool.not_true, Bool.not_false, hnc, ldR0 h1, h2.len]
      rw [L111_11_eq]
      exact e2
    · obtain ⟨s1, s2, s3⟩ := hs2 e
      obtain ⟨s4, s5⟩ := hT1.snd s1
      refine ⟨s4, ?_⟩
      rw [s5, s2]
      simp only [List.flatMap_nil, List.nil_append] at s3
      rw [s3]
      simp
    · obtain ⟨ws, rfl, hws⟩ := hw
      obtain ⟨s1, s2⟩ := hT1.cmp e [(ws.length : Int)] (ws.flatten ++ t) ⟨_, rfl⟩ (by rw [hzz]; simp)
      obtain ⟨_, s3⟩ := hT1.snd s1
      rw [hzz] at s3
      simp only [List.cons_append, List.nil_append, List.cons.injEq] at s3
      exact hc2 s1 ws t (by omega) hws s2

theorem call111 (hE : ∀ p, (enc p).length = 2) (hF : ∀ w, FE w → w ≠ []) (hcl : ∀ lo', RS r M lo' (fun H => callV cfg O cl [] lo' H) FE (postO enc fe ok)) : RS r M lo (fun H => callA cfg O 111 [.ptr r 0, cl] lo H) (FS FE) (postS 2 enc fe ok) := by
  intro H zs bad hR hz
  obtain ⟨o, H', zs', bad', out, e, rest⟩ := ent111 hE hF hcl H zs bad hR hz
  exact ⟨o, H', zs', bad', out, callA_keep (rs := [o]) rfl e, rest⟩

/-! ### some 140 -/
theorem stop140 {n : Int} {i : Nat} {o : AV} {H : Heap} {zs : List Int} (h : Rd r M lo H zs true) : L140_14 [.ptr r 0, cl, I n, o, I i] lo H = leave 1 lo [o] H := by
  obtain ⟨x, h1, h2, h3⟩ := h
  have hn : nilCheckA (.ptr r 0) = some (.ptr r 0) := rfl
  rw [L140_14_eq]
  by_cases hi : (i : Int) < n
  · simp only [hi, obs, oms, bin_add, bin_sub, bin_lss, bin_leq, bin_gtr, bin_geq, bin_eql, bin_neq, bin_eqlB, bin_neqB, un_not, cond_B, gd_B, gd_undef, gdH_B, gdH_undef, pickA_B, extractA_tup, lenA_sl, lenA_row, fldA_fp, fldA_ptr, fldA_rptr, List.getElem?_cons_zero, List.getElem?_cons_succ, decide_true, decide_false, if_true, if_false, Bool.true_eq_false, Bool.false_eq_true, Bool.not_true, Bool.not_false, hn, ldR1 h1]
  · simp only [hi, obs, oms, bin_add, bin_sub, bin_lss, bin_leq, bin_gtr, bin_geq, bin_eql, bin_neq, bin_eqlB, bin_neqB, un_not, cond_B, gd_B, gd_undef, gdH_B, gdH_undef, pickA_B, extractA_tup, lenA_sl, lenA_row, fldA_fp, fldA_ptr, fldA_rptr, List.getElem?_cons_zero, List.getElem?_cons_succ, decide_true, decide_false, if_true, if_false, Bool.true_eq_false, Bool.false_eq_true, Bool.not_true, Bool.not_false]

theorem loop140 (hE : ∀ p, (enc p).length = 8) (hcl : RS r M lo (fun H => callV cfg O cl [] lo H) FE (postO enc fe ok)) {N n : Nat} (hn : n ≤ RLIM) (hMN : M ≤ N) (hrN : r < N) : ∀ (cnt i : Nat) (o : AV) (H : Heap) (zs : List Int) (bad : Bool) (acc : List α), n - i = cnt → i ≤ n → acc.length = i → Lst 8 o H i (acc.flatMap enc) → New N o → N ≤ H.length → Rd r M lo H zs bad → zs.length ≤ RLIM → (∀ x ∈ acc, ok x) →
    ∃ o' H' zs' bad', ∃ acc' : List α, L140_14 [.ptr r 0, cl, I n, o, I i] lo H = leave 1 lo [o'] H' ∧ Rd r M lo H' zs' bad' ∧ KR r N H H' ∧ Lst 8 o' H' acc'.length (acc'.flatMap enc) ∧ New N o' ∧ acc'.length ≤ n ∧ (∀ x ∈ acc', ok x) ∧ zs'.length ≤ zs.length ∧
      (bad' = false → bad = false ∧ acc'.length = n ∧ acc.flatMap fe ++ zs = acc'.flatMap fe ++ zs') ∧
      (bad = false → ∀ (ws : List (List Int)) t, ws.length = n - i → (∀ w ∈ ws, FE w) → zs = ws.flatten ++ t → bad' = false ∧ zs' = t) := by
  have hrl : RLIM = 16777216 := rfl
  intro cnt
  induction cnt with
  | zero =>
    intro i o H zs bad acc hc hi ha hL hN hle hR hz hok
    have : i = n := by omega
    subst this
    refine ⟨o, H, zs, bad, acc, ?_, hR, KR.refl _ _ _, by rw [ha]; exact hL, hN, by omega, hok, Nat.le_refl _, fun e => ⟨e, ha, rfl⟩, fun e ws t h1 h2 h3 => ?_⟩
    · rw [L140_14_eq]
      simp only [obs, oms, bin_add, bin_sub, bin_lss, bin_leq, bin_gtr, bin_geq, bin_eql, bin_neq, bin_eqlB, bin_neqB, un_not, cond_B, gd_B, gd_undef, gdH_B, gdH_undef, pickA_B, extractA_tup, lenA_sl, lenA_row, fldA_fp, fldA_ptr, fldA_rptr, List.getElem?_cons_zero, List.getElem?_cons_succ, decide_true, decide_false, if_true, if_false, Bool.true_eq_false, Bool.false_eq_true, Bool.not_true, Bool.not_false, Int.lt_irrefl]
    · have : ws = [] := List.length_eq_zero_iff.mp (by omega)
      subst this
      exact ⟨e, by simpa using h3⟩
  | succ cnt ih =>
    intro i o H zs bad acc hc hi ha hL hN hle hR hz hok
    cases bad with
    | true => exact ⟨o, H, zs, true, acc, stop140 hR, hR, KR.refl _ _ _, by rw [ha]; exact hL, hN, by omega, hok, Nat.le_refl _, fun e => by simp at e, fun e => by simp at e⟩
    | false =>
      obtain ⟨y, H1, zs1, bad1, out, e1, hR1, hK1, hT1, d, hd, hlv, hout⟩ := hcl H zs false hR hz
      obtain ⟨x, h1, h2, h3⟩ := hR
      have hrlt := getElem?_lt h1
      obtain ⟨H2, e2, hl2, hk2⟩ := one_lit hlv (hE d)
      have hL1 : Lst 8 o H1 i (acc.flatMap enc) := Lst.kr (N := N) hL hK1.2 h1
      have hR2 : Rd r M lo H2 zs1 bad1 := hR1.kn (K := H.length) ⟨by omega, hk2⟩ hrlt (by omega)
      have hL2 : Lst 8 o H2 i (acc.flatMap enc) := by
        obtain ⟨hl, ⟨nl, rfl, h1'⟩ | ⟨id, g, rfl, ho⟩⟩ := hL1
        · exact ⟨hl, .inl ⟨nl, rfl, h1'⟩⟩
        · exact ⟨hl, .inr ⟨id, g, rfl, by rw [hk2 id (lst_row_lt hL _ _ _ _ rfl)]; exact ho⟩⟩
      have hlen1 := hK1.1
      obtain ⟨o', H3, e3, hL3, hN3, hk3, hb3⟩ := app_new (bytes := 96) (y := .p (.sl (some false) true 1 (enc d))) (k := 1) (new := enc d) hL2 hN (by omega) (by simp [cellsA, hE]) (by simp [hE]) (by omega) (by simp only [room]; omega)
      have hR3 : Rd r M lo H3 zs1 bad1 := hR2.kn (K := N) hk3 hrN hMN
      obtain ⟨o4, H4, zs4, bad4, acc4, e4, hR4, hK4, hL4, hN4, hle4, hok4, hz4, hs4, hc4⟩ := ih (i + 1) o' H3 zs1 bad1 (acc ++ [d]) (by omega) (by omega) (by simp [ha]) (by simpa using hL3) hN3 (by have := hk3.1; omega) hR3 (by have := hT1.len; omega) (fun x hx => by
        rcases List.mem_append.mp hx with h | h
        · exact hok x h
        · rw [List.mem_singleton.mp h]; exact hd)
      refine ⟨o4, H4, zs4, bad4, acc4, ?_, hR4, ⟨by have := hk3.1; have := hK4.1; omega, fun j hj hjr => by rw [hK4.2 j hj hjr, hk3.2 j hj, hk2 j (by omega), hK1.2 j (by omega) hjr]⟩, hL4, hN4, hle4, hok4, by have := hT1.len; omega, fun e => ?_, fun e ws t g1 g2 g3 => ?_⟩
      · have hnc : nilCheckA (.ptr r 0) = some (.ptr r 0) := rfl
        have hi' : (i : Int) < n := by omega
        rw [L140_14_eq]
        simp only [hi', obs, oms, bin_add, bin_sub, bin_lss, bin_leq, bin_gtr, bin_geq, bin_eql, bin_neq, bin_eqlB, bin_neqB, un_not, cond_B, gd_B, gd_undef, gdH_B, gdH_undef, pickA_B, extractA_tup, lenA_sl, lenA_row, fldA_fp, fldA_ptr, fldA_rptr, List.getElem?_cons_zero, List.getElem?_cons_succ, decide_true, decide_false, if_true, if_false, Bool.true_eq_false, Bool.false_eq_true, Bool.not_true, Bool.not_false, hnc, ldR1 h1, e1, e2, e3]
        rw [wrap_id (by omega), nxt, e4]
      · obtain ⟨s1, s2, s3⟩ := hs4 e
        obtain ⟨s4, s5⟩ := hT1.snd s1
        refine ⟨rfl, s2, ?_⟩
        rw [← s3, s5, hout]
        simp
      · cases ws with
        | nil => simp at g1; omega
        | cons w ws =>
          obtain ⟨s1, s2⟩ := hT1.cmp rfl w (ws.flatten ++ t) (g2 w (List.mem_cons_self ..)) (by rw [g3]; simp)
          exact hc4 s1 ws t (by simp at g1; omega) (fun v hv => g2 v (List.mem_cons_of_mem _ hv)) s2

theorem ent140 (hE : ∀ p, (enc p).length = 8) (hF : ∀ w, FE w → w ≠ []) (hcl : ∀ lo', RS r M lo' (fun H => callV cfg O cl [] lo' H) FE (postO enc fe ok)) : ∀ H zs bad, Rd r M lo H zs bad → zs.length ≤ RLIM →
    ∃ o H' zs' bad' out, O.ent 140 [.ptr r 0, cl] lo H = leave 1 lo [o] H' ∧ Rd r M lo H' zs' bad' ∧ KR r H.length H H' ∧ Tr zs bad zs' bad' out (FS FE) ∧ postS 8 enc fe ok o H' H.length out := by
  intro H zs bad hR hz
  have hR0 : Rd r M lo H zs bad := by first | exact hR | exact hR.up
  have hMl := hR.le
  have hrl0 := hR.lt
  obtain ⟨y, H1, zs1, bad1, out1, e1, hR1, hK1, hT1, n, rfl, rfl⟩ := call113 (lo := lo) H zs bad hR0 hz
  have hlen := hK1.1
  have hz1 := hT1.len
  obtain ⟨x, h1, h2, h3⟩ := hR1
  have hnc : nilCheckA (.ptr r 0) = some (.ptr r 0) := rfl
  by_cases hbad : n < 0 ∨ (zs1.length : Int) < n
  · obtain ⟨k1, k2⟩ := Rd.flag (zs' := zs1) h1 h2 h3 true h2 h3.1
    refine ⟨.p nilS, H1.set r (.box [x, B true]), zs1, true, [0], ?_, k1, hK1.trans k2 hlen, ⟨fun e => by simp at e, fun e w t hw hzz => ?_, hz1⟩, [], Lst.nil _ _, (fun _ _ _ _ e => by cases e), (fun _ _ _ _ e => by cases e), by simp, by simp, rfl⟩
    · have hs := stop140 (cl := cl) (n := n) (i := 0) (o := .p nilS) k1
      rw [f140_eq]
      simp only [e1, obs]
      by_cases hn0 : n < 0
      · simp only [hn0, obs, oms, bin_add, bin_sub, bin_lss, bin_leq, bin_gtr, bin_geq, bin_eql, bin_neq, bin_eqlB, bin_neqB, un_not, cond_B, gd_B, gd_undef, gdH_B, gdH_undef, pickA_B, extractA_tup, lenA_sl, lenA_row, fldA_fp, fldA_ptr, fldA_rptr, List.getElem?_cons_zero, List.getElem?_cons_succ, decide_true, decide_false, if_true, if_false, Bool.true_eq_false, Bool.false_eq_true, Bool.not_true, Bool.not_false, hnc, stR1 h1]
        rw [L140_11_eq]
        exact hs
      · have hn1 : (zs1.length : Int) < n := by omega
        simp only [hn0, hn1, obs, oms, bin_add, bin_sub, bin_lss, bin_leq, bin_gtr, bin_geq, bin_eql, bin_neq, bin_eqlB, bin_neqB, un_not, cond_B, gd_B, gd_undef, gdH_B, gdH_undef, pickA_B, extractA_tup, lenA_sl, lenA_row, fldA_fp, fldA_ptr, fldA_rptr, List.getElem?_cons_zero, List.getElem?_cons_succ, decide_true, decide_false, if_true, if_false, Bool.true_eq_false, Bool.false_eq_true, Bool.not_true, Bool.not_false, hnc, ldR0 h1, h2.len, stR1 h1]
        rw [L140_11_eq]
        exact hs
    · obtain ⟨ws, rfl, hws⟩ := hw
      obtain ⟨s1, s2⟩ := hT1.cmp e [(ws.length : Int)] (ws.flatten ++ t) ⟨_, rfl⟩ (by rw [hzz]; simp)
      obtain ⟨_, s3⟩ := hT1.snd s1
      rw [hzz] at s3
      simp only [List.cons_append, List.nil_append, List.cons.injEq] at s3
      have := flat_len hF ws hws
      have hl : zs1.length = ws.flatten.length + t.length := by rw [s2, List.length_append]
      omega
  · obtain ⟨k, rfl⟩ : ∃ k : Nat, n = k := ⟨n.toNat, by omega⟩
    obtain ⟨o', H', zs', bad', acc', e2, hR2, hK2, hL2, hN2, hle2, hok2, hz2, hs2, hc2⟩ := loop140 (lo := lo) (N := H.length) (n := k) hE (hcl _) (by omega) hMl hrl0 k 0 (.p nilS) H1 zs1 bad1 [] rfl (by omega) rfl (Lst.nil _ _) (fun _ _ _ _ e => by cases e) (by omega) ⟨x, h1, h2, h3⟩ (by omega) (by simp)
    refine ⟨o', H', zs', bad', (acc'.length : Int) :: acc'.flatMap fe, ?_, hR2, hK1.trans hK2 (Nat.le_refl _), ⟨fun e => ?_, fun e w t hw hzz => ?_, by omega⟩, acc', hL2, hN2, lst_row_lt hL2, by omega, hok2, rfl⟩
    · rw [f140_eq]
      have hn0 : ¬ (k : Int) < 0 := by omega
      have hn1 : ¬ (zs1.length : Int) < k := by omega
      simp only [e1, hn0, hn1, obs, oms, bin_add, bin_sub, bin_lss, bin_leq, bin_gtr, bin_geq, bin_eql, bin_neq, bin_eqlB, bin_neqB, un_not, cond_B, gd_B, gd_undef, gdH_B, gdH_undef, pickA_B, extractA_tup, lenA_sl, lenA_row, fldA_fp, fldA_ptr, fldA_rptr, List.getElem?_cons_zero, List.getElem?_cons_succ, decide_true, decide_false, if_true, if_false, Bool.true_eq_false, Bool.false_eq_true, Bool.not_true, Bool.not_false, hnc, ldR0 h1, h2.len]
      rw [L140_11_eq]
      exact e2
    · obtain ⟨s1, s2, s3⟩ := hs2 e
      obtain ⟨s4, s5⟩ := hT1.snd s1
      refine ⟨s4, ?_⟩
      rw [s5, s2]
      simp only [List.flatMap_nil, List.nil_append] at s3
      rw [s3]
      simp
    · obtain ⟨ws, rfl, hws⟩ := hw
      obtain ⟨s1, s2⟩ := hT1.cmp e [(ws.length : Int)] (ws.flatten ++ t) ⟨_, rfl⟩ (by rw [hzz]; simp)
      obtain ⟨_, s3⟩ := hT1.snd s1
      rw [hzz] at s3
      simp only [List.cons_append, List.nil_append, List.cons.injEq] at s3
      exact hc2 s1 ws t (by omega) hws s2

theorem call140 (hE : ∀ p, (enc p).length = 8) (hF : ∀ w, FE w → w ≠ []) (hcl : ∀ lo', RS r M lo' (fun H => callV cfg O cl [] lo' H) FE (postO enc fe ok)) : RS r M lo (fun H => callA cfg O 140 [.ptr r 0, cl] lo H) (FS FE) (postS 8 enc fe ok) := by
  intro H zs bad hR hz
  obtain ⟨o, H', zs', bad', out, e, rest⟩ := ent140 hE hF hcl H zs bad hR hz
  exact ⟨o, H', zs', bad', out, callA_keep (rs := [o]) rfl e, rest⟩

/-! ### some 142 -/
theorem stop142 {n : Int} {i : Nat} {o : AV} {H : Heap} {zs : List Int} (h : Rd r M lo H zs true) : L142_14 [.ptr r 0, cl, I n, o, I i] lo H = leave 2 lo [o] H := by
  obtain ⟨x, h1, h2, h3⟩ := h
  have hn : nilCheckA (.ptr r 0) = some (.ptr r 0) := rfl
  rw [L142_14_eq]
  by_cases hi : (i : Int) < n
  · simp only [hi, obs, oms, bin_add, bin_sub, bin_lss, bin_leq, bin_gtr, bin_geq, bin_eql, bin_neq, bin_eqlB, bin_neqB, un_not, cond_B, gd_B, gd_undef, gdH_B, gdH_undef, pickA_B, extractA_tup, lenA_sl, lenA_row, fldA_fp, fldA_ptr, fldA_rptr, List.getElem?_cons_zero, List.getElem?_cons_succ, decide_true, decide_false, if_true, if_false, Bool.true_eq_false, Bool.false_eq_true, Bool.not_true, Bool.not_false, hn, ldR1 h1]
  · simp only [hi, obs, oms, bin_add, bin_sub, bin_lss, bin_leq, bin_gtr, bin_geq, bin_eql, bin_neq, bin_eqlB, bin_neqB, un_not, cond_B, gd_B, gd_undef, gdH_B, gdH_undef, pickA_B, extractA_tup, lenA_sl, lenA_row, fldA_fp, fldA_ptr, fldA_rptr, List.getElem?_cons_zero, List.getElem?_cons_succ, decide_true, decide_false, if_true, if_false, Bool.true_eq_false, Bool.false_eq_true, Bool.not_true, Bool.not_false]

theorem loop142 (hE : ∀ p, (enc p).length = 1) (hcl : RS r M lo (fun H => callV cfg O cl [] lo H) FE (postO enc fe ok)) {N n : Nat} (hn : n ≤ RLIM) (hMN : M ≤ N) (hrN : r < N) : ∀ (cnt i : Nat) (o : AV) (H : Heap) (zs : List Int) (bad : Bool) (acc : List α), n - i = cnt → i ≤ n → acc.length = i → Lst 1 o H i (acc.flatMap enc) → New N o → N ≤ H.length → Rd r M lo H zs bad → zs.length ≤ RLIM → (∀ x ∈ acc, ok x) →
    ∃ o' H' zs' bad', ∃ acc' : List α, L142_14 [.ptr r 0, cl, I n, o, I i] lo H = leave 2 lo [o'] H' ∧ Rd r M lo H' zs' bad' ∧ KR r N H H' ∧ Lst 1 o' H' acc'.length (acc'.flatMap enc) ∧ New N o' ∧ acc'.length ≤ n ∧ (∀ x ∈ acc', ok x) ∧ zs'.length ≤ zs.length ∧
      (bad' = false → bad = false ∧ acc'.length = n ∧ acc.flatMap fe ++ zs = acc'.flatMap fe ++ zs') ∧
      (bad = false → ∀ (ws : List (List Int)) t, ws.length = n - i → (∀ w ∈ ws, FE w) → zs = ws.flatten ++ t → bad' = false ∧ zs' = t) := by
  have hrl : RLIM = 16777216 := rfl
  intro cnt
  induction cnt with
  | zero =>
    intro i o H zs bad acc hc hi ha hL hN hle hR hz hok
    have : i = n := by omega
    subst this
    refine ⟨o, H, zs, bad, acc, ?_, hR, KR.refl _ _ _, by rw [ha]; exact hL, hN, by omega, hok, Nat.le_refl _, fun e => ⟨e, ha, rfl⟩, fun e ws t h1 h2 h3 => ?_⟩
    · rw [L142_14_eq]
      simp only [obs, oms, bin_add, bin_sub, bin_lss, bin_leq, bin_gtr, bin_geq, bin_eql, bin_neq, bin_eqlB, bin_neqB, un_not, cond_B, gd_B, gd_undef, gdH_B, gdH_undef, pickA_B, extractA_tup, lenA_sl, lenA_row, fldA_fp, fldA_ptr, fldA_rptr, List.getElem?_cons_zero, List.getElem?_cons_succ, decide_true, decide_false, if_true, if_false, Bool.true_eq_false, Bool.false_eq_true, Bool.not_true, Bool.not_false, Int.lt_irrefl]
    · have : ws = [] := List.length_eq_zero_iff.mp (by omega)
      subst this
      exact ⟨e, by simpa using h3⟩
  | succ cnt ih =>
    intro i o H zs bad acc hc hi ha hL hN hle hR hz hok
    cases bad with
    | true => exact ⟨o, H, zs, true, acc, stop142 hR, hR, KR.refl _ _ _, by rw [ha]; exact hL, hN, by omega, hok, Nat.le_refl _, fun e => by simp at e, fun e => by simp at e⟩
    | false =>
      obtain ⟨y, H1, zs1, bad1, out, e1, hR1, hK1, hT1, d, hd, hlv, hout⟩ := hcl H zs false hR hz
      obtain ⟨x, h1, h2, h3⟩ := hR
      have hrlt := getElem?_lt h1
      obtain ⟨H2, e2, hl2, hk2⟩ := one_lit hlv (hE d)
      have hL1 : Lst 1 o H1 i (acc.flatMap enc) := Lst.kr (N := N) hL hK1.2 h1
      have hR2 : Rd r M lo H2 zs1 bad1 := hR1.kn (K := H.length) ⟨by omega, hk2⟩ hrlt (by omega)
      have hL2 : Lst 1 o H2 i (acc.flatMap enc) := by
        obtain ⟨hl, ⟨nl, rfl, h1'⟩ | ⟨id, g, rfl, ho⟩⟩ := hL1
        · exact ⟨hl, .inl ⟨nl, rfl, h1'⟩⟩
        · exact ⟨hl, .inr ⟨id, g, rfl, by rw [hk2 id (lst_row_lt hL _ _ _ _ rfl)]; exact ho⟩⟩
      have hlen1 := hK1.1
      obtain ⟨o', H3, e3, hL3, hN3, hk3, hb3⟩ := app_new (bytes := 1) (y := .p (.sl (some false) true 1 (enc d))) (k := 1) (new := enc d) hL2 hN (by omega) (by simp [cellsA, hE]) (by simp [hE]) (by omega) (by simp only [room]; omega)
      have hR3 : Rd r M lo H3 zs1 bad1 := hR2.kn (K := N) hk3 hrN hMN
      obtain ⟨o4, H4, zs4, bad4, acc4, e4, hR4, hK4, hL4, hN4, hle4, hok4, hz4, hs4, hc4⟩ := ih (i + 1) o' H3 zs1 bad1 (acc ++ [d]) (by omega) (by omega) (by simp [ha]) (by simpa using hL3) hN3 (by have := hk3.1; omega) hR3 (by have := hT1.len; omega) (fun x hx => by
        rcases List.mem_append.mp hx with h | h
        · exact hok x h
        · rw [List.mem_singleton.mp h]; exact hd)
      refine ⟨o4, H4, zs4, bad4, acc4, ?_, hR4, ⟨by have := hk3.1; have := hK4.1; omega, fun j hj hjr => by rw [hK4.2 j hj hjr, hk3.2 j hj, hk2 j (by omega), hK1.2 j (by omega) hjr]⟩, hL4, hN4, hle4, hok4, by have := hT1.len; omega, fun e => ?_, fun e ws t g1 g2 g3 => ?_⟩
      · have hnc : nilCheckA (.ptr r 0) = some (.ptr r 0) := rfl
        have hi' : (i : Int) < n := by omega
        rw [L142_14_eq]
        simp only [hi', obs, oms, bin_add, bin_sub, bin_lss, bin_leq, bin_gtr, bin_geq, bin_eql, bin_neq, bin_eqlB, bin_neqB, un_not, cond_B, gd_B, gd_undef, gdH_B, gdH_undef, pickA_B, extractA_tup, lenA_sl, lenA_row, fldA_fp, fldA_ptr, fldA_rptr, List.getElem?_cons_zero, List.getElem?_cons_succ, decide_true, decide_false, if_true, if_false, Bool.true_eq_false, Bool.false_eq_true, Bool.not_true, Bool.not_false, hnc, ldR1 h1, e1, e2, e3]
        rw [wrap_id (by omega), nxt, e4]
      · obtain ⟨s1, s2, s3⟩ := hs4 e
        obtain ⟨s4, s5⟩ := hT1.snd s1
        refine ⟨rfl, s2, ?_⟩
        rw [← s3, s5, hout]
        simp
      · cases ws with
        | nil => simp at g1; omega
        | cons w ws =>
          obtain ⟨s1, s2⟩ := hT1.cmp rfl w (ws.flatten ++ t) (g2 w (List.mem_cons_self ..)) (by rw [g3]; simp)
          exact hc4 s1 ws t (by simp at g1; omega) (fun v hv => g2 v (List.mem_cons_of_mem _ hv)) s2

theorem ent142 (hE : ∀ p, (enc p).length = 1) (hF : ∀ w, FE w → w ≠ []) (hcl : ∀ lo', RS r M lo' (fun H => callV cfg O cl [] lo' H) FE (postO enc fe ok)) : ∀ H zs bad, Rd r M lo H zs bad → zs.length ≤ RLIM →
    ∃ o H' zs' bad' out, O.ent 142 [.ptr r 0, cl] lo H = leave 2 (H.length :: lo) [o] H' ∧ Rd r M (H.length :: lo) H' zs' bad' ∧ KR r H.length H H' ∧ Tr zs bad zs' bad' out (FS FE) ∧ postS 1 enc fe ok o H' H.length out := by
  intro H zs bad hR hz
  have hR0 : Rd r M (H.length :: lo) H zs bad := by first | exact hR | exact hR.up
  have hMl := hR.le
  have hrl0 := hR.lt
  obtain ⟨y, H1, zs1, bad1, out1, e1, hR1, hK1, hT1, n, rfl, rfl⟩ := call113 (lo := (H.length :: lo)) H zs bad hR0 hz
  have hlen := hK1.1
  have hz1 := hT1.len
  obtain ⟨x, h1, h2, h3⟩ := hR1
  have hnc : nilCheckA (.ptr r 0) = some (.ptr r 0) := rfl
  by_cases hbad : n < 0 ∨ (zs1.length : Int) < n
  · obtain ⟨k1, k2⟩ := Rd.flag (zs' := zs1) h1 h2 h3 true h2 h3.1
    refine ⟨.p nilS, H1.set r (.box [x, B true]), zs1, true, [0], ?_, k1, hK1.trans k2 hlen, ⟨fun e => by simp at e, fun e w t hw hzz => ?_, hz1⟩, [], Lst.nil _ _, (fun _ _ _ _ e => by cases e), (fun _ _ _ _ e => by cases e), by simp, by simp, rfl⟩
    · have hs := stop142 (cl := cl) (n := n) (i := 0) (o := .p nilS) k1
      rw [f142_eq]
      simp only [e1, obs]
      by_cases hn0 : n < 0
      · simp only [hn0, obs, oms, bin_add, bin_sub, bin_lss, bin_leq, bin_gtr, bin_geq, bin_eql, bin_neq, bin_eqlB, bin_neqB, un_not, cond_B, gd_B, gd_undef, gdH_B, gdH_undef, pickA_B, extractA_tup, lenA_sl, lenA_row, fldA_fp, fldA_ptr, fldA_rptr, List.getElem?_cons_zero, List.getElem?_cons_succ, decide_true, decide_false, if_true, if_false, Bool.true_eq_false, Bool.false_eq_true, Bool.not_true, Bool.not_false, hnc, stR1 h1]
        rw [L142_11_eq]
        exact hs
      · have hn1 : (zs1.length : Int) < n := by omega
        simp only [hn0, hn1, obs, oms, bin_add, bin_sub, bin_lss, bin_leq, bin_gtr, bin_geq, bin_eql, bin_neq, bin_eqlB, bin_neqB, un_not, cond_B, gd_B, gd_undef, gdH_B, gdH_undef, pickA_B, extractA_tup, lenA_sl, lenA_row, fldA_fp, fldA_ptr, fldA_rptr, List.getElem?_cons_zero, List.getElem?_cons_succ, decide_true, decide_false, if_true, if_false, Bool.true_eq_false, Bool.false_eq_true, Bool.not_true, Bool.not_false, hnc, ldR0 h1, h2.len, stR1 h1]
        rw [L142_11_eq]
        exact hs
    · obtain ⟨ws, rfl, hws⟩ := hw
      obtain ⟨s1, s2⟩ := hT1.cmp e [(ws.length : Int)] (ws.flatten ++ t) ⟨_, rfl⟩ (by rw [hzz]; simp)
      obtain ⟨_, s3⟩ := hT1.snd s1
      rw [hzz] at s3
      simp only [List.cons_append, List.nil_append, List.cons.injEq] at s3
      have := flat_len hF ws hws
      have hl : zs1.length = ws.flatten.length + t.length := by rw [s2, List.length_append]
      omega
  · obtain ⟨k, rfl⟩ : ∃ k : Nat, n = k := ⟨n.toNat, by omega⟩
    obtain ⟨o', H', zs', bad', acc', e2, hR2, hK2, hL2, hN2, hle2, hok2, hz2, hs2, hc2⟩ := loop142 (lo := (H.length :: lo)) (N := H.length) (n := k) hE (hcl _) (by omega) hMl hrl0 k 0 (.p nilS) H1 zs1 bad1 [] rfl (by omega) rfl (Lst.nil _ _) (fun _ _ _ _ e => by cases e) (by omega) ⟨x, h1, h2, h3⟩ (by omega) (by simp)
    refine ⟨o', H', zs', bad', (acc'.length : Int) :: acc'.flatMap fe, ?_, hR2, hK1.trans hK2 (Nat.le_refl _), ⟨fun e => ?_, fun e w t hw hzz => ?_, by omega⟩, acc', hL2, hN2, lst_row_lt hL2, by omega, hok2, rfl⟩
    · rw [f142_eq]
      have hn0 : ¬ (k : Int) < 0 := by omega
      have hn1 : ¬ (zs1.length : Int) < k := by omega
      simp only [e1, hn0, hn1, obs, oms, bin_add, bin_sub, bin_lss, bin_leq, bin_gtr, bin_geq, bin_eql, bin_neq, bin_eqlB, bin_neqB, un_not, cond_B, gd_B, gd_undef, gdH_B, gdH_undef, pickA_B, extractA_tup, lenA_sl, lenA_row, fldA_fp, fldA_ptr, fldA_rptr, List.getElem?_cons_zero, List.getElem?_cons_succ, decide_true, decide_false, if_true, if_false, Bool.true_eq_false, Bool.false_eq_true, Bool.not_true, Bool.not_false, hnc, ldR0 h1, h2.len]
      rw [L142_11_eq]
      exact e2
    · obtain ⟨s1, s2, s3⟩ := hs2 e
      obtain ⟨s4, s5⟩ := hT1.snd s1
      refine ⟨s4, ?_⟩
      rw [s5, s2]
      simp only [List.flatMap_nil, List.nil_append] at s3
      rw [s3]
      simp
    · obtain ⟨ws, rfl, hws⟩ := hw
      obtain ⟨s1, s2⟩ := hT1.cmp e [(ws.length : Int)] (ws.flatten ++ t) ⟨_, rfl⟩ (by rw [hzz]; simp)
      obtain ⟨_, s3⟩ := hT1.snd s1
      rw [hzz] at s3
      simp only [List.cons_append, List.nil_append, List.cons.injEq] at s3
      exact hc2 s1 ws t (by omega) hws s2

/-! ### some 152 -/
theorem stop152 {n : Int} {i : Nat} {o : AV} {H : Heap} {zs : List Int} (h : Rd r M lo H zs true) : L152_14 [.ptr r 0, cl, I n, o, I i] lo H = leave 1 lo [o] H := by
  obtain ⟨x, h1, h2, h3⟩ := h
  have hn : nilCheckA (.ptr r 0) = some (.ptr r 0) := rfl
  rw [L152_14_eq]
  by_cases hi : (i : Int) < n
  · simp only [hi, obs, oms, bin_add, bin_sub, bin_lss, bin_leq, bin_gtr, bin_geq, bin_eql, bin_neq, bin_eqlB, bin_neqB, un_not, cond_B, gd_B, gd_undef, gdH_B, gdH_undef, pickA_B, extractA_tup, lenA_sl, lenA_row, fldA_fp, fldA_ptr, fldA_rptr, List.getElem?_cons_zero, List.getElem?_cons_succ, decide_true, decide_false, if_true, if_false, Bool.true_eq_false, Bool.false_eq_true, Bool.not_true, Bool.not_false, hn, ldR1 h1]
  · simp only [hi, obs, oms, bin_add, bin_sub, bin_lss, bin_leq, bin_gtr, bin_geq, bin_eql, bin_neq, bin_eqlB, bin_neqB, un_not, cond_B, gd_B, gd_undef, gdH_B, gdH_undef, pickA_B, extractA_tup, lenA_sl, lenA_row, fldA_fp, fldA_ptr, fldA_rptr, List.getElem?_cons_zero, List.getElem?_cons_succ, decide_true, decide_false, if_true, if_false, Bool.true_eq_false, Bool.false_eq_true, Bool.not_true, Bool.not_false]

theorem loop152 (hE : ∀ p, (enc p).length = 2) (hcl : RS r M lo (fun H => callV cfg O cl [] lo H) FE (postO enc fe ok)) {N n : Nat} (hn : n ≤ RLIM) (hMN : M ≤ N) (hrN : r < N) : ∀ (cnt i : Nat) (o : AV) (H : Heap) (zs : List Int) (bad : Bool) (acc : List α), n - i = cnt → i ≤ n → acc.length = i → Lst 2 o H i (acc.flatMap enc) → New N o → N ≤ H.length → Rd r M lo H zs bad → zs.length ≤ RLIM → (∀ x ∈ acc, ok x) →
    ∃ o' H' zs' bad', ∃ acc' : List α, L152_14 [.ptr r 0, cl, I n, o, I i] lo H = leave 1 lo [o'] H' ∧ Rd r M lo H' zs' bad' ∧ KR r N H H' ∧ Lst 2 o' H' acc'.length (acc'.flatMap enc) ∧ New N o' ∧ acc'.length ≤ n ∧ (∀ x ∈ acc', ok x) ∧ zs'.length ≤ zs.length ∧
      (bad' = false → bad = false ∧ acc'.length = n ∧ acc.flatMap fe ++ zs = acc'.flatMap fe ++ zs') ∧
      (bad = false → ∀ (ws : List (List Int)) t, ws.length = n - i → (∀ w ∈ ws, FE w) → zs = ws.flatten ++ t → bad' = false ∧ zs' = t) := by
  have hrl : RLIM = 16777216 := rfl
  intro cnt
  induction cnt with
  | zero =>
    intro i o H zs bad acc hc hi ha hL hN hle hR hz hok
    have : i = n := by omega
    subst this
    refine ⟨o, H, zs, bad, acc, ?_, hR, KR.refl _ _ _, by rw [ha]; exact hL, hN, by omega, hok, Nat.le_refl _, fun e => ⟨e, ha, rfl⟩, fun e ws t h1 h2 h3 => ?_⟩
    · rw [L152_14_eq]
      simp only [obs, oms, bin_add, bin_sub, bin_lss, bin_leq, bin_gtr, bin_geq, bin_eql, bin_neq, bin_eqlB, bin_neqB, un_not, cond_B, gd_B, gd_undef, gdH_B, gdH_undef, pickA_B, extractA_tup, lenA_sl, lenA_row, fldA_fp, fldA_ptr, fldA_rptr, List.getElem?_cons_zero, List.getElem?_cons_succ, decide_true, decide_false, if_true, if_false, Bool.true_eq_false, Bool.false_eq_true, Bool.not_true, Bool.not_false, Int.lt_irrefl]
    · have : ws = [] := List.length_eq_zero_iff.mp (by omega)
      subst this
      exact ⟨e, by simpa using h3⟩
  | succ cnt ih =>
    intro i o H zs bad acc hc hi ha hL hN hle hR hz hok
    cases bad with
    | true => exact ⟨o, H, zs, true, acc, stop152 hR, hR, KR.refl _ _ _, by rw [ha]; exact hL, hN, by omega, hok, Nat.le_refl _, fun e => by simp at e, fun e => by simp at e⟩
    | false =>
      obtain ⟨y, H1, zs1, bad1, out, e1, hR1, hK1, hT1, d, hd, hlv, hout⟩ := hcl H zs false hR hz
      obtain ⟨x, h1, h2, h3⟩ := hR
      have hrlt := getElem?_lt h1
      obtain ⟨H2, e2, hl2, hk2⟩ := one_lit hlv (hE d)
      have hL1 : Lst 2 o H1 i (acc.flatMap enc) := Lst.kr (N := N) hL hK1.2 h1
      have hR2 : Rd r M lo H2 zs1 bad1 := hR1.kn (K := H.length) ⟨by omega, hk2⟩ hrlt (by omega)
      have hL2 : Lst 2 o H2 i (acc.flatMap enc) := by
        obtain ⟨hl, ⟨nl, rfl, h1'⟩ | ⟨id, g, rfl, ho⟩⟩ := hL1
        · exact ⟨hl, .inl ⟨nl, rfl, h1'⟩⟩
        · exact ⟨hl, .inr ⟨id, g, rfl, by rw [hk2 id (lst_row_lt hL _ _ _ _ rfl)]; exact ho⟩⟩
      have hlen1 := hK1.1
      obtain ⟨o', H3, e3, hL3, hN3, hk3, hb3⟩ := app_new (bytes := 16) (y := .p (.sl (some false) true 1 (enc d))) (k := 1) (new := enc d) hL2 hN (by omega) (by simp [cellsA, hE]) (by simp [hE]) (by omega) (by simp only [room]; omega)
      have hR3 : Rd r M lo H3 zs1 bad1 := hR2.kn (K := N) hk3 hrN hMN
      obtain ⟨o4, H4, zs4, bad4, acc4, e4, hR4, hK4, hL4, hN4, hle4, hok4, hz4, hs4, hc4⟩ := ih (i + 1) o' H3 zs1 bad1 (acc ++ [d]) (by omega) (by omega) (by simp [ha]) (by simpa using hL3) hN3 (by have := hk3.1; omega) hR3 (by have := hT1.len; omega) (fun x hx => by
        rcases List.mem_append.mp hx with h | h
        · exact hok x h
        · rw [List.mem_singleton.mp h]; exact hd)
      refine ⟨o4, H4, zs4, bad4, acc4, ?_, hR4, ⟨by have := hk3.1; have := hK4.1; omega, fun j hj hjr => by rw [hK4.2 j hj hjr, hk3.2 j hj, hk2 j (by omega), hK1.2 j (by omega) hjr]⟩, hL4, hN4, hle4, hok4, by have := hT1.len; omega, fun e => ?_, fun e ws t g1 g2 g3 => ?_⟩
      · have hnc : nilCheckA (.ptr r 0) = some (.ptr r 0) := rfl
        have hi' : (i : Int) < n := by omega
        rw [L152_14_eq]
        simp only [hi', obs, oms, bin_add, bin_sub, bin_lss, bin_leq, bin_gtr, bin_geq, bin_eql, bin_neq, bin_eqlB, bin_neqB, un_not, cond_B, gd_B, gd_undef, gdH_B, gdH_undef, pickA_B, extractA_tup, lenA_sl, lenA_row, fldA_fp, fldA_ptr, fldA_rptr, List.getElem?_cons_zero, List.getElem?_cons_succ, decide_true, decide_false, if_true, if_false, Bool.true_eq_false, Bool.false_eq_true, Bool.not_true, Bool.not_false, hnc, ldR1 h1, e1, e2, e3]
        rw [wrap_id (by omega), nxt, e4]
      · obtain ⟨s1, s2, s3⟩ := hs4 e
        obtain ⟨s4, s5⟩ := hT1.snd s1
        refine ⟨rfl, s2, ?_⟩
        rw [← s3, s5, hout]
        simp
      · cases ws with
        | nil => simp at g1; omega
        | cons w ws =>
          obtain ⟨s1, s2⟩ := hT1.cmp rfl w (ws.flatten ++ t) (g2 w (List.mem_cons_self ..)) (by rw [g3]; simp)
          exact hc4 s1 ws t (by simp at g1; omega) (fun v hv => g2 v (List.mem_cons_of_mem _ hv)) s2

theorem ent152 (hE : ∀ p, (enc p).length = 2) (hF : ∀ w, FE w → w ≠ []) (hcl : ∀ lo', RS r M lo' (fun H => callV cfg O cl [] lo' H) FE (postO enc fe ok)) : ∀ H zs bad, Rd r M lo H zs bad → zs.length ≤ RLIM →
    ∃ o H' zs' bad' out, O.ent 152 [.ptr r 0, cl] lo H = leave 1 lo [o] H' ∧ Rd r M lo H' zs' bad' ∧ KR r H.length H H' ∧ Tr zs bad zs' bad' out (FS FE) ∧ postS 2 enc fe ok o H' H.length out := by
  intro H zs bad hR hz
  have hR0 : Rd r M lo H zs bad := by first | exact hR | exact hR.up
  have hMl := hR.le
  have hrl0 := hR.lt
  obtain ⟨y, H1, zs1, bad1, out1, e1, hR1, hK1, hT1, n, rfl, rfl⟩ := call113 (lo := lo) H zs bad hR0 hz
  have hlen := hK1.1
  have hz1 := hT1.len
  obtain ⟨x, h1, h2, h3⟩ := hR1
  have hnc : nilCheckA (.ptr r 0) = some (.ptr r 0) := rfl
  by_cases hbad : n < 0 ∨ (zs1.length : Int) < n
  · obtain ⟨k1, k2⟩ := Rd.flag (zs' := zs1) h1 h2 h3 true h2 h3.1
    refine ⟨.p nilS, H1.set r (.box [x, B true]), zs1, true, [0], ?_, k1, hK1.trans k2 hlen, ⟨fun e => by simp at e, fun e w t hw hzz => ?_, hz1⟩, [], Lst.nil _ _, (fun _ _ _ _ e => by cases e), (fun _ _ _ _ e => by cases e), by simp, by simp, rfl⟩
    · have hs := stop152 (cl := cl) (n := n) (i := 0) (o := .p nilS) k1
      rw [f152_eq]
      simp only [e1, obs]
      by_cases hn0 : n < 0
      · simp only [hn0, obs, oms, bin_add, bin_sub, bin_lss, bin_leq, bin_gtr, bin_geq, bin_eql, bin_neq, bin_eqlB, bin_neqB, un_not, cond_B, gd_B, gd_undef, gdH_B, gdH_undef, pickA_B, extractA_tup, lenA_sl, lenA_row, fldA_fp, fldA_ptr, fldA_rptr, List.getElem?_cons_zero, List.getElem?_cons_succ, decide_true, decide_false, if_true, if_false, Bool.true_eq_false, Bool.false_eq_true, Bool.not_true, Bool.not_false, hnc, stR1 h1]
        rw [L152_11_eq]
        exact hs
      · have hn1 : (zs1.length : Int) < n := by omega
        simp only [hn0, hn1, obs, oms, bin_add, bin_sub, bin_lss, bin_leq, bin_gtr, bin_geq, bin_eql, bin_neq, bin_eqlB, bin_neqB, un_not, cond_B, gd_B, gd_undef, gdH_B, gdH_undef, pickA_B, extractA_tup, lenA_sl, lenA_row, fldA_fp, fldA_ptr, fldA_rptr, List.getElem?_cons_zero, List.getElem?_cons_succ, decide_true, decide_false, if_true, if_false, Bool.true_eq_false, Bool.false_eq_true, Bool.not_true, Bool.not_false, hnc, ldR0 h1, h2.len, stR1 h1]
        rw [L152_11_eq]
        exact hs
    · obtain ⟨ws, rfl, hws⟩ := hw
      obtain ⟨s1, s2⟩ := hT1.cmp e [(ws.length : Int)] (ws.flatten ++ t) ⟨_, rfl⟩ (by rw [hzz]; simp)
      obtain ⟨_, s3⟩ := hT1.snd s1
      rw [hzz] at s3
      simp only [List.cons_append, List.nil_append, List.cons.injEq] at s3
      have := flat_len hF ws hws
      have hl : zs1.length = ws.flatten.length + t.length := by rw [s2, List.length_append]
      omega
  · obtain ⟨k, rfl⟩ : ∃ k : Nat, n = k := ⟨n.toNat, by omega⟩
    obtain ⟨o', H', zs', bad', acc', e2, hR2, hK2, hL2, hN2, hle2, hok2, hz2, hs2, hc2⟩ := loop152 (lo := lo) (N := H.length) (n := k) hE (hcl _) (by omega) hMl hrl0 k 0 (.p nilS) H1 zs1 bad1 [] rfl (by omega) rfl (Lst.nil _ _) (fun _ _ _ _ e => by cases e) (by omega) ⟨x, h1, h2, h3⟩ (by omega) (by simp)
    refine ⟨o', H', zs', bad', (acc'.length : Int) :: acc'.flatMap fe, ?_, hR2, hK1.trans hK2 (Nat.le_refl _), ⟨fun e => ?_, fun e w t hw hzz => ?_, by omega⟩, acc', hL2, hN2, lst_row_lt hL2, by omega, hok2, rfl⟩
    · rw [f152_eq]
      have hn0 : ¬ (k : Int) < 0 := by omega
      have hn1 : ¬ (zs1.length : Int) < k := by omega
      simp only [e1, hn0, hn1, obs, oms, bin_add, bin_sub, bin_lss, bin_leq, bin_gtr, bin_geq, bin_eql, bin_neq, bin_eqlB, bin_neqB, un_not, cond_B, gd_B, gd_undef, gdH_B, gdH_undef, pickA_B, extractA_tup, lenA_sl, lenA_row, fldA_fp, fldA_ptr, fldA_rptr, List.getElem?_cons_zero, List.getElem?_cons_succ, decide_true, decide_false, if_true, if_false, Bool.true_eq_false, Bool.false_eq_true, Bool.not_true, Bool.not_false, hnc, ldR0 h1, h2.len]
      rw [L152_11_eq]
      exact e2
    · obtain ⟨s1, s2, s3⟩ := hs2 e
      obtain ⟨s4, s5⟩ := hT1.snd s1
      refine ⟨s4, ?_⟩
      rw [s5, s2]
      simp only [List.flatMap_nil, List.nil_append] at s3
      rw [s3]
      simp
    · obtain ⟨ws, rfl, hws⟩ := hw
      obtain ⟨s1, s2⟩ := hT1.cmp e [(ws.length : Int)] (ws.flatten ++ t) ⟨_, rfl⟩ (by rw [hzz]; simp)
      obtain ⟨_, s3⟩ := hT1.snd s1
      rw [hzz] at s3
      simp only [List.cons_append, List.nil_append, List.cons.injEq] at s3
      exact hc2 s1 ws t (by omega) hws s2

theorem call152 (hE : ∀ p, (enc p).length = 2) (hF : ∀ w, FE w → w ≠ []) (hcl : ∀ lo', RS r M lo' (fun H => callV cfg O cl [] lo' H) FE (postO enc fe ok)) : RS r M lo (fun H => callA cfg O 152 [.ptr r 0, cl] lo H) (FS FE) (postS 2 enc fe ok) := by
  intro H zs bad hR hz
  obtain ⟨o, H', zs', bad', out, e, rest⟩ := ent152 hE hF hcl H zs bad hR hz
  exact ⟨o, H', zs', bad', out, callA_keep (rs := [o]) rfl e, rest⟩

end
end Snp
end Go.Proofs.Ytangmjeafnkfaaa
