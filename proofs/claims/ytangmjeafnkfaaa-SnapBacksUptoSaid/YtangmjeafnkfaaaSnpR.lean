import Derived.Test.YtangmjeafnkfaaaSnpV
import Derived.Test.YtangmjeafnkfaaaAm21
set_option linter.unusedVariables false
set_option linter.unusedSimpArgs false
namespace Go.Proofs.Ytangmjeafnkfaaa
open Go Go.AM
namespace Snp

/-! ### What is read -/
def SrcO (x : AV) (H : Heap) (zs : List Int) : Prop := (∃ nl tg, x = V nl tg zs) ∨ ∃ id g off, ∃ xs : List PV, x = .row id g off zs.length ∧ H[id]? = some (.row g 1 xs) ∧ off + zs.length ≤ xs.length ∧ (xs.drop off).take zs.length = zs.map Ia

section
variable {x : AV} {H H' : Heap} {zs : List Int} {lo : List Nat} {r M : Nat} {bad : Bool}
theorem SrcO.len (h : SrcO x H zs) (H' : Heap) : lenA .slice x H' = some (I zs.length) := by
  obtain ⟨nl, tg, rfl⟩ | ⟨id, g, off, xs, rfl, _⟩ := h <;> rfl
theorem SrcO.head {z : Int} {t : List Int} (h : SrcO x H (z :: t)) : ∃ p, idxA 1 x (I 0) = some p ∧ ld false 1 p H = some (I z) := by
  obtain ⟨nl, tg, rfl⟩ | ⟨id, g, off, xs, rfl, ho, hl, he⟩ := h
  · exact ⟨_, idxV (k := 0) (by simp), ldV (k := 0) (by simp) H⟩
  · refine ⟨_, idxA_row (j := 0) (by simp), ?_⟩
    rw [ld_row ho]
    simp only [List.length_cons] at hl he
    have : off < xs.length := by omega
    rw [List.drop_eq_getElem_cons this] at he
    simp only [List.take_succ_cons, List.map_cons, List.cons.injEq] at he
    simp only [Int.toNat_zero, Nat.zero_mul, Nat.add_zero]
    rw [List.getElem?_eq_getElem this, he.1]
    rfl
theorem SrcO.cut {z : Int} {t : List Int} (h : SrcO x H (z :: t)) : ∃ x', cutA 1 x (some (I 1)) none none H = some x' ∧ SrcO x' H t ∧ ∀ l, AV.ltd l x = true → AV.ltd l x' = true := by
  obtain ⟨nl, tg, rfl⟩ | ⟨id, g, off, xs, rfl, ho, hl, he⟩ := h
  · refine ⟨V nl (tg) t, ?_, .inl ⟨_, _, rfl⟩, fun _ _ => rfl⟩
    rw [cutA_lo (by simp <;> omega)]
    simp [V]
    exact List.take_of_length_le (by simp)
  · simp only [List.length_cons] at hl he
    refine ⟨.row id g (off + 1) t.length, ?_, .inr ⟨id, g, off + 1, xs, rfl, ho, by omega, ?_⟩, fun _ h => h⟩
    · simp only [cutA, bnd, asI, Option.bind_some, ho, List.length_cons]
      rw [if_pos (by simp; omega)]
      simp
    · have : off < xs.length := by omega
      rw [List.drop_eq_getElem_cons this] at he
      simp only [List.take_succ_cons, List.map_cons, List.cons.injEq] at he
      exact he.2
theorem SrcO.leaf (h : SrcO x H zs) : x.cells = [x] ∧ x.leaf = true := by
  obtain ⟨nl, tg, rfl⟩ | ⟨id, g, off, xs, rfl, _⟩ := h <;> exact ⟨rfl, rfl⟩
theorem SrcO.keep (h : SrcO x H zs) (hk : ∀ id g off n, x = .row id g off n → H'[id]? = H[id]?) : SrcO x H' zs := by
  obtain ⟨nl, tg, rfl⟩ | ⟨id, g, off, xs, rfl, ho, hl, he⟩ := h
  · exact .inl ⟨_, _, rfl⟩
  · exact .inr ⟨id, g, off, xs, rfl, by rw [hk id g off _ rfl]; exact ho, hl, he⟩

/-! ### The reader -/
def RLIM : Nat := 16777216
/-- M: what is read stands below it. -/
def Rd (r M : Nat) (lo : List Nat) (H : Heap) (zs : List Int) (bad : Bool) : Prop := ∃ x, H[r]? = some (.box [x, B bad]) ∧ SrcO x H zs ∧ (AV.ltd M x = true ∧ M ≤ H.length ∧ ∀ l ∈ lo, M ≤ l ∧ l ≤ H.length)
def KR (r : Nat) (N : Nat) (H H' : Heap) : Prop := H.length ≤ H'.length ∧ ∀ j, j < N → j ≠ r → H'[j]? = H[j]?
theorem KR.refl (r N : Nat) (H : Heap) : KR r N H H := ⟨Nat.le_refl _, fun _ _ _ => rfl⟩
theorem KR.trans {r N M : Nat} {H H' H'' : Heap} (h : KR r N H H') (k : KR r M H' H'') (hm : N ≤ M) : KR r N H H'' := ⟨Nat.le_trans h.1 k.1, fun j hj hr => (k.2 j (by omega) hr).trans (h.2 j hj hr)⟩
theorem KR.of {r N : Nat} {H H' : Heap} (h : KN N H H') : KR r N H H' := ⟨h.1, fun j hj _ => h.2 j hj⟩

theorem SrcO.ltd_mono {l : Nat} (h : SrcO x H zs) (hx : AV.ltd M x = true) (hl : M ≤ l) : AV.ltd l x = true := by
  obtain ⟨nl, tg, rfl⟩ | ⟨id, g, off, xs, rfl, _⟩ := h
  · rfl
  · simp only [AV.ltd, AV.lt, decide_eq_true_eq] at hx ⊢; omega
theorem SrcO.id_lt (hx : AV.ltd M x = true) : ∀ id g off n, x = .row id g off n → id < M := by
  rintro id g off n rfl
  simpa [AV.ltd, AV.lt] using hx
theorem Rd.lt (h : Rd r M lo H zs bad) : r < H.length := by obtain ⟨x, h1, _⟩ := h; exact getElem?_lt h1
theorem Rd.le (h : Rd r M lo H zs bad) : M ≤ H.length := by obtain ⟨x, _, _, _, h, _⟩ := h; exact h
theorem Rd.up (h : Rd r M lo H zs bad) : Rd r M (H.length :: lo) H zs bad := by
  obtain ⟨x, h1, h2, h3, h4, h5⟩ := h
  refine ⟨x, h1, h2, h3, h4, fun l hl => ?_⟩
  rcases List.mem_cons.mp hl with e | e
  · subst e; exact ⟨h4, Nat.le_refl _⟩
  · exact h5 l e
theorem Rd.kn {K : Nat} (h : Rd r M lo H zs bad) (hk : KN K H H') (hr : r < K) (hM : M ≤ K) : Rd r M lo H' zs bad := by
  obtain ⟨x, h1, h2, h3, h4, h5⟩ := h
  refine ⟨x, by rw [hk.2 r hr]; exact h1, h2.keep fun id g off n e => hk.2 id ?_, h3, Nat.le_trans h4 hk.1, fun l hl => ⟨(h5 l hl).1, Nat.le_trans (h5 l hl).2 hk.1⟩⟩
  have := SrcO.id_lt h3 id g off n e
  omega
theorem Rd.push (h : Rd r M lo H zs bad) (l : List AObj) : Rd r M lo (H ++ l) zs bad := h.kn (KN.push l (Nat.le_refl _)) h.lt h.le
/-- Another box is written. -/
theorem Rd.set (h : Rd r M lo H zs bad) {j : Nat} {xs ys : List AV} (hj : j ≠ r) (ho : H[j]? = some (.box xs)) : Rd r M lo (H.set j (.box ys)) zs bad := by
  obtain ⟨x, h1, h2, h3, h4, h5⟩ := h
  refine ⟨x, by rw [List.getElem?_set_ne hj]; exact h1, h2.keep fun id g off n e => ?_, h3, by rw [List.length_set]; exact h4, fun l hl => by rw [List.length_set]; exact h5 l hl⟩
  obtain ⟨nl, tg, rfl⟩ | ⟨id', g', off', xs', rfl, ho', _⟩ := h2
  · cases e
  · cases e
    rw [List.getElem?_set_ne fun e => by rw [e, ho'] at ho; cases ho]

/-- What a reading did: what it took, if all went well; and that it goes well on what may stand there. -/
structure Tr (zs : List Int) (bad : Bool) (zs' : List Int) (bad' : Bool) (out : List Int) (F : List Int → Prop) : Prop where
  snd : bad' = false → bad = false ∧ zs = out ++ zs'
  cmp : bad = false → ∀ w t, F w → zs = w ++ t → bad' = false ∧ zs' = t
  len : zs'.length ≤ zs.length

def Seq (F G : List Int → Prop) (w : List Int) : Prop := ∃ a b, w = a ++ b ∧ F a ∧ G b
theorem Tr.comp {zs zs1 zs2 o1 o2 : List Int} {b b1 b2 : Bool} {F G : List Int → Prop} (h : Tr zs b zs1 b1 o1 F) (k : Tr zs1 b1 zs2 b2 o2 G) : Tr zs b zs2 b2 (o1 ++ o2) (Seq F G) where
  snd := fun e => by
    obtain ⟨e1, e2⟩ := k.snd e
    obtain ⟨e3, e4⟩ := h.snd e1
    exact ⟨e3, by rw [e4, e2, List.append_assoc]⟩
  cmp := fun e w t hw hz => by
    obtain ⟨a, c, rfl, ha, hc⟩ := hw
    obtain ⟨e1, e2⟩ := h.cmp e a (c ++ t) ha (by rw [hz, List.append_assoc])
    exact k.cmp e1 c t hc e2
  len := Nat.le_trans k.len h.len
theorem Tr.weak {zs zs' out : List Int} {b b' : Bool} {F G : List Int → Prop} (h : Tr zs b zs' b' out F) (hg : ∀ w, G w → F w) : Tr zs b zs' b' out G := ⟨h.snd, fun e w t hw hz => h.cmp e w t (hg w hw) hz, h.len⟩

/-- A reading's specification. -/
def RS (r M : Nat) (lo : List Nat) (call : Heap → Option (AV × Heap)) (F : List Int → Prop) (post : AV → Heap → Nat → List Int → Prop) : Prop :=
  ∀ H zs bad, Rd r M lo H zs bad → zs.length ≤ RLIM → ∃ y H' zs' bad' out, call H = some (y, H') ∧ Rd r M lo H' zs' bad' ∧ KR r H.length H H' ∧ Tr zs bad zs' bad' out F ∧ post y H' H.length out

def one (w : List Int) : Prop := ∃ n, w = [n]

theorem ldR1 (h : H[r]? = some (.box [x, B bad])) : ld false 1 (.ptr r (0 + 1)) H = some (B bad) := by rw [ld_box h]; rfl
theorem ldR0 (h : H[r]? = some (.box [x, B bad])) : ld false 1 (.ptr r (0 + 0)) H = some x := by rw [ld_box h]; rfl
theorem stR1 (h : H[r]? = some (.box [x, B bad])) (c : Bool) : stA 1 (.ptr r (0 + 1)) (B c) lo H = some (H.set r (.box [x, B c])) := by
  have := stA_box (n := 1) (off := 1) (y := B c) (lo := lo) h rfl (by simp) rfl (okLevels_p lo r [.v (.bool c)])
  exact this
theorem stR0 (h : H[r]? = some (.box [x, B bad])) {y : AV} (hy : y.cells = [y] ∧ y.leaf = true) (hl : ∀ l ∈ lo, AV.ltd l y = true) : stA 1 (.ptr r (0 + 0)) y lo H = some (H.set r (.box [y, B bad])) := by
  have ok : okLevels lo r y.cells = true := by
    rw [hy.1]
    simp only [okLevels, List.all_eq_true, Bool.or_eq_true]
    intro l h
    exact .inr (by simpa using hl l h)
  have := stA_box (n := 1) (off := 0) (y := y) (lo := lo) h (by rw [hy.1]; rfl) (by simp) (by rw [hy.1]; simp [hy.2]) ok
  rw [hy.1] at this
  exact this

theorem Rd.flag (h : H[r]? = some (.box [x, B bad])) (h2 : SrcO x H zs) (h3 : AV.ltd M x = true ∧ M ≤ H.length ∧ ∀ l ∈ lo, M ≤ l ∧ l ≤ H.length) {x' : AV} {zs' : List Int} (c : Bool) (hx : SrcO x' H zs') (hl : AV.ltd M x' = true) : Rd r M lo (H.set r (.box [x', B c])) zs' c ∧ KR r H.length H (H.set r (.box [x', B c])) := by
  refine ⟨⟨x', by rw [List.getElem?_set_self (getElem?_lt h)], hx.keep fun id g off n e => ?_, hl, by rw [List.length_set]; exact h3.2.1, fun l hl' => by rw [List.length_set]; exact h3.2.2 l hl'⟩, by simp, fun j _ hj => by rw [List.getElem?_set_ne fun e => hj e.symm]⟩
  obtain ⟨nl, tg, rfl⟩ | ⟨id', g', off', xs', rfl, ho', _⟩ := hx
  · cases e
  · cases e
    rw [List.getElem?_set_ne fun e => by rw [← e, h] at ho'; cases ho']

def postI (y : AV) (_ : Heap) (_ : Nat) (out : List Int) : Prop := ∃ n, y = I n ∧ out = [n]

theorem call113 : RS r M lo (fun H => callA cfg O 113 [.ptr r 0] lo H) one postI := by
  intro H zs bad ⟨x, h1, h2, h3⟩ hb
  have hn : nilCheckA (.ptr r 0) = some (.ptr r 0) := rfl
  cases bad with
  | true =>
    obtain ⟨k1, k2⟩ := Rd.flag (zs' := zs) h1 h2 h3 true h2 h3.1
    refine ⟨I 0, _, zs, true, [0], callA_keep (rs := [I 0]) rfl ?_, k1, k2, ⟨fun e => by simp at e, fun e => by simp at e, Nat.le_refl _⟩, 0, rfl, rfl⟩
    rw [f113_eq]
    simp only [hn, obs, oms, bin_add, bin_sub, bin_lss, bin_leq, bin_gtr, bin_geq, bin_eql, bin_neq, bin_eqlB, bin_neqB, un_not, cond_B, gd_B, gd_undef, gdH_B, gdH_undef, pickA_B, extractA_tup, lenA_sl, lenA_row, fldA_fp, fldA_ptr, fldA_rptr, List.getElem?_cons_zero, List.getElem?_cons_succ, decide_true, decide_false, if_true, if_false, Bool.true_eq_false, Bool.false_eq_true, Bool.not_true, Bool.not_false, ldR1 h1, stR1 h1]
    rfl
  | false =>
    cases zs with
    | nil =>
      obtain ⟨k1, k2⟩ := Rd.flag (zs' := []) h1 h2 h3 true h2 h3.1
      refine ⟨I 0, _, [], true, [0], callA_keep (rs := [I 0]) rfl ?_, k1, k2, ⟨fun e => by simp at e, fun _ w t hw hz => by obtain ⟨n, rfl⟩ := hw; simp at hz, Nat.le_refl _⟩, 0, rfl, rfl⟩
      rw [f113_eq]
      have hl : lenA .slice x H = some (I 0) := h2.len H
      simp only [hn, obs, oms, bin_add, bin_sub, bin_lss, bin_leq, bin_gtr, bin_geq, bin_eql, bin_neq, bin_eqlB, bin_neqB, un_not, cond_B, gd_B, gd_undef, gdH_B, gdH_undef, pickA_B, extractA_tup, lenA_sl, lenA_row, fldA_fp, fldA_ptr, fldA_rptr, List.getElem?_cons_zero, List.getElem?_cons_succ, decide_true, decide_false, if_true, if_false, Bool.true_eq_false, Bool.false_eq_true, Bool.not_true, Bool.not_false, ldR1 h1, ldR0 h1, hl, stR1 h1]
      rfl
    | cons z t =>
      obtain ⟨p, e1, e2⟩ := h2.head
      obtain ⟨x', e3, hx', hlt⟩ := h2.cut
      obtain ⟨k1, k2⟩ := Rd.flag (zs' := t) h1 h2 h3 false hx' (hlt M h3.1)
      refine ⟨I z, _, t, false, [z], callA_keep (rs := [I z]) rfl ?_, k1, k2, ⟨fun _ => ⟨rfl, rfl⟩, fun _ w t' hw hz => ?_, by simp⟩, z, rfl, rfl⟩
      · rw [f113_eq]
        have hl := h2.len H
        have hne : ¬ ((z :: t).length : Int) = 0 := by simp; omega
        simp only [hn, obs, oms, bin_add, bin_sub, bin_lss, bin_leq, bin_gtr, bin_geq, bin_eql, bin_neq, bin_eqlB, bin_neqB, un_not, cond_B, gd_B, gd_undef, gdH_B, gdH_undef, pickA_B, extractA_tup, lenA_sl, lenA_row, fldA_fp, fldA_ptr, fldA_rptr, List.getElem?_cons_zero, List.getElem?_cons_succ, decide_true, decide_false, if_true, if_false, Bool.true_eq_false, Bool.false_eq_true, Bool.not_true, Bool.not_false, ldR1 h1, ldR0 h1, hl, hne, e1, e2, e3, stR0 h1 hx'.leaf fun l hl => hx'.ltd_mono (hlt M h3.1) (h3.2.2 l hl).1]
        rfl
      · obtain ⟨n, rfl⟩ := hw
        simp only [List.singleton_append, List.cons.injEq] at hz
        exact ⟨rfl, hz.2⟩

end
end Snp
end Go.Proofs.Ytangmjeafnkfaaa
