import Derived.Test.YtangmjeafnkfaaaSmaU
set_option linter.unusedVariables false
set_option linter.unusedSimpArgs false
namespace Go.Proofs.Ytangmjeafnkfaaa
open Go Go.AM
namespace Sma

section
variable {nl : Option Bool} {tg : Bool} {l : List Int}

/-! ### Without -/
def wE (l : List Int) (f t : Int) : Int := if 200 < l.length then 2 else if f < 0 ∨ t < f ∨ (l.length : Int) < t then 1 else 0
def wL (l : List Int) (f t : Int) : List Int := if wE l f t = 0 then wo l f.toNat t.toNat else []

theorem chain (f t : Int) (H : Heap) {R : Type} (K : AV → Option R) :
    ((bin .lss .int (I f) (I 0)).bind fun x3 =>
(gd x3 false (some (I f))).bind fun x4 =>
(gd x3 false (some (I t))).bind fun x5 =>
(gd x3 false (bin .gtr .int x4 x5)).bind fun x6 =>
(pickA x3 (B true) x6).bind fun x7 =>
(gd x7 false (some (I t))).bind fun x8 =>
(gd x7 false (some (V nl tg l))).bind fun x9 =>
(gd x7 false (lenA .slice x9 H)).bind fun x10 =>
(gd x7 false (bin .gtr .int x8 x10)).bind fun x11 =>
(pickA x7 (B true) x11).bind K) = K (B (decide (f < 0 ∨ t < f ∨ (l.length : Int) < t))) := by
  by_cases h3 : f < 0
  · simp only [bin_lss, h3, decide_true, obs, gd_B, Bool.true_eq_false, if_false, gd_undef, pickA_B, if_true, true_or]
  · by_cases h4 : t < f
    · simp only [bin_lss, bin_gtr, h3, h4, decide_true, decide_false, obs, gd_B, Bool.true_eq_false, if_false, gd_undef, pickA_B, if_true, true_or, or_true, Bool.false_eq_true]
    · simp only [bin_lss, bin_gtr, h3, h4, decide_true, decide_false, obs, gd_B, Bool.true_eq_false, if_false, gd_undef, pickA_B, if_true, false_or, Bool.false_eq_true, lenA_sl]

theorem call49 (f t : Int) (lo : List Nat) (H : Heap) : ∃ n' t', callA cfg O 49 [V nl tg l, I f, I t] lo H = some (.tup [V n' t' (wL l f t), I (wE l f t)], H) := by
  have key : ∃ n' t' H', O.ent 49 [V nl tg l, I f, I t] [] [] = some ([V n' t' (wL l f t), I (wE l f t)], H') := by
    rw [f49_eq]
    have c1 := chain (nl := nl) (tg := tg) (l := l) f t [] (R := List AV × Heap) (fun x12 => AM.cond x12 (leave 0 [] [.p nilS, I 1] []) ((callA cfg O 114 [V nl tg l, I f, I t] [] []).bind fun r13 => leave 0 [] [r13.1, I 0] r13.2))
    by_cases h2 : 200 < l.length
    · simp only [lenA_sl, obs, bin_gtr, cond_B]
      rw [if_pos (by simp <;> omega)]
      have e : wE l f t = 2 := by unfold wE; rw [if_pos h2]
      have e' : wL l f t = [] := by unfold wL; rw [if_neg (by omega)]
      rw [e, e']
      exact ⟨some true, true, [], rfl⟩
    · rw [lenA_sl, obs, bin_gtr, obs, cond_B, if_neg (by simp <;> omega), c1, cond_B]
      by_cases hb : f < 0 ∨ t < f ∨ (l.length : Int) < t
      · have e : wE l f t = 1 := by unfold wE; rw [if_neg h2, if_pos hb]
        have e' : wL l f t = [] := by unfold wL; rw [if_neg (by omega)]
        rw [e, e', if_pos (by simpa using hb)]
        exact ⟨some true, true, [], rfl⟩
      · have e : wE l f t = 0 := by unfold wE; rw [if_neg h2, if_neg hb]
        have e' : wL l f t = wo l f.toNat t.toNat := by unfold wL; rw [if_pos e]
        rw [if_neg (by simpa using hb)]
        obtain ⟨a, rfl⟩ : ∃ a : Nat, f = a := ⟨f.toNat, by omega⟩
        obtain ⟨b, rfl⟩ : ∃ b : Nat, t = b := ⟨t.toNat, by omega⟩
        rw [e, e']
        simp only [Int.toNat_natCast]
        obtain ⟨n', t', H', hk, e1⟩ := ent114 (nl := nl) (tg := tg) (zs := l) (a := a) (b := b) (by omega) (by omega) (by omega)
        refine ⟨n', t', [], ?_⟩
        have c : callA cfg O 114 [V nl tg l, I a, I b] [] [] = some (V n' t' (wo l a b), []) := by
          have hm : cfg.mode 114 = 5 := rfl
          have hf : frzAll [] [V nl tg l, I a, I b] = some ([V nl tg l, I a, I b], []) := rfl
          unfold callA
          rw [hm]
          simp only [hf, obs]
          have : ([V nl tg l, I a, I b].all (AV.ltd 0)) = true := rfl
          rw [if_pos this, e1]
          rfl
        rw [c]
        rfl
  obtain ⟨n', t', H', e⟩ := key
  exact ⟨n', t', callA_args (rs := [V n' t' (wL l f t), I (wE l f t)]) rfl rfl e rfl⟩

/-! ### What is to come out -/
def rest (l : List Int) (a b i : Nat) : List Int := (l.drop i).take (a - i) ++ l.drop (max i b)
theorem rest0 (l : List Int) (a b : Nat) : rest l a b 0 = wo l a b := by simp [rest, wo]
theorem rest_in {l : List Int} {a b i : Nat} (hab : a ≤ b) (hi : i < l.length) (h : i < a ∨ b ≤ i) : rest l a b i = l[i] :: rest l a b (i + 1) := by
  unfold rest
  rcases h with h | h
  · rw [List.drop_eq_getElem_cons hi, show a - i = (a - (i + 1)) + 1 by omega, List.take_succ_cons, show max i b = b by omega, show max (i + 1) b = b by omega]
    rfl
  · rw [show a - i = 0 by omega, show a - (i + 1) = 0 by omega, show max i b = i by omega, show max (i + 1) b = i + 1 by omega, List.drop_eq_getElem_cons hi]
    simp
theorem rest_out {l : List Int} {a b i : Nat} (h : a ≤ i ∧ i < b) : rest l a b i = rest l a b (i + 1) := by
  unfold rest
  rw [show a - i = 0 by omega, show a - (i + 1) = 0 by omega, show max i b = b by omega, show max (i + 1) b = b by omega]
  simp
theorem rest_end {l : List Int} {a b i : Nat} (hb : b ≤ l.length) (hi : i = l.length) : rest l a b i = [] := by
  unfold rest
  rw [hi, show max l.length b = l.length by omega]
  simp

/-- A list under way that is no part of what stands before it. -/
def Own (o : AV) : Prop := ∀ j g n, o = .row j g 0 n → 1 ≤ j

theorem wantLoop {nv none : Bool} {a b : Nat} {va : AV} {H0 : Heap} (hz : l.length ≤ 200) (hab : a ≤ b) (hb : b ≤ l.length) : ∀ (k i : Nat) (o : AV) (H : Heap) (xs : List Int), l.length - i = k → i ≤ l.length → H[0]? = some (.box [B nv]) → Own o → Lst 1 o H xs.length (xs.map Ia) → xs.length ≤ i →
    ∃ o' H', L12_20 [V nl tg l, I a, I b, B none, .ptr 0 0, va, I 0, I 0, o, I i] [] H = L12_29 [V nl tg l, B none, .ptr 0 0, va, I 0, I 0, o'] [] H' ∧ H'[0]? = some (.box [B nv]) ∧ Own o' ∧ Lst 1 o' H' (xs ++ rest l a b i).length ((xs ++ rest l a b i).map Ia) := by
  intro k
  induction k with
  | zero =>
    intro i o H xs hk hi h0 ho hL hx
    have : i = l.length := by omega
    refine ⟨o, H, ?_, h0, ho, by rw [rest_end hb this]; simpa using hL⟩
    rw [L12_20_eq]
    simp only [lenA_sl, obs, bin_lss, cond_B]
    rw [if_neg (by simp <;> omega)]
  | succ k ih =>
    intro i o H xs hk hi h0 ho hL hx
    have hi' : i < l.length := by omega
    have c : ∀ {R : Type} (K : AV → Option R), ((bin .lss .int (I i) (I a)).bind fun x3 => (gd x3 false (some (I i))).bind fun x4 => (gd x3 false (some (I b))).bind fun x5 => (gd x3 false (bin .geq .int x4 x5)).bind fun x6 => (pickA x3 (B true) x6).bind K) = K (B (decide (i < a ∨ b ≤ i))) := by
      intro R K
      by_cases h3 : i < a
      · have h3' : (i : Int) < a := by omega
        simp only [bin_lss, h3, h3', decide_true, obs, gd_B, Bool.true_eq_false, if_false, gd_undef, pickA_B, if_true, true_or]
      · have h3' : ¬ (i : Int) < a := by omega
        have h4 : ((i : Int) ≥ b) ↔ b ≤ i := by omega
        simp only [bin_lss, bin_geq, h3, h3', h4, decide_false, obs, gd_B, if_true, pickA_B, Bool.false_eq_true, if_false, false_or]
    rw [L12_20_eq, lenA_sl, obs, bin_lss, obs, cond_B, if_pos (by simp <;> omega), c, cond_B]
    by_cases h : i < a ∨ b ≤ i
    · rw [if_pos (by simpa using h)]
      have hix : idxA 1 (V nl tg l) (I i) = some (.fp (l.map Ia) i) := by
        have := idxA_sl (sz := 1) (n := l.length) (nl := nl) (t := tg) (xs := l.map Ia) (j := (i : Int)) (by omega)
        simpa using this
      have hl : ld false 1 (.fp (l.map Ia) i) H = some (I l[i]) := by
        rw [ld_fp, List.getElem?_map, List.getElem?_eq_getElem hi']; rfl
      have hlit : litA false 1 [I l[i]] H = some (.p (.sl (some false) true 1 [Ia l[i]]), H) := rfl
      obtain ⟨o', H', e, hL', hkp, _, h6, id, g, rfl, hr⟩ := hL.app (bytes := 8) (k := 1) (new := [Ia l[i]]) (y := .p (.sl (some false) true 1 [Ia l[i]])) (by simp [cellsA]) (by simp) (by omega) (by simp only [room]; omega)
      have h0' : H'[0]? = some (.box [B nv]) := hkp.2 0 _ h0 (fun g n e => by have := ho 0 g n e; omega)
      have hown : Own (.row id g 0 (xs.length + 1)) := by
        intro j g' n e'
        cases e'
        rcases Nat.eq_zero_or_pos id with rfl | h
        · rw [h0'] at hr; cases hr
        · exact h
      have hcs : (xs ++ [l[i]]).map Ia = xs.map Ia ++ [Ia l[i]] := by simp
      have hln : (xs ++ [l[i]]).length = xs.length + 1 := by simp
      obtain ⟨o2, H2, e2, r1, r2, r3⟩ := ih (i + 1) (.row id g 0 (xs.length + 1)) H' (xs ++ [l[i]]) (by omega) (by omega) h0' hown (by rw [hcs, hln]; exact hL') (by omega)
      refine ⟨o2, H2, ?_, r1, r2, ?_⟩
      · rw [hix]
        simp only [obs, hl, hlit, e]
        rw [L12_23_eq]
        simp only [bin_add, obs]
        rw [wrap_id (by omega), show (i : Int) + 1 = ((i + 1 : Nat) : Int) by omega]
        exact e2
      · rw [rest_in hab hi' h]
        simpa using r3
    · rw [if_neg (by simpa using h)]
      obtain ⟨o2, H2, e2, r1, r2, r3⟩ := ih (i + 1) o H xs (by omega) (by omega) h0 ho hL (by omega)
      refine ⟨o2, H2, ?_, r1, r2, by rw [rest_out (by omega)]; exact r3⟩
      rw [L12_23_eq]
      simp only [bin_add, obs]
      rw [wrap_id (by omega), show (i : Int) + 1 = ((i + 1 : Nat) : Int) by omega]
      exact e2

theorem fin {na : Option Bool} {ta : Bool} {ws : List Int} {we me : Int} {A k : Nat} {o was x : AV} {H : Heap} (hw : ws.length < 2 ^ 63) (hl : l.length < 2 ^ 63)
    (hk : me ≠ 0 → k = 0) (hA : me = 0 → H[A]? = some (.box [I k])) (hx : lenA .slice x H = some (I 0)) (ho : Lst 1 o H ws.length (ws.map Ia)) (hwas : Lst 1 was H l.length (l.map Ia)) :
    ∃ H', L12_51 [V nl tg l, V na ta ws, I we, I we, o, .ptr A 0, was, x, I k, I me, I me] [] H = some ([B true], H') := by
  have tail : ∀ {R : Type} (K : AV → Option R), ((bin .eql .int (I me) (I 0)).bind fun x1 =>
(gd x1 true (some (I k))).bind fun x2 =>
(gd x1 true (ld false 1 (.ptr A 0) H)).bind fun x3 =>
(gd x1 true (bin .neq .int x2 x3)).bind fun x4 =>
(pickA x1 x4 (B false)).bind fun x5 =>
(gd x5 false (some (I me))).bind fun x6 =>
(gd x5 false (bin .neq .int x6 (I 0))).bind fun x7 =>
(gd x5 false (some x7)).bind fun x8 =>
(gd x8 true (some (I k))).bind fun x9 =>
(gd x8 true (bin .neq .int x9 (I 0))).bind fun x10 =>
(gd x5 false (pickA x8 x10 (B false))).bind fun x11 =>
(pickA x5 (B true) x11).bind K) = K (B false) := by
    intro R K
    by_cases h : me = 0
    · have hld : ld false 1 (.ptr A 0) H = some (I k) := by rw [ld_box (hA h)]; rfl
      simp only [h, bin_eql, bin_neq, obs, decide_true, gd_B, if_true, hld, Bool.not_true, pickA_B, Bool.false_eq_true, if_false, gd_undef]
    · have := hk h
      subst this
      simp only [h, bin_eql, bin_neq, obs, decide_true, decide_false, gd_B, if_true, Bool.not_true, Bool.not_false, pickA_B, Bool.false_eq_true, if_false, gd_undef, Int.ofNat_zero]
  have c1 := call17 (n1 := na) (t1 := ta) hw ho []
  have c2 := call17 (n1 := nl) (t1 := tg) hl hwas []
  refine ⟨H, ?_⟩
  rw [L12_51_eq, tail, cond_B, if_neg (by simp), c1]
  simp only [obs, gd_B, if_true, bin_eql, decide_true, pickA_B, hx, gdH_B, c2]
  rfl

theorem from29 {nv none : Bool} {na : Option Bool} {ta : Bool} {ws : List Int} {we : Int} {o : AV} {H : Heap} (hK : Kn nl l) (hw : ws.length < 2 ^ 63) (hl : l.length < 2 ^ 43) (h0 : H[0]? = some (.box [B nv])) (ho : Lst 1 o H ws.length (ws.map Ia)) :
    ∃ H', L12_29 [V nl tg l, B none, .ptr 0 0, V na ta ws, I we, I we, o] [] H = some ([B true], H') := by
  have lN := getElem?_lt h0
  have e1 : boxO [] [I 0] H = some (.ptr H.length 0, H ++ [.box [I 0]]) := boxO_p [Ia 0] H
  have e2 : stA 1 (.ptr H.length 0) (I 0) [] (H ++ [.box [I 0]]) = some ((H ++ [AObj.box [I 0]]).set H.length (.box [I 0])) := stA_one (x0 := I 0) (by simp)
  have e2' : (H ++ [AObj.box [I 0]]).set H.length (.box [I 0]) = H ++ [.box [I 0]] := by
    simp [List.set_append]
  rw [e2'] at e2
  have e3 : ∀ H : Heap, litA false 1 [] H = some (.p (.sl (some false) true 0 []), H) := fun H => rfl
  have hx : cellsA 1 (V nl tg l) (H ++ [AObj.box [I 0]]) = some (l.length, l.map Ia) := cellsV _ _ _ _
  have e4 : appA 1 8 (.p (.sl (some false) true 0 [])) (V nl tg l) (H ++ [AObj.box [I 0]]) = some (.row (H.length + 1) 0 0 l.length, (H ++ [AObj.box [I 0]]) ++ [.row 0 1 (l.map Ia)]) := by
    simp only [appA, hx, Option.bind_some, appTo]
    rw [if_pos (by simp only [List.length_nil, Nat.zero_mul, true_or, true_and, room]; omega)]
    simp
  obtain ⟨H2, hH2⟩ : ∃ H2, (H ++ [AObj.box [I 0]]) ++ [AObj.row 0 1 (l.map Ia)] = H2 := ⟨_, rfl⟩
  rw [hH2] at e4
  have gA : H2[H.length]? = some (.box [I (0 : Nat)]) := by rw [← hH2]; simp
  have gN : H2[0]? = some (.box [B nv]) := by rw [← hH2]; exact push_get? (push_get? h0 _) _
  have gW : H2[H.length + 1]? = some (.row 0 1 (l.map Ia)) := by rw [← hH2]; simp
  have gO : ∀ j, j < H.length → H2[j]? = H[j]? := fun j hj => by rw [← hH2, List.getElem?_append_left (by simp; omega), List.getElem?_append_left hj]
  have glen : H2.length = H.length + 2 := by rw [← hH2]; simp
  obtain ⟨x', H3, k', e5, f1, f2, f3, f4, f5⟩ := min51 (A := H.length) (N := 0) (nv := nv) (tg := tg) hK none gA gN (by omega)
  have hwas : Lst 1 (.row (H.length + 1) 0 0 l.length) H3 l.length (l.map Ia) := .row (by simp) (by rw [f5 _ (by omega) (by omega)]; exact gW)
  have ho3 : Lst 1 o H3 ws.length (ws.map Ia) := by
    obtain ⟨hl, ⟨n, rfl, h1⟩ | ⟨id, g, rfl, hr⟩⟩ := ho
    · exact ⟨hl, .inl ⟨n, rfl, h1⟩⟩
    · have := getElem?_lt hr
      exact ⟨hl, .inr ⟨id, g, rfl, by rw [f5 _ (by omega) (by omega), gO _ this]; exact hr⟩⟩
  have g0 : none = false → nv = false → minE l none nv = if 200 < l.length then 2 else 0 := by
    rintro rfl rfl; unfold minE; simp
  have hN3 : H3[0]? = some (.box [B nv]) := by rw [f5 _ (by omega) (by omega)]; exact gN
  obtain ⟨H', e6⟩ := fin (nl := nl) (tg := tg) (l := l) (na := na) (ta := ta) (ws := ws) (we := we) (me := minE l none nv) (A := H.length) (k := k') (o := o) (was := .row (H.length + 1) 0 0 l.length) (x := x') (H := H3) hw (by omega) f1 f2 (f3 : lenA .slice x' H3 = some (I 0)) ho3 hwas
  refine ⟨H', ?_⟩
  have back : L12_37 [V nl tg l, B none, .ptr 0 0, V na ta ws, I we, I we, o, .ptr H.length 0, if none = true then .p (.v .nilFunc) else cl H.length 0] [] (H ++ [AObj.box [I 0]]) = some ([B true], H') := by
    rw [L12_37_eq]
    simp only [e3, obs, e4, e5]
    have x0 : ∀ a b c : AV, extractA (.tup [a, b, c]) 0 = some a := fun _ _ _ => rfl
    have x1 : ∀ a b c : AV, extractA (.tup [a, b, c]) 1 = some b := fun _ _ _ => rfl
    have x2 : ∀ a b c : AV, extractA (.tup [a, b, c]) 2 = some c := fun _ _ _ => rfl
    simp only [x0, x1, x2, obs, lenA_sl, bin_gtr, cond_B]
    by_cases h2 : 200 < l.length
    · have em : minE l none nv = 2 := by unfold minE; rw [if_pos h2]
      rw [if_pos (by simp <;> omega)]
      rw [em] at e6 ⊢
      exact e6
    · rw [if_neg (by simp <;> omega)]
      have hld : ld false 1 (.ptr 0 0) H3 = some (B nv) := by rw [ld_box hN3]; rfl
      cases none with
      | true =>
        have em : minE l true nv = 8 := by unfold minE; rw [if_neg h2]; simp
        simp only [gd_B, Bool.true_eq_false, if_false, obs, pickA_B, if_true, cond_B]
        rw [em] at e6 ⊢
        exact e6
      | false =>
        simp only [gd_B, if_true, hld, obs, pickA_B, Bool.false_eq_true, if_false, cond_B]
        cases nv with
        | true =>
          have em : minE l false true = 8 := by unfold minE; rw [if_neg h2]; simp
          rw [if_pos rfl]
          rw [em] at e6 ⊢
          exact e6
        | false =>
          have em : minE l false false = 0 := by unfold minE; rw [if_neg h2]; simp
          rw [if_neg (by simp)]
          rw [em] at e6 ⊢
          exact e6
  rw [L12_29_eq]
  simp only [e1, obs, e2, oms]
  cases none with
  | true => exact back
  | false => exact back

theorem law (hK : Kn nl l) (hl : l.length < 2 ^ 43) (f t : Int) (none nv : Bool) : ∃ H', O.ent 12 [V nl tg l, I f, I t, B none, B nv] [] [] = some ([B true], H') := by
  have e1 : boxO [] (AV.cells (B nv)) [] = some (.ptr 0 0, [.box [B nv]]) := boxO_p [.v (.bool nv)] []
  obtain ⟨n', t', c⟩ := call49 (nl := nl) (tg := tg) (l := l) f t [] [.box [B nv]]
  have x0 : ∀ a b : AV, extractA (.tup [a, b]) 0 = some a := fun _ _ => rfl
  have x1 : ∀ a b : AV, extractA (.tup [a, b]) 1 = some b := fun _ _ => rfl
  rw [f12_eq, e1, obs, c, obs, x0, obs, x1, obs, lenA_sl, obs, bin_gtr, obs, cond_B]
  by_cases h2 : 200 < l.length
  · rw [if_pos (by simp <;> omega)]
    have e : wE l f t = 2 := by unfold wE; rw [if_pos h2]
    have e' : wL l f t = [] := by unfold wL; rw [if_neg (by omega)]
    rw [e, e']
    exact from29 hK (by simp) hl rfl (Lst.nil 1 _)
  · rw [if_neg (by simp <;> omega), chain (nl := nl) (tg := tg) (l := l), cond_B]
    by_cases hb : f < 0 ∨ t < f ∨ (l.length : Int) < t
    · rw [if_pos (by simpa using hb)]
      have e : wE l f t = 1 := by unfold wE; rw [if_neg h2, if_pos hb]
      have e' : wL l f t = [] := by unfold wL; rw [if_neg (by omega)]
      rw [e, e']
      exact from29 hK (by simp) hl rfl (Lst.nil 1 _)
    · rw [if_neg (by simpa using hb)]
      have e : wE l f t = 0 := by unfold wE; rw [if_neg h2, if_neg hb]
      have e' : wL l f t = wo l f.toNat t.toNat := by unfold wL; rw [if_pos e]
      obtain ⟨a, rfl⟩ : ∃ a : Nat, f = a := ⟨f.toNat, by omega⟩
      obtain ⟨b, rfl⟩ : ∃ b : Nat, t = b := ⟨t.toNat, by omega⟩
      rw [e, e']
      simp only [Int.toNat_natCast]
      obtain ⟨o', H', e2, r1, r2, r3⟩ := wantLoop (nl := nl) (tg := tg) (l := l) (nv := nv) (none := none) (a := a) (b := b) (va := V n' t' (wo l a b)) (H0 := []) (by omega) (by omega) (by omega) _ 0 (.p nilS) [.box [B nv]] [] rfl (by omega) rfl (fun j g n e => by cases e) (Lst.nil 1 _) (by simp)
      rw [List.nil_append, rest0] at r3
      rw [show (I 0) = I (0 : Nat) from rfl] at *
      rw [e2]
      exact from29 hK (by simp [wo]; omega) hl r1 r3

end
end Sma
end Go.Proofs.Ytangmjeafnkfaaa
