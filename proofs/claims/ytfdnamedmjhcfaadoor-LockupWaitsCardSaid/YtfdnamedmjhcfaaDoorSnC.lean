import Derived.Test.YtfdnamedmjhcfaaDoorSnB
/- Looking at a state: all threads, all of it. -/
set_option linter.unusedVariables false
set_option linter.unusedSimpArgs false
set_option maxRecDepth 100000
namespace Go.Proofs.YtfdnamedmjhcfaaDoor
open Go Go.AM
namespace Ir
abbrev Wl (nl : Option Bool) (l : List A_Thread) : AV := .p (.sl nl false l.length (l.flatMap enc_Thread))
theorem lv1I (b : Int) (lo : List Nat) (G : Heap) : leave 1 lo [I b] G = some ([I b], G) := rfl

theorem loop70 {inv : Heap → Prop} {Q : A_Thread → Prop} {nl : Option Bool} {l : List A_Thread} (hl : l.length < 2 ^ 63) {v1 : AV} {lo : List Nat} (h : ∀ t ∈ l, ∀ H, inv H → ∃ x H', callV cfg O v1 [thV t] lo H = some (B x, H') ∧ inv H' ∧ (x = false → Q t)) :
    ∀ (c i : Nat) (H : Heap), l.length - i = c → i ≤ l.length → inv H → ∃ r H', L70_6 [Wl nl l, v1, I l.length, I i] lo H = some ([I r], H') ∧ inv H' ∧ (r < 0 → ∀ j, i ≤ j → ∀ t, l[j]? = some t → Q t) := by
  intro c
  induction c with
  | zero =>
    intro i H hc hi hI
    have : i = l.length := by omega
    subst this
    refine ⟨-1, H, ?_, hI, fun _ j hj t ht => by have := getElem?_lt ht; omega⟩
    rw [L70_6_eq]
    simp only [Int.lt_irrefl, lv1I, core]
  | succ c ih =>
    intro i H hc hi hI
    have hj : i < l.length := by omega
    have hlt : (i : Int) < l.length := by omega
    have w : IntKind.i64.wrap ((i : Int) + 1) = ((i + 1 : Nat) : Int) := by rw [wrap_id (by omega), nxt]
    have x1 : idxA 5 (Wl nl l) (I i) = some (.fp (l.flatMap enc_Thread) (i * 5)) := idxR hj
    have x2 : ld true 5 (.fp (l.flatMap enc_Thread) (i * 5)) H = some (thV l[i]) := ldR len_Thread5 hj H
    obtain ⟨x, H', e, hI', hq⟩ := h l[i] (List.getElem_mem hj) H hI
    rw [L70_6_eq]
    cases x with
    | true =>
      refine ⟨i, H', ?_, hI', fun h => by omega⟩
      simp only [hlt, x1, x2, e, lv1I, core]
    | false =>
      obtain ⟨r, H2, e2, hI2, hq2⟩ := ih (i + 1) H' (by omega) (by omega) hI'
      refine ⟨r, H2, ?_, hI2, fun hr j h1 t ht => ?_⟩
      · simp only [hlt, x1, x2, e, w, core]
        exact e2
      · by_cases e : j = i
        · subst e
          rw [List.getElem?_eq_getElem hj] at ht
          cases ht
          exact hq rfl
        · exact hq2 hr j (by omega) t ht
theorem call26 {inv : Heap → Prop} {Q : A_Thread → Prop} {nl : Option Bool} {l : List A_Thread} (hl : l.length < 2 ^ 63) {v1 : AV} {lo : List Nat} (h : ∀ t ∈ l, ∀ H, inv H → ∃ x H', callV cfg O v1 [thV t] lo H = some (B x, H') ∧ inv H' ∧ (x = false → Q t)) (H : Heap) (hI : inv H) :
    ∃ x H', callA cfg O 26 [Wl nl l, v1] lo H = some (B x, H') ∧ inv H' ∧ (x = false → ∀ t ∈ l, Q t) := by
  have m26 : cfg.mode 26 = 1 := rfl
  have m70 : cfg.mode 70 = 1 := rfl
  obtain ⟨r, H', e, hI', hq⟩ := loop70 (nl := nl) hl h l.length 0 H rfl (by omega) hI
  have c70 : callA cfg O 70 [Wl nl l, v1] lo H = some (I r, H') := callA_keep m70 (rs := [I r]) (by rw [f70_eq]; simp only [core]; exact e)
  refine ⟨decide (0 ≤ r), H', callA_keep m26 (rs := [B (decide (0 ≤ r))]) ?_, hI', fun h t ht => ?_⟩
  · rw [f26_eq]
    simp only [c70, lv1, core]
  · obtain ⟨j, hj, rfl⟩ := List.getElem_of_mem ht
    exact hq (by have := of_decide_eq_false h; omega) j (by omega) _ (List.getElem?_eq_getElem hj)

theorem cV27 (t : A_Thread) (lo : List Nat) (H : Heap) : callV cfg O (.fn 27 [] []) [thV t] lo H = some (B (decide ((30 : Int) < t.1.2.length)), H) := by
  show callA cfg O 27 [thV t] lo H = _
  refine callA_same (rs := [B (decide ((30 : Int) < t.1.2.length))]) rfl ?_
  have hx : ∀ j, ld false 1 (.ptr H.length j) (H ++ [.box ((enc_Thread t).map .p)]) = ((enc_Thread t)[j]?).map .p := fun j => ldB _ _ _ _
  rw [f27_eq]
  simp only [boxAgg, Nat.zero_add, hx, th0, core]
  exact cut3 _ lo H _

section
variable {lb sb mid r : Nat} {p : A_Prog} {s : A_State} {n1 n2 : Option Bool} {t1 t2 : Bool} {xs ys : List PV} {H : Heap}

theorem cV74 (hA : AllT p p.1.2.length xs ys) (hp : PgR p) (h1 : lb ≠ mid) (h2 : sb ≠ mid) (hz : SSz s) (t : A_Thread) (hl : t.1.2.length < 2 ^ 62) (hf : ∀ f ∈ t.1.2, FSz f) (lo : List Nat) (hL : Lk lb sb mid p s n1 t1 xs n2 t2 ys H) (hG : Gn mid H) (hr : Pt r lb H) :
    ∃ x H', callV cfg O (.fn 74 [] [.ptr r 0]) [thV t] lo H = some (B x, H') ∧ Kp mid H H' ∧ Gn mid H' ∧ (x = false → ThR p s t) := by
  show ∃ x H', callA cfg O 74 [thV t, .ptr r 0] lo H = _ ∧ _
  have ha : ld true 5 (.ptr H.length 0) (H ++ [.box ((enc_Thread t).map .p)]) = some (thV t) := ldA (len_Thread5 t) (by decide) H
  obtain ⟨x, H', e, k, g, q⟩ := call75 hA hp h1 h2 hz t hl hf lo (hL.push [.box ((enc_Thread t).map .p)]) (hG.push [.box ((enc_Thread t).map .p)])
  have m74 : cfg.mode 74 = 1 := rfl
  refine ⟨!x, H', callA_keep m74 (rs := [B (!x)]) ?_, (Kp.push mid H [.box ((enc_Thread t).map .p)]).trans k, g, fun h => q (by cases x with | true => rfl | false => cases h)⟩
  rw [f74_eq]
  simp only [boxAgg, ha, (hr.push _).ld, e, lv1, core]

theorem loop29 (h1 : lb ≠ mid) (h2 : sb ≠ mid) (hrm : r ≠ mid) (lo : List Nat) (hcl : s.1.2.length < 2 ^ 62) : ∀ (c i : Nat) (H : Heap), s.1.2.length - i = c → i ≤ s.1.2.length → Lk lb sb mid p s n1 t1 xs n2 t2 ys H → Gn mid H → Pt r lb H →
    ∃ x H', L29_16 [.ptr r 0, Cs s, I s.1.2.length, I i] lo H = some ([B x], H') := by
  intro c
  induction c with
  | zero =>
    intro i H hc hi hL hG hr
    have : i = s.1.2.length := by omega
    subst this
    refine ⟨true, H, ?_⟩
    rw [L29_16_eq]
    simp only [Int.lt_irrefl, lv1, core]
  | succ c ih =>
    intro i H hc hi hL hG hr
    have hj : i < s.1.2.length := by omega
    have hlt : (i : Int) < s.1.2.length := by omega
    have w : IntKind.i64.wrap ((i : Int) + 1) = ((i + 1 : Nat) : Int) := by rw [wrap_id (by omega), nxt]
    obtain ⟨q, hq⟩ : ∃ q, s.1.2[i] = q := ⟨_, rfl⟩
    have x1 : idxA 4 (Cs s) (I i) = some (.fp (s.1.2.flatMap enc_Cell) (i * 4)) := idxR hj
    have x2 : ld true 4 (.fp (s.1.2.flatMap enc_Cell) (i * 4)) H = some (clV q) := by rw [ldR len_Cell4 hj H, hq]
    have b1 : boxO [] [I 0, I 0, .p nilS, .p nilS] H = some (.ptr H.length 0, H ++ [.box (zCe.map .p)]) := boxO_p zCe H
    have s1 : stA 4 (.ptr H.length 0) (clV q) lo (H ++ [.box (zCe.map .p)]) = some (H ++ [.box ((enc_Cell q).map .p)]) := stA_new rfl rfl (by decide)
    have hx : ∀ j, ld false 1 (.ptr H.length j) (H ++ [.box ((enc_Cell q).map .p)]) = ((enc_Cell q)[j]?).map .p := fun j => ldB _ _ _ _
    have hL1 := hL.push [.box ((enc_Cell q).map .p)]
    have hG1 := hG.push [.box ((enc_Cell q).map .p)]
    have hr1 := hr.push [.box ((enc_Cell q).map .p)]
    obtain ⟨x, H', e⟩ := ih (i + 1) _ (by omega) (by omega) hL1 hG1 hr1
    rw [L29_16_eq]
    by_cases k5 : q.1 = 5
    · by_cases g1 : q.2.1 = 1
      · obtain ⟨z, hz⟩ := hG1.look (i : Int)
        by_cases z0 : z = 0
        · refine ⟨false, H ++ [.box ((enc_Cell q).map .p)], ?_⟩
          simp only [hlt, x1, x2, b1, s1, Nat.zero_add, hx, fo0, fo1, k5, g1, hr1.ld, nilP, hL1.l6, hz, z0, lv1, core]
        · refine ⟨x, H', ?_⟩
          simp only [hlt, x1, x2, b1, s1, Nat.zero_add, hx, fo0, fo1, k5, g1, hr1.ld, nilP, hL1.l6, hz, z0, w, core]
          exact e
      · refine ⟨x, H', ?_⟩
        simp only [hlt, x1, x2, b1, s1, Nat.zero_add, hx, fo0, fo1, k5, g1, w, core]
        exact e
    · refine ⟨x, H', ?_⟩
      simp only [hlt, x1, x2, b1, s1, Nat.zero_add, hx, fo0, k5, w, core]
      exact e

theorem call29 (hA : AllT p p.1.2.length xs ys) (hp : PgR p) (h1 : lb ≠ mid) (h2 : sb ≠ mid) (hz : SSz s) (hR : StR s) (hpt : p.2.2.2.length < 2 ^ 63) (h30 : ∀ t ∈ s.2.2.2.1.2, t.1.2.length ≤ 30) (hm : mid < H.length) (lo : List Nat) (hL : Lk lb sb mid p s n1 t1 xs n2 t2 ys H) (hG : Gn mid H) :
    ∃ x H', callA cfg O 29 [.ptr lb 0] lo H = some (B x, H') ∧ (x = true → 0 < s.2.2.2.1.2.length ∧ ∀ t ∈ s.2.2.2.1.2, ThR p s t) := by
  have m29 : cfg.mode 29 = 1 := rfl
  suffices hs : ∃ x H', O.ent 29 [.ptr lb 0] lo H = some ([B x], H') ∧ (x = true → 0 < s.2.2.2.1.2.length ∧ ∀ t ∈ s.2.2.2.1.2, ThR p s t) from by
    obtain ⟨x, H', e, q⟩ := hs
    exact ⟨x, H', callA_keep m29 (rs := [B x]) e, q⟩
  have b1 : boxO [] (AV.cells (.ptr lb 0)) H = some (.ptr H.length 0, H ++ [.box [.ptr lb 0]]) := rfl
  have hr : Pt H.length lb (H ++ [.box [.ptr lb 0]]) := by unfold Pt; simp
  have hL1 := hL.push [.box [.ptr lb 0]]
  have hG1 := hG.push [.box [.ptr lb 0]]
  rw [f29_eq, b1]
  by_cases c1 : (s.2.2.1.2.length : Int) < p.2.2.2.length
  · refine ⟨false, H ++ [.box [.ptr lb 0]], ?_, fun h => by cases h⟩
    simp only [hr.ld, nilP, Nat.zero_add, Nat.add_zero, hL1.l2, hL1.l3, hL1.st.s2, c1, lv1, core]
  have hcut : cutA 1 (Ts s) none (some (I p.2.2.2.length)) none (H ++ [.box [.ptr lb 0]]) = some (SV s.2.2.1.1 (false && decide ((p.2.2.2.length : Int) = s.2.2.1.2.length)) (s.2.2.1.2.take p.2.2.2.length)) := by
    rw [cutA_hi (by omega), Int.toNat_natCast, Nat.mul_one, ← List.map_take]
    show _ = some (AV.p (.sl s.2.2.1.1 _ (s.2.2.1.2.take p.2.2.2.length).length _))
    rw [List.length_take, Nat.min_eq_left (by omega)]
  obtain ⟨b, e93⟩ := call93 (n1 := s.2.2.1.1) (t1 := false && decide ((p.2.2.2.length : Int) = s.2.2.1.2.length)) (n2 := p.2.2.1) (t2 := false) (s.2.2.1.2.take p.2.2.2.length) p.2.2.2 (by rw [List.length_take]; omega) lo (H ++ [.box [.ptr lb 0]])
  cases b with
  | false =>
    refine ⟨false, H ++ [.box [.ptr lb 0]], ?_, fun h => by cases h⟩
    simp only [hr.ld, nilP, Nat.zero_add, Nat.add_zero, hL1.l2, hL1.l3, hL1.st.s2, c1, hcut, e93, lv1, core]
  | true =>
  cases w1 : wi s.2.2.2.2.2.2.2 0 1000000000 with
  | false =>
    refine ⟨false, H ++ [.box [.ptr lb 0]], ?_, fun h => by cases h⟩
    simp only [hr.ld, nilP, Nat.zero_add, Nat.add_zero, hL1.l2, hL1.l3, hL1.st.s2, hL1.st.s7, c1, hcut, e93, call71w, w1, lv1, core]
  | true =>
  cases w2 : wi s.2.2.2.2.2.2.1 0 1000000000 with
  | false =>
    refine ⟨false, H ++ [.box [.ptr lb 0]], ?_, fun h => by cases h⟩
    simp only [hr.ld, nilP, Nat.zero_add, Nat.add_zero, hL1.l2, hL1.l3, hL1.st.s2, hL1.st.s6, hL1.st.s7, c1, hcut, e93, call71w, w1, w2, lv1, core]
  | true =>
  by_cases c2 : (s.2.2.2.1.2.length : Int) = 0
  · refine ⟨false, H ++ [.box [.ptr lb 0]], ?_, fun h => by cases h⟩
    simp only [hr.ld, nilP, Nat.zero_add, Nat.add_zero, hL1.l2, hL1.l3, hL1.st.s2, hL1.st.s3, hL1.st.s6, hL1.st.s7, c1, hcut, e93, call71w, w1, w2, c2, lv1, core]
  have hcf : ∀ c ∈ s.1.2, ∀ f ∈ c.2.2.2.2, FSz f := fun c hc f hf => (hz.cfr c hc).2.2 f hf
  obtain ⟨u, eu, _⟩ := callCP hz.cells (lenA_sl _ _ _ _) (askedE (Q := fun _ => True) (nl := s.1.1) (l := s.1.2) len_Cell4 (v1 := .fn 72 [] [.ptr H.length 0]) (H := H ++ [.box [.ptr lb 0]]) fun c hc lo => (cV72 hA hp hL1 hr c (hR.right c hc) (hcf c hc) lo).imp fun x h => ⟨h, fun _ => trivial⟩) lo
  cases u with
  | true =>
    refine ⟨false, H ++ [.box [.ptr lb 0]], ?_, fun h => by cases h⟩
    simp only [hr.ld, nilP, Nat.zero_add, Nat.add_zero, hL1.l2, hL1.l3, hL1.st.s0, hL1.st.s2, hL1.st.s3, hL1.st.s6, hL1.st.s7, c1, hcut, e93, call71w, w1, w2, c2, eu, lv1, core]
  | false =>
  have hrm : H.length ≠ mid := by omega
  obtain ⟨v, H2, ev, ⟨i1, i2, i3⟩, hq⟩ := call26 (inv := fun G => Lk lb sb mid p s n1 t1 xs n2 t2 ys G ∧ Gn mid G ∧ Pt H.length lb G) (Q := ThR p s) (nl := s.2.2.2.1.1) (l := s.2.2.2.1.2) (v1 := .fn 74 [] [.ptr H.length 0]) (lo := lo) hz.threads (fun t ht G ⟨a1, a2, a3⟩ => by
    obtain ⟨x, G', e, k, g, q⟩ := cV74 hA hp h1 h2 hz t (by have := h30 t ht; omega) (fun f hf => (hz.thr t ht).2 f hf) lo a1 a2 a3
    exact ⟨x, G', e, ⟨a1.kp k h1 h2, g, k.2 _ _ hrm a3⟩, q⟩) (H ++ [.box [.ptr lb 0]]) ⟨hL1, hG1, hr⟩
  cases v with
  | true =>
    refine ⟨false, H2, ?_, fun h => by cases h⟩
    simp only [hr.ld, nilP, Nat.zero_add, Nat.add_zero, hL1.l2, hL1.l3, hL1.st.s0, hL1.st.s2, hL1.st.s3, hL1.st.s6, hL1.st.s7, c1, hcut, e93, call71w, w1, w2, c2, eu, ev, lv1, core]
  | false =>
    obtain ⟨x, H3, e3⟩ := loop29 (r := H.length) h1 h2 hrm lo (by have := hR.cells; omega) s.1.2.length 0 H2 rfl (by omega) i1 i2 i3
    refine ⟨x, H3, ?_, fun _ => ⟨by omega, hq rfl⟩⟩
    simp only [hr.ld, nilP, Nat.zero_add, Nat.add_zero, hL1.l2, hL1.l3, hL1.st.s0, hL1.st.s2, hL1.st.s3, hL1.st.s6, hL1.st.s7, c1, hcut, e93, call71w, w1, w2, c2, eu, ev, i3.ld, i1.l3, i1.st.s0, core]
    exact e3
end
end Ir
end Go.Proofs.YtfdnamedmjhcfaaDoor

/- state.Check is total. -/
set_option linter.unusedVariables false
set_option linter.unusedSimpArgs false
set_option maxRecDepth 100000
namespace Go.Proofs.YtfdnamedmjhcfaaDoor
open Go Go.AM
namespace Ir

theorem len_State8 (s : A_State) : (enc_State s).length = 8 := rfl
/-- What is known of a right state of a right program. -/
structure RightS (p : A_Prog) (s : A_State) : Prop where
  prog : PgR p
  cells : StR s
  pos : 0 < s.2.2.2.1.2.length
  few : s.2.2.2.1.2.length ≤ 5
  deep : ∀ t ∈ s.2.2.2.1.2, t.1.2.length ≤ 30
  each : ∀ t ∈ s.2.2.2.1.2, ThR p s t

theorem callSt (p : A_Prog) (s : A_State) (hp : POk2 p) (hz : SSz s) : ∃ c e : Int, (∀ lo H, callA cfg O 7 [pgV p] lo H = some (I c, H)) ∧ (∀ lo H, callA cfg O 9 [pgV p, stV s] lo H = some (I e, H)) ∧ (c ≠ 0 → e = c) ∧ (e = 0 → RightS p s) := by
  obtain ⟨c, hc, e7⟩ := callChk p hp
  obtain ⟨d, hd, e25⟩ := call25 hz
  suffices h : ∃ e : Int, O.ent 9 [pgV p, stV s] [] [] = some ([I e], []) ∧ (c ≠ 0 → e = c) ∧ (e = 0 → RightS p s) from by
    obtain ⟨e, h1, h2, h3⟩ := h
    exact ⟨c, e, e7, fun lo H => callA_args (rs := [I e]) rfl (pureArgsC (pureAgg _ _) (pureArgs1 (pureAgg _ _))) h1 rfl, h2, h3⟩
  have b1 : boxO [] (AV.cells (.agg ((enc_Prog p).map .p))) [] = some (.ptr 0 0, [.box ((enc_Prog p).map .p)]) := boxAgg0 _
  have b2 : boxO [] (AV.cells (.agg ((enc_State s).map .p))) [.box ((enc_Prog p).map .p)] = some (.ptr 1 0, [.box ((enc_Prog p).map .p), .box ((enc_State s).map .p)]) := boxAgg _ [.box ((enc_Prog p).map .p)]
  have lp : ∀ l, ld true 3 (.ptr 0 0) (.box ((enc_Prog p).map .p) :: l) = some (pgV p) := fun l => by
    rw [ldAgg_box (xs := (enc_Prog p).map .p) rfl (by rw [List.length_map, len_Prog3]; decide) (by rw [List.length_map, len_Prog3]; decide)]; rfl
  have ls : ld true 8 (.ptr 1 0) [.box ((enc_Prog p).map .p), .box ((enc_State s).map .p)] = some (stV s) := by
    rw [ldAgg_box (xs := (enc_State s).map .p) rfl (by rw [List.length_map, len_State8]; decide) (by rw [List.length_map, len_State8]; decide)]; rfl
  have ha : At 1 s [.box ((enc_Prog p).map .p), .box ((enc_State s).map .p)] := rfl
  have lf : ∀ (z : Int) (G : Heap), leave 0 [] [I z] G = some ([I z], []) := fun _ _ => rfl
  rw [f9_eq, b1]
  simp only [core]
  rw [b2]
  simp only [core, lp, e7]
  by_cases c0 : c = 0
  rotate_left
  · refine ⟨c, ?_, fun _ => rfl, fun h => absurd h c0⟩
    simp only [c0, lf, core]
  obtain ⟨q1, q2, q3⟩ := hc c0
  have hP : PgR p := ⟨q1, q2, q3⟩
  by_cases d0 : d = 0
  rotate_left
  · refine ⟨d, ?_, fun h => absurd c0 h, fun h => absurd h d0⟩
    simp only [c0, ls, e25, d0, lf, core]
  have hR := hd d0
  by_cases f5 : (5 : Int) < s.2.2.2.1.2.length
  · refine ⟨2, ?_, fun h => absurd c0 h, fun h => by omega⟩
    simp only [c0, ls, e25, d0, Nat.zero_add, ha.s3, f5, lf, core]
  obtain ⟨u, H2, eu, rfl, hu⟩ := call26 (inv := fun G => G = [.box ((enc_Prog p).map .p), .box ((enc_State s).map .p)]) (Q := fun t => t.1.2.length ≤ 30) (nl := s.2.2.2.1.1) (l := s.2.2.2.1.2) (v1 := .fn 27 [] []) (lo := []) hz.threads (fun t ht G hG => ⟨_, G, cV27 t [] G, hG, fun h => by have := of_decide_eq_false h; omega⟩) _ rfl
  cases u with
  | true =>
    refine ⟨2, ?_, fun h => absurd c0 h, fun h => by omega⟩
    simp only [c0, ls, e25, d0, Nat.zero_add, ha.s3, f5, eu, lf, core]
  | false =>
  have h30 := hu rfl
  have hm : mkMap [.box ((enc_Prog p).map .p), .box ((enc_State s).map .p)] = (.mp 2, [.box ((enc_Prog p).map .p), .box ((enc_State s).map .p), mapObj (fun n : Int => I n) ([] : List (Kv Int)) 0]) := rfl
  have hbd : buildA [(.p nilS), (.p nilS), (.p nilS), (.p (.v (.pointer none))), (.p nilS), (.p nilS), (.p (.v (.map none)))] [(0, 3, pgV p), (3, 1, .ptr 1 0), (6, 1, .mp 2)] = some (.agg (lkB p 1 2 nilS nilS)) := rfl
  have hbx : ∀ o1 o2 o3 : AObj, boxO [] (AV.cells (.agg (lkB p 1 2 nilS nilS))) [o1, o2, o3] = some (.ptr 3 0, [o1, o2, o3, .box (lkB p 1 2 nilS nilS)]) := fun _ _ _ => rfl
  obtain ⟨n1, t1, n2, t2, xs, ys, e28, hA⟩ := call28 p hP [] [.box ((enc_Prog p).map .p), .box ((enc_State s).map .p), mapObj (fun n : Int => I n) ([] : List (Kv Int)) 0, .box (lkB p 1 2 nilS nilS)]
  have s4 : ∀ o1 o2 o3 : AObj, stA 1 (.ptr 3 4) (.p (.sl n1 t1 p.1.2.length xs)) [] [o1, o2, o3, .box (lkB p 1 2 nilS nilS)] = some [o1, o2, o3, .box (lkB p 1 2 (.sl n1 t1 p.1.2.length xs) nilS)] := fun _ _ _ => rfl
  have s5 : ∀ o1 o2 o3 : AObj, stA 1 (.ptr 3 5) (.p (.sl n2 t2 p.1.2.length ys)) [] [o1, o2, o3, .box (lkB p 1 2 (.sl n1 t1 p.1.2.length xs) nilS)] = some [o1, o2, o3, .box (lkB p 1 2 (.sl n1 t1 p.1.2.length xs) (.sl n2 t2 p.1.2.length ys))] := fun _ _ _ => rfl
  have hL : Lk 3 1 2 p s n1 t1 xs n2 t2 ys [.box ((enc_Prog p).map .p), .box ((enc_State s).map .p), mapObj (fun n : Int => I n) ([] : List (Kv Int)) 0, .box (lkB p 1 2 (.sl n1 t1 p.1.2.length xs) (.sl n2 t2 p.1.2.length ys))] := ⟨rfl, rfl⟩
  have hG : Gn 2 [.box ((enc_Prog p).map .p), .box ((enc_State s).map .p), mapObj (fun n : Int => I n) ([] : List (Kv Int)) 0, .box (lkB p 1 2 (.sl n1 t1 p.1.2.length xs) (.sl n2 t2 p.1.2.length ys))] := ⟨[], 0, rfl, WfM.nil, fun q => .inl rfl⟩
  obtain ⟨x, H3, e29, hx⟩ := call29 hA hP (by decide) (by decide) hz hR hp.texts h30 (by show 2 < 4; decide) [] hL hG
  cases x with
  | false =>
    refine ⟨3, ?_, fun h => absurd c0 h, fun h => by omega⟩
    simp only [c0, ls, e25, d0, Nat.zero_add, ha.s3, f5, eu, lp, hm, hbd, hbx, e28, nilP, s4, s5, e29, lf, core]
  | true =>
    have hxx := hx rfl
    refine ⟨0, ?_, fun h => absurd c0 h, fun _ => ⟨hP, hR, hxx.1, by omega, h30, hxx.2⟩⟩
    simp only [c0, ls, e25, d0, Nat.zero_add, ha.s3, f5, eu, lp, hm, hbd, hbx, e28, nilP, s4, s5, e29, lf, core]
end Ir
end Go.Proofs.YtfdnamedmjhcfaaDoor

/- Who waits: the program's list and the document's; no empty program is right. -/
set_option linter.unusedVariables false
set_option linter.unusedSimpArgs false
set_option maxRecDepth 100000
namespace Go.Proofs.YtfdnamedmjhcfaaDoor
open Go Go.AM
namespace Ir

/-! ### The empty program -/
theorem words_pos : 0 < words.length := by
  have : (decide (0 < words.length)) = true := by kernel_rfl
  exact of_decide_eq_true this
abbrev nil3 : List PV := [nilS, nilS, nilS]
theorem chk0 : ∃ e : Int, e ≠ 0 ∧ ∀ (lo : List Nat) (H : Heap), callA cfg O 7 [.agg (nil3.map .p)] lo H = some (I e, H) := by
  suffices h : ∃ e : Int, e ≠ 0 ∧ O.ent 7 [.agg (nil3.map .p)] [] [] = some ([I e], []) from by
    obtain ⟨e, h0, h⟩ := h
    exact ⟨e, h0, fun lo H => callA_args (rs := [I e]) rfl (pureArgs1 (pureAgg _ _)) h rfl⟩
  have x2 : ld true 3 (.ptr 0 0) [.box (nil3.map .p)] = some (.agg (nil3.map .p)) := ldA0 (xs := nil3) rfl (by decide)
  have n0 : (nil3)[0]? = some nilS := rfl
  have n1 : (nil3)[1]? = some nilS := rfl
  have n2 : (nil3)[2]? = some nilS := rfl
  have hl : ∀ H : Heap, lenA .slice (.p nilS) H = some (I ((0 : Nat) : Int)) := fun _ => rfl
  have a1 : Asked false 1 (.p nilS) (.fn 46 [] []) 0 [.box (nil3.map .p)] := fun i hi => by omega
  have a2 : Asked true 5 (.p nilS) (.fn 47 [] []) 0 [.box (nil3.map .p)] := fun i hi => by omega
  obtain ⟨b1, e1⟩ := call89 (by omega) (hl _) a1 []
  obtain ⟨b2, e2⟩ := call45 (by omega) (hl _) a2 []
  have c20 : ∃ b, ∀ lo H, callA cfg O 20 [.agg (nil3.map .p)] lo H = some (B b, H) := by
    suffices h : ∃ b, O.ent 20 [.agg (nil3.map .p)] [] [] = some ([B b], []) from h.imp fun b h lo H => callA_args (rs := [B b]) rfl (pureArgs1 (pureAgg _ _)) h rfl
    rw [f20_eq]
    cases b1 with
    | true =>
      refine ⟨true, ?_⟩
      simp only [boxAgg0, ldB0, n0, n1, n2, Nat.zero_add, hl, Int.natCast_zero, show ¬ (60 : Int) < 0 by omega, show ¬ (200 : Int) < 0 by omega, e1, core, leave0_B]
    | false =>
      refine ⟨b2, ?_⟩
      simp only [boxAgg0, ldB0, n0, n1, n2, Nat.zero_add, hl, Int.natCast_zero, show ¬ (60 : Int) < 0 by omega, show ¬ (200 : Int) < 0 by omega, e1, e2, core, leave0_B]
  obtain ⟨b, e20⟩ := c20
  have c21 : ∀ lo H, callA cfg O 21 [.agg (nil3.map .p)] lo H = some (B false, H) := fun lo H => by
    refine callA_args (rs := [B false]) rfl (pureArgs1 (pureAgg _ _)) (H' := []) ?_ rfl
    have hw : (0 : Int) < words.length := by have := words_pos; omega
    rw [f21_eq]
    simp only [boxAgg0, ldB0, n2, Nat.zero_add, call92, hl, Int.natCast_zero, hw, core, leave0_B]
  rw [f7_eq]
  cases b with
  | true =>
    refine ⟨2, by omega, ?_⟩
    simp only [boxAgg0, x2, e20, core, leave0_I]
  | false =>
    refine ⟨3, by omega, ?_⟩
    simp only [boxAgg0, x2, e20, c21, core, leave0_I]

/-! ### The waits -/
abbrev W3 := Int × Int × Int
def encW (q : W3) : List PV := [Ia q.1, Ia q.2.1, Ia q.2.2]
theorem len_W (q : W3) : (encW q).length = 3 := rfl
def zT : A_Thread := ((none, []), 0, 0, 0, 0)
def numC (s : A_State) (n : Int) : Int := ((cL s).getD n.toNat zC).2.1
def wait (s : A_State) (i : Nat) : List W3 :=
  if (s.2.2.2.1.2.getD i zT).2.1 = 2 then [((i : Int), (s.2.2.2.1.2.getD i zT).2.2.1, -1)]
  else if (s.2.2.2.1.2.getD i zT).2.1 = 1 ∧ numC s (s.2.2.2.1.2.getD i zT).2.2.1 ≠ -1 then [((i : Int), numC s (s.2.2.2.1.2.getD i zT).2.2.1, (s.2.2.2.1.2.getD i zT).2.2.1)] else []
def waits (s : A_State) : Nat → List W3
  | 0 => []
  | k + 1 => waits s k ++ wait s k
theorem wait_len (s : A_State) (i : Nat) : (wait s i).length ≤ 1 := by
  unfold wait
  split
  · simp
  · split <;> simp
theorem waits_len (s : A_State) : ∀ k, (waits s k).length ≤ k
  | 0 => by simp [waits]
  | k + 1 => by
    have := waits_len s k
    have := wait_len s k
    rw [waits, List.length_append]
    omega

section
variable {b r : Nat} {p : A_Prog} {s : A_State} {H : Heap}
theorem bd3 (x y z : Int) : buildA [(I 0), (I 0), (I 0)] [(0, 1, I x), (1, 1, I y), (2, 1, I z)] = some (.agg ((encW (x, y, z)).map .p)) := rfl
theorem lt3 (q : W3) (H : Heap) : litA false 3 [.agg ((encW q).map .p)] H = some (.p (.sl (some false) true 1 (encW q)), H) := rfl
theorem app3 {o : AV} {l : List W3} (h : Cx H [(b, .box ((enc_State s).map .p))] [(o, 3, l.length, l.flatMap encW)]) (hl : l.length ≤ 100) (q : W3) :
    ∃ o' H', appA 3 24 o (.p (.sl (some false) true 1 (encW q))) H = some (o', H') ∧ Cx H' [(b, .box ((enc_State s).map .p))] [(o', 3, (l ++ [q]).length, (l ++ [q]).flatMap encW)] := by
  obtain ⟨o', H', e, h', _⟩ := h.app (bytes := 24) (y := .p (.sl (some false) true 1 (encW q))) (k := 1) (new := encW q) [] (by simp [cellsA, len_W]) rfl (by omega) (by simp only [room]; omega)
  exact ⟨o', H', e, by simpa using h'⟩

theorem boxT (H : Heap) : boxO [] [.p nilS, I 0, I 0, I 0, I 0] H = some (.ptr H.length 0, H ++ [.box ([nilS, Ia 0, Ia 0, Ia 0, Ia 0].map .p)]) := boxO_p [nilS, Ia 0, Ia 0, Ia 0, Ia 0] H
theorem stT (t : A_Thread) (lo : List Nat) (H : Heap) : stA 5 (.ptr H.length 0) (thV t) lo (H ++ [.box ([nilS, Ia 0, Ia 0, Ia 0, Ia 0].map .p)]) = some (H ++ [.box ((enc_Thread t).map .p)]) := stA_new rfl rfl (by decide)
theorem ldNum {n : Int} (h : 0 ≤ n ∧ n < (cL s).length) (H : Heap) : ld false 1 (.fp ((cL s).flatMap enc_Cell) (n.toNat * 4 + 1)) H = some (I (numC s n)) := by
  have hv : n.toNat < (cL s).length := by omega
  rw [fldR len_Cell4 hv (show 1 < 4 by decide)]
  unfold numC
  rw [List.getD_eq_getElem?_getD, List.getElem?_eq_getElem hv]
  rfl
theorem okC_in {k : Int} {n : Int} (h : okC s (5, n) k = true) : (0 ≤ n ∧ n < (cL s).length) ∧ ((cL s).getD n.toNat zC).1 = k := by
  unfold okC at h
  simp only [Bool.and_eq_true, decide_eq_true_eq] at h
  exact ⟨⟨h.2.1, h.2.2.1⟩, h.2.2.2⟩
theorem num_ge (hR : RightS p s) {n : Int} (h : okC s (5, n) 6 = true) : -1 ≤ numC s n := by
  obtain ⟨⟨h1, h2⟩, h3⟩ := okC_in h
  have hv : n.toNat < (cL s).length := by omega
  have e : (cL s).getD n.toNat zC = (cL s)[n.toNat] := by rw [List.getD_eq_getElem?_getD, List.getElem?_eq_getElem hv]; rfl
  have := (hR.cells.right _ (List.getElem_mem hv)).lock (by rw [← e]; exact h3)
  unfold numC
  rw [e]
  exact this

theorem loop8 (hR : RightS p s) : ∀ (c i : Nat) (o : AV) (H : Heap), s.2.2.2.1.2.length - i = c → i ≤ s.2.2.2.1.2.length → Cx H [(1, .box ((enc_State s).map .p))] [(o, 3, (waits s i).length, (waits s i).flatMap encW)] →
    ∃ nl tg, L8_14 [.ptr 1 0, o, Ws s, I s.2.2.2.1.2.length, I i] [] H = some ([.p (.sl nl tg (waits s s.2.2.2.1.2.length).length ((waits s s.2.2.2.1.2.length).flatMap encW)), I 0], []) := by
  intro c
  induction c with
  | zero =>
    intro i o H hc hi hC
    have : i = s.2.2.2.1.2.length := by omega
    subst this
    obtain ⟨nl, tg, H', e⟩ := hC.hd.leave2 [] (Ia 0)
    have hh : H' = [] := leave0_heap e
    subst hh
    refine ⟨nl, tg, ?_⟩
    rw [L8_14_eq]
    simp only [Int.lt_irrefl, core]
    exact e
  | succ c ih =>
    intro i o H hc hi hC
    have hj : i < s.2.2.2.1.2.length := by omega
    have hlt : (i : Int) < s.2.2.2.1.2.length := by omega
    have w : IntKind.i64.wrap ((i : Int) + 1) = ((i + 1 : Nat) : Int) := by have := hR.few; rw [wrap_id (by omega), nxt]
    obtain ⟨t, ht⟩ : ∃ t, s.2.2.2.1.2.getD i zT = t := ⟨_, rfl⟩
    have hte : s.2.2.2.1.2[i] = t := by rw [← ht, List.getD_eq_getElem?_getD, List.getElem?_eq_getElem hj]; rfl
    have hT := hR.each t (hte ▸ List.getElem_mem hj)
    have x1 : idxA 5 (Ws s) (I i) = some (.fp (s.2.2.2.1.2.flatMap enc_Thread) (i * 5)) := idxR hj
    have x2 : ld true 5 (.fp (s.2.2.2.1.2.flatMap enc_Thread) (i * 5)) H = some (thV t) := by rw [ldR len_Thread5 hj H, hte]
    have hx : ∀ j, ld false 1 (.ptr H.length j) (H ++ [.box ((enc_Thread t).map .p)]) = ((enc_Thread t)[j]?).map .p := fun j => ldB _ _ _ _
    have hC1 := hC.push [.box ((enc_Thread t).map .p)]
    have hAt : At 1 s (H ++ [.box ((enc_Thread t).map .p)]) := hC1.at (by simp)
    have hwl := waits_len s i
    have hfew := hR.few
    have step : ∀ (o' : AV) (G : Heap), Cx G [(1, .box ((enc_State s).map .p))] [(o', 3, (waits s (i + 1)).length, (waits s (i + 1)).flatMap encW)] →
        ∃ nl tg, L8_27 [.ptr 1 0, o', Ws s, I s.2.2.2.1.2.length, I i] [] G = some ([.p (.sl nl tg (waits s s.2.2.2.1.2.length).length ((waits s s.2.2.2.1.2.length).flatMap encW)), I 0], []) := fun o' G hG => by
      obtain ⟨nl, tg, e⟩ := ih (i + 1) o' G (by omega) (by omega) hG
      refine ⟨nl, tg, ?_⟩
      rw [L8_27_eq]
      simp only [w, core]
      exact e
    rw [L8_14_eq]
    by_cases k2 : t.2.1 = 2
    · have hw : waits s (i + 1) = waits s i ++ [((i : Int), t.2.2.1, -1)] := by rw [waits, wait, ht, if_pos k2]
      obtain ⟨o', G, e, hG⟩ := app3 hC1 (by omega) ((i : Int), t.2.2.1, -1)
      rw [← hw] at hG
      simp only [hlt, x1, x2, boxT, stT, Nat.zero_add, hx, th1, th2, k2, bd3, lt3, e, core]
      exact step o' G hG
    by_cases k1 : t.2.1 = 1
    · have hok := hT.lock k1
      obtain ⟨hin, _⟩ := okC_in hok
      have hge := num_ge hR hok
      have ln := ldNum hin (H ++ [.box ((enc_Thread t).map .p)])
      by_cases n0 : 0 ≤ numC s t.2.2.1
      · have hw : waits s (i + 1) = waits s i ++ [((i : Int), numC s t.2.2.1, t.2.2.1)] := by rw [waits, wait, ht, if_neg k2, if_pos ⟨k1, by omega⟩]
        obtain ⟨o', G, e, hG⟩ := app3 hC1 (by omega) ((i : Int), numC s t.2.2.1, t.2.2.1)
        rw [← hw] at hG
        simp only [hlt, x1, x2, boxT, stT, Nat.zero_add, hx, th1, th2, k1, Int.reduceEq, hAt.s0, idxC hin, ln, n0, bd3, lt3, e, core]
        exact step o' G hG
      · have hw : waits s (i + 1) = waits s i := by rw [waits, wait, ht, if_neg k2, if_neg (fun h => h.2 (by omega)), List.append_nil]
        simp only [hlt, x1, x2, boxT, stT, Nat.zero_add, hx, th1, th2, k1, Int.reduceEq, hAt.s0, idxC hin, ln, n0, core]
        exact step o _ (by rw [hw]; exact hC1)
    · have hw : waits s (i + 1) = waits s i := by rw [waits, wait, ht, if_neg k2, if_neg (fun h => k1 h.1), List.append_nil]
      simp only [hlt, x1, x2, boxT, stT, Nat.zero_add, hx, th1, k1, k2, core]
      exact step o _ (by rw [hw]; exact hC1)

theorem loop10 (hR : RightS p s) : ∀ (c i : Nat) (o : AV) (H : Heap), s.2.2.2.1.2.length - i = c → i ≤ s.2.2.2.1.2.length → Cx H [(0, .box ((enc_State s).map .p))] [(o, 3, (waits s i).length, (waits s i).flatMap encW)] →
    ∃ nl tg, L10_8 [.ptr 0 0, o, I i] [] H = some ([.p (.sl nl tg (waits s s.2.2.2.1.2.length).length ((waits s s.2.2.2.1.2.length).flatMap encW))], []) := by
  intro c
  induction c with
  | zero =>
    intro i o H hc hi hC
    have : i = s.2.2.2.1.2.length := by omega
    subst this
    obtain ⟨nl, tg, H', e⟩ := hC.hd.leave1 []
    have hh : H' = [] := leave0_heap e
    subst hh
    refine ⟨nl, tg, ?_⟩
    have hAt : At 0 s H := hC.at (by simp)
    rw [L10_8_eq]
    simp only [Nat.zero_add, hAt.s3, Int.lt_irrefl, core]
    exact e
  | succ c ih =>
    intro i o H hc hi hC
    have hj : i < s.2.2.2.1.2.length := by omega
    have hlt : (i : Int) < s.2.2.2.1.2.length := by omega
    have w : IntKind.i64.wrap ((i : Int) + 1) = ((i + 1 : Nat) : Int) := by have := hR.few; rw [wrap_id (by omega), nxt]
    obtain ⟨t, ht⟩ : ∃ t, s.2.2.2.1.2.getD i zT = t := ⟨_, rfl⟩
    have hte : s.2.2.2.1.2[i] = t := by rw [← ht, List.getD_eq_getElem?_getD, List.getElem?_eq_getElem hj]; rfl
    have hT := hR.each t (hte ▸ List.getElem_mem hj)
    have hA0 : At 0 s H := hC.at (by simp)
    have x1 : idxA 5 (Ws s) (I i) = some (.fp (s.2.2.2.1.2.flatMap enc_Thread) (i * 5)) := idxR hj
    have x2 : ld true 5 (.fp (s.2.2.2.1.2.flatMap enc_Thread) (i * 5)) H = some (thV t) := by rw [ldR len_Thread5 hj H, hte]
    have hx : ∀ j, ld false 1 (.ptr H.length j) (H ++ [.box ((enc_Thread t).map .p)]) = ((enc_Thread t)[j]?).map .p := fun j => ldB _ _ _ _
    have hC1 := hC.push [.box ((enc_Thread t).map .p)]
    have hAt : At 0 s (H ++ [.box ((enc_Thread t).map .p)]) := hC1.at (by simp)
    have hwl := waits_len s i
    have hfew := hR.few
    have step : ∀ (o' : AV) (G : Heap), Cx G [(0, .box ((enc_State s).map .p))] [(o', 3, (waits s (i + 1)).length, (waits s (i + 1)).flatMap encW)] →
        ∃ nl tg, L10_11 [.ptr 0 0, o', I i] [] G = some ([.p (.sl nl tg (waits s s.2.2.2.1.2.length).length ((waits s s.2.2.2.1.2.length).flatMap encW))], []) := fun o' G hG => by
      obtain ⟨nl, tg, e⟩ := ih (i + 1) o' G (by omega) (by omega) hG
      refine ⟨nl, tg, ?_⟩
      rw [L10_11_eq]
      simp only [w, core]
      exact e
    rw [L10_8_eq]
    by_cases k2 : t.2.1 = 2
    · have hw : waits s (i + 1) = waits s i ++ [((i : Int), t.2.2.1, -1)] := by rw [waits, wait, ht, if_pos k2]
      have hC1b := hC.newBox ((enc_Thread t).map .p)
      obtain ⟨o', G, e, hG, _⟩ := hC1b.app (bytes := 24) (y := .p (.sl (some false) true 1 (encW ((i : Int), t.2.2.1, -1)))) (k := 1) (new := encW ((i : Int), t.2.2.1, -1)) [] (by simp [cellsA, len_W]) rfl (by omega) (by simp only [room]; omega)
      have hbx := hG.at (id := H.length) (o := .box ((enc_Thread t).map .p)) (by simp)
      have hxG : ∀ j, ld false 1 (.ptr H.length j) G = ((enc_Thread t)[j]?).map .p := fun j => by rw [ld_box hbx, List.getElem?_map]
      have hG2 : Cx G [(0, .box ((enc_State s).map .p))] [(o', 3, (waits s (i + 1)).length, (waits s (i + 1)).flatMap encW)] := by
        rw [hw]
        simpa using hG.bt
      simp only [hlt, Nat.zero_add, hA0.s3, x1, x2, boxT, stT, hx, th1, th2, k2, bd3, lt3, e, core]
      rw [L10_19_eq]
      simp only [Nat.zero_add, hxG, th1, k2, Int.reduceEq, core]
      exact step o' G hG2
    by_cases k1 : t.2.1 = 1
    · have hok := hT.lock k1
      obtain ⟨hin, _⟩ := okC_in hok
      have ln := ldNum hin (H ++ [.box ((enc_Thread t).map .p)])
      by_cases n0 : numC s t.2.2.1 = -1
      · have hw : waits s (i + 1) = waits s i := by rw [waits, wait, ht, if_neg k2, if_neg (fun h => h.2 n0), List.append_nil]
        simp only [hlt, Nat.zero_add, hA0.s3, x1, x2, boxT, stT, hx, th1, th2, k1, Int.reduceEq, core]
        rw [L10_19_eq]
        simp only [Nat.zero_add, hx, th1, th2, k1, hAt.s0, idxC hin, ln, n0, core]
        exact step o _ (by rw [hw]; exact hC1)
      · have hw : waits s (i + 1) = waits s i ++ [((i : Int), numC s t.2.2.1, t.2.2.1)] := by rw [waits, wait, ht, if_neg k2, if_pos ⟨k1, n0⟩]
        obtain ⟨o', G, e, hG⟩ := app3 hC1 (by omega) ((i : Int), numC s t.2.2.1, t.2.2.1)
        rw [← hw] at hG
        simp only [hlt, Nat.zero_add, hA0.s3, x1, x2, boxT, stT, hx, th1, th2, k1, Int.reduceEq, core]
        rw [L10_19_eq]
        simp only [Nat.zero_add, hx, th1, th2, k1, hAt.s0, idxC hin, ln, n0, bd3, lt3, e, core]
        exact step o' G hG
    · have hw : waits s (i + 1) = waits s i := by rw [waits, wait, ht, if_neg k2, if_neg (fun h => k1 h.1), List.append_nil]
      simp only [hlt, Nat.zero_add, hA0.s3, x1, x2, boxT, stT, hx, th1, k2, core]
      rw [L10_19_eq]
      simp only [Nat.zero_add, hx, th1, k1, core]
      exact step o _ (by rw [hw]; exact hC1)
end
end Ir
end Go.Proofs.YtfdnamedmjhcfaaDoor

/- Who waits: the law's walk. -/
set_option linter.unusedVariables false
set_option linter.unusedSimpArgs false
set_option maxRecDepth 100000
namespace Go.Proofs.YtfdnamedmjhcfaaDoor
open Go Go.AM
namespace Ir
abbrev Wq (nl : Option Bool) (tg : Bool) (l : List W3) : AV := .p (.sl nl tg l.length (l.flatMap encW))
theorem ne3 (q : W3) : bin .neq (.agg 3 [(0, .int), (1, .int), (2, .int)]) (.agg ((encW q).map .p)) (.agg ((encW q).map .p)) = some (B false) := by
  simp [bin, leavesEq, leafEq, eqRes, encW]

section
variable {p : A_Prog} {s : A_State} {H : Heap}
theorem call8 {e : Int} (h9 : ∀ lo H, callA cfg O 9 [pgV p, stV s] lo H = some (I e, H)) (hR : e = 0 → RightS p s) (lo : List Nat) (H : Heap) : ∃ nl tg, callA cfg O 8 [pgV p, stV s] lo H = some (.tup [Wq nl tg (if e = 0 then waits s s.2.2.2.1.2.length else []), I e], H) := by
  suffices h : ∃ nl tg, O.ent 8 [pgV p, stV s] [] [] = some ([Wq nl tg (if e = 0 then waits s s.2.2.2.1.2.length else []), I e], []) from by
    obtain ⟨nl, tg, h⟩ := h
    exact ⟨nl, tg, callA_args (rs := [_, _]) rfl (pureArgsC (pureAgg _ _) (pureArgs1 (pureAgg _ _))) h rfl⟩
  have b1 : boxO [] (AV.cells (.agg ((enc_Prog p).map .p))) [] = some (.ptr 0 0, [.box ((enc_Prog p).map .p)]) := boxAgg0 _
  have b2 : boxO [] (AV.cells (.agg ((enc_State s).map .p))) [.box ((enc_Prog p).map .p)] = some (.ptr 1 0, [.box ((enc_Prog p).map .p), .box ((enc_State s).map .p)]) := boxAgg _ [.box ((enc_Prog p).map .p)]
  have lp : ld true 3 (.ptr 0 0) [.box ((enc_Prog p).map .p), .box ((enc_State s).map .p)] = some (pgV p) := by
    rw [ldAgg_box (xs := (enc_Prog p).map .p) rfl (by rw [List.length_map, len_Prog3]; decide) (by rw [List.length_map, len_Prog3]; decide)]; rfl
  have ls : ld true 8 (.ptr 1 0) [.box ((enc_Prog p).map .p), .box ((enc_State s).map .p)] = some (stV s) := by
    rw [ldAgg_box (xs := (enc_State s).map .p) rfl (by rw [List.length_map, len_State8]; decide) (by rw [List.length_map, len_State8]; decide)]; rfl
  have ha : At 1 s [.box ((enc_Prog p).map .p), .box ((enc_State s).map .p)] := rfl
  rw [f8_eq, b1]
  simp only [core]
  rw [b2]
  simp only [core, lp, ls, h9]
  by_cases e0 : e = 0
  · have hC : Cx [AObj.box ((enc_Prog p).map .p), .box ((enc_State s).map .p)] [(1, .box ((enc_State s).map .p))] [(.p nilS, 3, (waits s 0).length, (waits s 0).flatMap encW)] := by
      have := ((Cx.nil [AObj.box ((enc_Prog p).map .p)]).newBox ((enc_State s).map .p)).newNil 3
      exact this
    obtain ⟨nl, tg, h⟩ := loop8 (hR e0) s.2.2.2.1.2.length 0 (.p nilS) _ rfl (by omega) hC
    refine ⟨nl, tg, ?_⟩
    rw [if_pos e0]
    simp only [e0, Nat.zero_add, ha.s3, core]
    exact h
  · refine ⟨some true, true, ?_⟩
    rw [if_neg e0]
    simp only [e0, core]
    exact leave0_all (ps := [_, _]) (H' := _) rfl

theorem call10 (hR : RightS p s) (lo : List Nat) (H : Heap) : ∃ nl tg, callA cfg O 10 [stV s] lo H = some (Wq nl tg (waits s s.2.2.2.1.2.length), H) := by
  have hC : Cx [AObj.box ((enc_State s).map .p)] [(0, .box ((enc_State s).map .p))] [(.p nilS, 3, (waits s 0).length, (waits s 0).flatMap encW)] := by
    have := ((Cx.nil []).newBox ((enc_State s).map .p)).newNil 3
    exact this
  obtain ⟨nl, tg, h⟩ := loop10 hR s.2.2.2.1.2.length 0 (.p nilS) _ rfl (by omega) hC
  refine ⟨nl, tg, callA_args (rs := [_]) (H' := []) rfl (pureArgs1 (pureAgg _ _)) ?_ rfl⟩
  rw [f10_eq]
  simp only [boxAgg0, core]
  exact h

theorem same28 {l : List W3} (hl : l.length < 2 ^ 40) {a b : Option Bool} {c d : Bool} (H : Heap) : ∀ (n i : Nat), l.length - i = n → i ≤ l.length → L3_28 [Wq a c l, Wq b d l, I i] [] H = some ([B true], []) := by
  intro n
  induction n with
  | zero =>
    intro i hn hi
    have : i = l.length := by omega
    subst this
    rw [L3_28_eq]
    simp only [Int.lt_irrefl, core]
    rfl
  | succ n ih =>
    intro i hn hi
    have hi' : i < l.length := by omega
    have g : (i : Int) < l.length := by omega
    have w : IntKind.i64.wrap ((i : Int) + 1) = ((i + 1 : Nat) : Int) := by rw [wrap_id (by omega), nxt]
    have x1 : idxA 3 (Wq a c l) (I i) = some (.fp (l.flatMap encW) (i * 3)) := idxR hi'
    have x2 : idxA 3 (Wq b d l) (I i) = some (.fp (l.flatMap encW) (i * 3)) := idxR hi'
    have x3 : ∀ G, ld true 3 (.fp (l.flatMap encW) (i * 3)) G = some (.agg ((encW l[i]).map .p)) := fun G => ldR len_W hi' G
    rw [L3_28_eq]
    simp only [g, x1, x2, x3, ne3, w, core]
    exact ih (i + 1) (by omega) (by omega)

theorem same23 {l : List W3} (hl : l.length < 2 ^ 40) {a b : Option Bool} {c d : Bool} (e : Int) (H : Heap) : L3_23 [Wq a c l, I e, I e, Wq b d l] [] H = some ([B true], []) := by
  rw [L3_23_eq]
  simp only [decide_true, Bool.not_true, core]
  exact same28 hl H l.length 0 rfl (by omega)

theorem ent3 (hp : POk2 p) (hz : SSz s) : O.ent 3 [pgV p, stV s] [] [] = some ([B true], []) := by
  obtain ⟨c, e, e7, e9, hce, hR⟩ := callSt p s hp hz
  obtain ⟨e0, hn0, c0⟩ := chk0
  have b1 : boxO [] (AV.cells (.agg ((enc_Prog p).map .p))) [] = some (.ptr 0 0, [.box ((enc_Prog p).map .p)]) := boxAgg0 _
  have b2 : boxO [] (AV.cells (.agg ((enc_State s).map .p))) [.box ((enc_Prog p).map .p)] = some (.ptr 1 0, [.box ((enc_Prog p).map .p), .box ((enc_State s).map .p)]) := boxAgg _ [.box ((enc_Prog p).map .p)]
  have lp : ld true 3 (.ptr 0 0) [.box ((enc_Prog p).map .p), .box ((enc_State s).map .p)] = some (pgV p) := by
    rw [ldAgg_box (xs := (enc_Prog p).map .p) rfl (by rw [List.length_map, len_Prog3]; decide) (by rw [List.length_map, len_Prog3]; decide)]; rfl
  have ls : ld true 8 (.ptr 1 0) [.box ((enc_Prog p).map .p), .box ((enc_State s).map .p)] = some (stV s) := by
    rw [ldAgg_box (xs := (enc_State s).map .p) rfl (by rw [List.length_map, len_State8]; decide) (by rw [List.length_map, len_State8]; decide)]; rfl
  have bd : buildA [(.p nilS), (.p nilS), (.p nilS)] [] = some (.agg (nil3.map .p)) := rfl
  obtain ⟨nl, tg, e8⟩ := call8 e9 hR [] [.box ((enc_Prog p).map .p), .box ((enc_State s).map .p)]
  have fin : L3_17 [.ptr 1 0, Wq nl tg (if e = 0 then waits s s.2.2.2.1.2.length else []), I e, I e] [] [.box ((enc_Prog p).map .p), .box ((enc_State s).map .p)] = some ([B true], []) := by
    rw [L3_17_eq]
    by_cases he : e = 0
    · obtain ⟨n2, t2, e10⟩ := call10 (hR he) [] [.box ((enc_Prog p).map .p), .box ((enc_State s).map .p)]
      have hw := waits_len s s.2.2.2.1.2.length
      have hf := (hR he).few
      rw [if_pos he]
      have := same23 (l := waits s s.2.2.2.1.2.length) (by omega) (a := nl) (b := n2) (c := tg) (d := t2) e [.box ((enc_Prog p).map .p), .box ((enc_State s).map .p)]
      have hd : decide (e = 0) = true := decide_eq_true he
      simp only [hd, ls, e10, core]
      exact this
    · rw [if_neg he]
      have hd : decide (e = 0) = false := decide_eq_false he
      simp only [hd, core]
      exact same23 (l := []) (by decide) (a := nl) (b := some true) (c := tg) (d := true) e [.box ((enc_Prog p).map .p), .box ((enc_State s).map .p)]
  rw [f3_eq, b1]
  simp only [core]
  rw [b2]
  simp only [core, bd, c0, hn0, lp, ls, e8, e7]
  by_cases hc : c = 0
  · simp only [hc, e9, core]
    exact fin
  · have he := hce hc
    rw [he, if_neg hc] at fin
    simp only [hc, he, core]
    exact fin
end

/-! ### The sizes -/
theorem max63 {n : Nat} (h : n ≤ maxLen) : n < 2 ^ 63 := by
  have : maxLen = 2 ^ 63 - 1 := rfl
  omega
theorem pok {p : A_Prog} (h : ok_Prog p) : POk2 p := by
  obtain ⟨⟨h1, h2⟩, ⟨h3, _⟩, h4, _⟩ := h
  exact ⟨⟨max63 h1, fun g hg => by
    obtain ⟨_, _, _, ⟨a, _⟩, b, _⟩ := h2 g hg
    exact ⟨max63 a, max63 b⟩⟩, max63 h3, max63 h4⟩
theorem frok {f : A_Frame} (h : ok_Frame f) : FSz f := by
  obtain ⟨_, _, _, _, _, ⟨a, _⟩, b, _⟩ := h
  exact ⟨max63 a, max63 b⟩
theorem sok {s : A_State} (h : ok_State s) : SSz s := by
  obtain ⟨⟨h1, h2⟩, ⟨h3, _⟩, ⟨h4, _⟩, ⟨h5, h6⟩, ⟨h7, _⟩, ⟨h8, _⟩, _⟩ := h
  exact ⟨max63 h1, max63 h3, max63 h4, max63 h5, max63 h7, max63 h8, fun c hc => by
    obtain ⟨_, _, ⟨a, _⟩, b, d⟩ := h2 c hc
    exact ⟨max63 a, max63 b, fun f hf => frok (d f hf)⟩, fun t ht => by
    obtain ⟨⟨a, b⟩, _⟩ := h6 t ht
    exact ⟨max63 a, fun f hf => frok (b f hf)⟩⟩
end Ir
end Go.Proofs.YtfdnamedmjhcfaaDoor
