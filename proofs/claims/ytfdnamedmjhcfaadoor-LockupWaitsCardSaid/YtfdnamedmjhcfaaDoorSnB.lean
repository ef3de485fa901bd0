import Derived.Test.YtfdnamedmjhcfaaDoorSnA
/- The ways through a function's code: how long the lists are. -/
set_option linter.unusedVariables false
set_option linter.unusedSimpArgs false
set_option maxRecDepth 100000
namespace Go.Proofs.YtfdnamedmjhcfaaDoor
open Go Go.AM
namespace Ir
variable {f : A_Fn}
/-- Tries and ways: one for each order. -/
def OutT (f : A_Fn) (x y : PV) : Prop := ∃ nx tx out ny ty seen, x = .sl nx tx f.2.2.2.2.2.length out ∧ out.length = f.2.2.2.2.2.length ∧ (∀ q ∈ out, TP q) ∧ y = .sl ny ty f.2.2.2.2.2.length (bC seen) ∧ seen.length = f.2.2.2.2.2.length
theorem frz_outT {H : Heap} {todo : AV} {tl : List Int} {seen : List Bool} {bad : Bool} (h : Wk f H todo tl seen bad) (b : Bool) : ∃ x y, leave 0 [] [.row 2 0 0 f.2.2.2.2.2.length, .row 1 0 0 f.2.2.2.2.2.length, B b] H = some ([.p x, .p y, B b], []) ∧ OutT f x y := by
  obtain ⟨out, ho, hol, hot⟩ := h.ot
  have e1 : frzA H (.row 2 0 0 f.2.2.2.2.2.length) = some (.p (.sl (if 0 < f.2.2.2.2.2.length then some false else none) false f.2.2.2.2.2.length out), H.set 2 (.row 1 1 [])) := by
    show (toPV H (.row 2 0 0 f.2.2.2.2.2.length)).map _ = _
    simp only [toPV, ho]
    rw [if_pos ⟨trivial, by omega⟩, List.drop_zero, List.take_of_length_le (by omega)]
    rfl
  have h1 : (H.set 2 (.row 1 1 []))[1]? = some (.row 0 1 (bC seen)) := by rw [List.getElem?_set_ne (by omega)]; exact h.sn
  have hbl : (bC seen).length = f.2.2.2.2.2.length := by rw [bC, List.length_map, h.ls]
  have e2 : frzA (H.set 2 (.row 1 1 [])) (.row 1 0 0 f.2.2.2.2.2.length) = some (.p (.sl (if 0 < f.2.2.2.2.2.length then some false else none) false f.2.2.2.2.2.length (bC seen)), (H.set 2 (.row 1 1 [])).set 1 (.row 1 1 [])) := by
    show (toPV (H.set 2 (.row 1 1 [])) (.row 1 0 0 f.2.2.2.2.2.length)).map _ = _
    simp only [toPV, h1]
    rw [if_pos ⟨trivial, by omega⟩, List.drop_zero, List.take_of_length_le (by omega)]
    rfl
  refine ⟨.sl (if 0 < f.2.2.2.2.2.length then some false else none) false f.2.2.2.2.2.length out, .sl (if 0 < f.2.2.2.2.2.length then some false else none) false f.2.2.2.2.2.length (bC seen), leave0_all (ps := [_, _, .v (.bool b)]) (H' := (H.set 2 (.row 1 1 [])).set 1 (.row 1 1 [])) ?_, _, _, out, _, _, seen, rfl, hol, hot, rfl, h.ls⟩
  simp only [frzAll, e1, e2, obs, oms]
  rfl
theorem loop99T (hn : f.2.2.2.2.2.length < 2 ^ 30) (hg : ∀ i ∈ f.2.2.2.2.2, Good f.2.2.2.2.2.length i) : ∀ (M : Nat) {H : Heap} {todo : AV} {tl : List Int} {seen : List Bool} {bad : Bool}, Wk f H todo tl seen bad → meas seen tl ≤ M → M < 2 ^ 35 →
    ∃ x y b, L55_8 [.ptr 3 0] [] H = some ([.p x, .p y, B b], []) ∧ OutT f x y := by
  intro M
  induction M with
  | zero =>
    intro H todo tl seen bad h hm hM
    have h0 : tl.length = 0 := by unfold meas at hm; omega
    obtain ⟨x, y, hx, ho⟩ := frz_outT h (!bad)
    refine ⟨x, y, !bad, ?_, ho⟩
    rw [L55_8_eq]
    simp only [nilc, ld_box h.box, wb5, wb6, wb7, wb8, Nat.zero_add, Nat.reduceAdd, h.td.len, h0, Int.natCast_zero, Int.lt_irrefl, hx, core]
  | succ M ih =>
    intro H todo tl seen bad h hm hM
    by_cases h0 : (0 : Int) < tl.length
    case neg =>
      obtain ⟨x, y, hx, ho⟩ := frz_outT h (!bad)
      refine ⟨x, y, !bad, ?_, ho⟩
      rw [L55_8_eq]
      simp only [nilc, ld_box h.box, wb5, wb6, wb7, wb8, Nat.zero_add, Nat.reduceAdd, h.td.len, h0, hx, core]
    cases bad with
    | true =>
      obtain ⟨x, y, hx, ho⟩ := frz_outT h (!true)
      refine ⟨x, y, !true, ?_, ho⟩
      rw [L55_8_eq]
      simp only [nilc, ld_box h.box, wb5, wb6, wb7, wb8, Nat.zero_add, Nat.reduceAdd, h.td.len, h0, core]
      exact hx
    | false =>
      have hk : tl.length - 1 < tl.length := by omega
      have w : IntKind.i64.wrap ((tl.length : Int) - 1) = ((tl.length - 1 : Nat) : Int) := by
        unfold meas at hm
        rw [wrap_id (by omega)]; omega
      have td := h.td
      rcases td with ⟨_, e⟩ | ⟨id, g, xs, et, hid, ho, hx⟩
      · rw [e] at h0; simp at h0
      have hlt := getElem?_lt ho
      have e20 : idxA 1 todo (I ((tl.length - 1 : Nat) : Int)) = some (.rptr id g (tl.length - 1)) := by
        rw [et, idxA_row ⟨by omega, by omega⟩, Nat.zero_add, Nat.mul_one, Int.toNat_natCast]
      have hxs : xs[tl.length - 1]? = some (Ia tl[tl.length - 1]) := by
        have : (xs.take tl.length)[tl.length - 1]? = xs[tl.length - 1]? := by rw [List.getElem?_take]; simp [hk]
        rw [← this, hx, List.getElem?_map, List.getElem?_eq_getElem hk]; rfl
      have e21 : ld false 1 (.rptr id g (tl.length - 1)) H = some (I tl[tl.length - 1]) := by rw [ld_row ho, hxs]; rfl
      have e30 : cutA 1 todo none (some (I ((tl.length - 1 : Nat) : Int))) none H = some (.row id g 0 (tl.length - 1)) := by
        rw [et, cutA_row_hi ho ⟨by omega, by omega⟩, Int.toNat_natCast]
      have td' : TD H (.row id g 0 (tl.length - 1)) tl.dropLast := by
        refine .inr ⟨id, g, xs, by rw [List.length_dropLast], hid, ho, ?_⟩
        rw [List.length_dropLast]
        have : xs.take (tl.length - 1) = (xs.take tl.length).take (tl.length - 1) := by rw [List.take_take]; congr 1; omega
        rw [this, hx, ← List.map_take, List.dropLast_eq_take]
      obtain ⟨s1, W1⟩ := h.setTodo (H' := H) (todo' := .row id g 0 (tl.length - 1)) (tl' := tl.dropLast) (fun _ _ _ h => h) td' (fun z hz => h.ti z ((List.dropLast_sublist tl).subset hz)) rfl rfl
      have hz := h.ti _ (List.getElem_mem hk)
      have hm1 : meas seen tl.dropLast ≤ M := by unfold meas at hm ⊢; rw [List.length_dropLast]; omega
      obtain ⟨H', c1, ⟨todo2, tl2, seen2, bad2, W2, hm2⟩, _⟩ := from' W1 hn (by omega) (by rw [List.length_set]; omega) hg hz
      obtain ⟨x, y, b, hr, hoT⟩ := ih W2 (by omega) (by omega)
      refine ⟨x, y, b, ?_, hoT⟩
      rw [L55_8_eq]
      simp only [nilc, ld_box h.box, wb5, wb6, wb7, wb8, Nat.zero_add, Nat.reduceAdd, h.td.len, h0, w, e20, e21, e30, s1, c1, hr, core]

theorem ent99T (hn : f.2.2.2.2.2.length < 2 ^ 30) (hg : ∀ i ∈ f.2.2.2.2.2, Good f.2.2.2.2.2.length i) : ∃ x y b, O.ent 55 [fnV f] [] [] = some ([.p x, .p y, B b], []) ∧ OutT f x y := by
  have hh : [AObj.box ((enc_Fn f).map .p)] ++ List.replicate 2 AObj.hole = [AObj.box ((enc_Fn f).map .p), .hole, .hole] := rfl
  have l1 : ldS true 5 (.ptr 0 0) [AObj.box ((enc_Fn f).map .p), .hole, .hole] = some (fnV f) := by
    rw [ldS_ptr, ldAgg_box (xs := (enc_Fn f).map .p) rfl (by rw [List.length_map, len_Fn5]; decide) (by rw [List.length_map, len_Fn5]; decide)]
    rfl
  have l2 : ∀ o o', ldS false 1 (.ptr 0 4) [AObj.box ((enc_Fn f).map .p), o, o'] = some (.p (.sl f.2.2.2.2.1 false f.2.2.2.2.2.length (f.2.2.2.2.2.flatMap enc_Ins))) := fun o o' => by
    rw [ldS_ptr, ld_box (xs := (enc_Fn f).map .p) rfl]; rfl
  have hb : buildA [(I 0), (I 0), (B false), (.p nilS), (.p nilS), (.p nilS), (.p nilS), (.p nilS), (B false)] [(0, 5, fnV f), (5, 1, .row 1 0 0 f.2.2.2.2.2.length), (6, 1, .row 2 0 0 f.2.2.2.2.2.length)] = some (.agg (wb f (.p nilS) false)) := rfl
  have hx : ∀ o1 o2 o3 : AObj, boxO [] (AV.cells (.agg (wb f (.p nilS) false))) [o1, o2, o3] = some (.ptr 3 0, [o1, o2, o3, .box (wb f (.p nilS) false)]) := fun _ _ _ => rfl
  have W : Wk f [AObj.box ((enc_Fn f).map .p), .row 0 1 (bC (List.replicate f.2.2.2.2.2.length false)), .row 0 1 (List.replicate f.2.2.2.2.2.length nilS), .box (wb f (.p nilS) false)] (.p nilS) [] (List.replicate f.2.2.2.2.2.length false) false :=
    ⟨rfl, rfl, List.length_replicate, ⟨_, rfl, List.length_replicate, fun x hx => by rw [List.eq_of_mem_replicate hx]; exact .nil⟩, .inl ⟨rfl, rfl⟩, fun z hz => by cases hz⟩
  have hm : meas (List.replicate f.2.2.2.2.2.length false) [] ≤ f.2.2.2.2.2.length := by
    unfold meas
    simp
  obtain ⟨H', c1, ⟨todo2, tl2, seen2, bad2, W2, hm2⟩, _⟩ := come W hn (by omega) (z := 0) (by omega) (a := .p nilS) (l := []) (.inl ⟨true, true, rfl, fun _ => rfl⟩) (by decide)
  obtain ⟨x, y, b, hr, ho⟩ := loop99T hn hg _ W2 hm2 (by omega)
  refine ⟨x, y, b, ?_, ho⟩
  rw [f55_eq]
  simp only [boxAgg0, hh, l1, l2, Nat.zero_add, fill0 hn, fill1 hn, hb, hx, c1, hr, core]
theorem call99T (hn : f.2.2.2.2.2.length < 2 ^ 30) (hg : ∀ i ∈ f.2.2.2.2.2, Good f.2.2.2.2.2.length i) (lo : List Nat) (H : Heap) : ∃ x y b, callA cfg O 55 [fnV f] lo H = some (.tup [.p x, .p y, B b], H) ∧ OutT f x y := by
  obtain ⟨x, y, b, h, ho⟩ := ent99T hn hg
  exact ⟨x, y, b, callA_args (rs := [.p x, .p y, B b]) rfl (pureArgs1 (pureAgg _ _)) h rfl, ho⟩

end Ir
end Go.Proofs.YtfdnamedmjhcfaaDoor

/- code.All: tries and ways of all functions. -/
set_option linter.unusedVariables false
set_option linter.unusedSimpArgs false
set_option maxRecDepth 100000
namespace Go.Proofs.YtfdnamedmjhcfaaDoor
open Go Go.AM
namespace Ir

theorem leave0_two {lo : List Nat} {H : Heap} {a b : AV} {s1 s2 m1 m2 : Nat} {c1 c2 : List PV} (h1 : Lst s1 a H m1 c1) (h2 : Lst s2 b H m2 c2) (hs : Sep a b) :
    ∃ n1 t1 n2 t2, leave 0 lo [a, b] H = some ([.p (.sl n1 t1 m1 c1), .p (.sl n2 t2 m2 c2)], []) := by
  have key : ∃ n1 t1 H', frzA H a = some (.p (.sl n1 t1 m1 c1), H') ∧ Lst s2 b H' m2 c2 := by
    obtain ⟨hl, ⟨nl, rfl, _⟩ | ⟨id, g, rfl, ho⟩⟩ := h1
    · exact ⟨nl, true, H, rfl, h2⟩
    · refine ⟨if 0 < m1 then some false else none, false, H.set id (.row (g + 1) s1 []), ?_, h2.set fun g' n' => hs id g m1 g' n' rfl⟩
      simp only [frzA, frzLeaf, toPV, ho, Nat.zero_add, hl, Nat.le_refl, and_self, if_true, Option.map_some]
      rw [List.drop_zero, List.take_of_length_le (by omega)]
  obtain ⟨n1, t1, H1, e1, h3⟩ := key
  obtain ⟨n2, t2, H2, e2⟩ := h3.frz
  exact ⟨n1, t1, n2, t2, leave0_all (ps := [_, _]) (H' := H2) (by simp only [frzAll, e1, e2, obs, oms, List.map_cons, List.map_nil])⟩

/-- A right program's functions. -/
structure PgR (p : A_Prog) : Prop where
  pos : 0 < p.1.2.length
  few : p.1.2.length ≤ 60
  each : ∀ g ∈ p.1.2, 1 ≤ g.2.1 ∧ g.2.1 ≤ 60 ∧ g.2.2.2.2.2.length ≤ 600 ∧ ∀ i ∈ g.2.2.2.2.2, Good g.2.2.2.2.2.length i

/-- Tries and ways of the functions up to one. -/
def AllT (p : A_Prog) (k : Nat) (xs ys : List PV) : Prop := xs.length = k ∧ ys.length = k ∧ ∀ i g x y, i < k → p.1.2[i]? = some g → xs[i]? = some x → ys[i]? = some y → OutT g x y

theorem loop28 (p : A_Prog) (hp : PgR p) : ∀ (c i : Nat) (o1 o2 : AV) (xs ys : List PV) (H : Heap), p.1.2.length - i = c → i ≤ p.1.2.length → AllT p i xs ys → Cx H [] [(o1, 1, i, xs), (o2, 1, i, ys)] →
    ∃ n1 t1 n2 t2 xs' ys', L28_10 [o1, o2, .p (.sl p.1.1 false p.1.2.length (p.1.2.flatMap enc_Fn)), I p.1.2.length, I i] [] H = some ([.p (.sl n1 t1 p.1.2.length xs'), .p (.sl n2 t2 p.1.2.length ys')], []) ∧ AllT p p.1.2.length xs' ys' := by
  intro c
  induction c with
  | zero =>
    intro i o1 o2 xs ys H hc hi hA hC
    have : i = p.1.2.length := by omega
    subst this
    have hs := List.pairwise_cons.mp hC.sep
    obtain ⟨n1, t1, n2, t2, e⟩ := leave0_two (lo := []) hC.hd (hC.lst (o2, 1, p.1.2.length, ys) (by simp)) (hs.1 (o2, 1, p.1.2.length, ys) (by simp))
    refine ⟨n1, t1, n2, t2, xs, ys, ?_, hA⟩
    rw [L28_10_eq]
    simp only [Int.lt_irrefl, core]
    exact e
  | succ c ih =>
    intro i o1 o2 xs ys H hc hi hA hC
    have hj : i < p.1.2.length := by omega
    have hlt : (i : Int) < p.1.2.length := by omega
    have w : IntKind.i64.wrap ((i : Int) + 1) = ((i + 1 : Nat) : Int) := by have := hp.few; rw [wrap_id (by omega), nxt]
    obtain ⟨q, hq⟩ : ∃ q, p.1.2[i] = q := ⟨_, rfl⟩
    have hqm : q ∈ p.1.2 := hq ▸ List.getElem_mem hj
    have hr := hp.each q hqm
    have x2 := idxL (sz := 5) (nl := p.1.1) (t := false) (n := p.1.2.length) (xs := p.1.2.flatMap enc_Fn) (i := (i : Int)) ⟨by omega, hlt⟩
    rw [Int.toNat_natCast] at x2
    have x3 : ld true 5 (.fp (p.1.2.flatMap enc_Fn) (i * 5)) H = some (fnV q) := by rw [ldRow len_Fn5 (by decide) hj, hq]
    have r4 : boxO [] [I 0, I 0, B false, .p nilS, .p nilS] H = some (.ptr H.length 0, H ++ [.box ([Ia 0, Ia 0, .v (.bool false), nilS, nilS].map .p)]) := boxO_p [Ia 0, Ia 0, .v (.bool false), nilS, nilS] H
    have r5 : stA 5 (.ptr H.length 0) (fnV q) [] (H ++ [.box ([Ia 0, Ia 0, .v (.bool false), nilS, nilS].map .p)]) = some (H ++ [.box ((enc_Fn q).map .p)]) := stA_new rfl rfl (by decide)
    have x7 : ld true 5 (.ptr H.length 0) (H ++ [.box ((enc_Fn q).map .p)]) = some (fnV q) := ldA (len_Fn5 q) (by decide) H
    obtain ⟨x, y, b, e55, hO⟩ := call99T (f := q) (by have := hr.2.2.1; omega) hr.2.2.2 [] (H ++ [.box ((enc_Fn q).map .p)])
    have hfew := hp.few
    have l1 : ∀ (x : PV) (H : Heap), litA false 1 [.p x] H = some (.p (.sl (some false) true 1 [x]), H) := fun _ _ => rfl
    obtain ⟨o1', H1, e1, hC1, _⟩ := (hC.push [.box ((enc_Fn q).map .p)]).app (bytes := 24) (y := .p (.sl (some false) true 1 [x])) (k := 1) (new := [x]) [] rfl rfl (by omega) (by simp only [room]; omega)
    obtain ⟨o2', H2, e2, hC2, _⟩ := Cx.app (bytes := 24) (y := .p (.sl (some false) true 1 [y])) (k := 1) (new := [y]) [(o1', 1, i + 1, xs ++ [x])] hC1 rfl rfl (by omega) (by simp only [room]; omega)
    have hA' : AllT p (i + 1) (xs ++ [x]) (ys ++ [y]) := by
      obtain ⟨a1, a2, a3⟩ := hA
      refine ⟨by simp [a1], by simp [a2], fun j g u v hj' hg hu hv => ?_⟩
      by_cases e : j < i
      · rw [List.getElem?_append_left (by omega)] at hu hv
        exact a3 j g u v e hg hu hv
      · have : j = i := by omega
        subst this
        rw [List.getElem?_append_right (by omega), a1, Nat.sub_self] at hu
        rw [List.getElem?_append_right (by omega), a2, Nat.sub_self] at hv
        simp at hu hv
        rw [List.getElem?_eq_getElem hj, hq] at hg
        cases hg
        subst hu hv
        exact hO
    obtain ⟨n1, t1, n2, t2, xs', ys', er, hAr⟩ := ih (i + 1) o1' o2' (xs ++ [x]) (ys ++ [y]) H2 (by omega) (by omega) hA' hC2
    refine ⟨n1, t1, n2, t2, xs', ys', ?_, hAr⟩
    rw [L28_10_eq]
    simp only [hlt, x2, x3, r4, r5, x7, e55, l1, e1, e2, w, core]
    exact er

theorem call28 (p : A_Prog) (hp : PgR p) (lo : List Nat) (H : Heap) : ∃ n1 t1 n2 t2 xs ys, callA cfg O 28 [pgV p] lo H = some (.tup [.p (.sl n1 t1 p.1.2.length xs), .p (.sl n2 t2 p.1.2.length ys)], H) ∧ AllT p p.1.2.length xs ys := by
  obtain ⟨n1, t1, n2, t2, xs, ys, e, hA⟩ := loop28 p hp p.1.2.length 0 (.p nilS) (.p nilS) [] [] [.box ((enc_Prog p).map .p)] rfl (by omega) ⟨rfl, rfl, fun i g x y h => by omega⟩ (((Cx.nil _).newNil 1).newNil 1)
  refine ⟨n1, t1, n2, t2, xs, ys, callA_args rfl (pureArgs1 (pureAgg _ _)) (H' := []) (rs := [.p (.sl n1 t1 p.1.2.length xs), .p (.sl n2 t2 p.1.2.length ys)]) ?_ rfl, hA⟩
  rw [f28_eq]
  simp only [boxAgg0, ldB0, pg0, Nat.zero_add, core]
  exact e
end Ir
end Go.Proofs.YtfdnamedmjhcfaaDoor

/- Looking at a state: a cell of a kind; a frame. -/
set_option linter.unusedVariables false
set_option linter.unusedSimpArgs false
set_option maxRecDepth 100000
namespace Go.Proofs.YtfdnamedmjhcfaaDoor
open Go Go.AM
namespace Ir

abbrev Fns (p : A_Prog) : AV := .p (.sl p.1.1 false p.1.2.length (p.1.2.flatMap enc_Fn))
abbrev lkB (p : A_Prog) (sb mid : Nat) (tr wy : PV) : List AV := (enc_Prog p).map .p ++ [.ptr sb 0, .p tr, .p wy, .mp mid]
/-- What looks at a state lies there. -/
structure Lk (lb sb mid : Nat) (p : A_Prog) (s : A_State) (n1 : Option Bool) (t1 : Bool) (xs : List PV) (n2 : Option Bool) (t2 : Bool) (ys : List PV) (H : Heap) : Prop where
  lk : H[lb]? = some (.box (lkB p sb mid (.sl n1 t1 p.1.2.length xs) (.sl n2 t2 p.1.2.length ys)))
  st : At sb s H

section
variable {lb sb mid r : Nat} {p : A_Prog} {s : A_State} {n1 n2 : Option Bool} {t1 t2 : Bool} {xs ys : List PV} {H : Heap}
theorem Lk.push (h : Lk lb sb mid p s n1 t1 xs n2 t2 ys H) (l : List AObj) : Lk lb sb mid p s n1 t1 xs n2 t2 ys (H ++ l) := ⟨push_get? h.lk l, h.st.push l⟩
theorem Lk.l0 (h : Lk lb sb mid p s n1 t1 xs n2 t2 ys H) : ld false 1 (.ptr lb 0) H = some (Fns p) := by rw [ld_box h.lk]; rfl
theorem Lk.l2 (h : Lk lb sb mid p s n1 t1 xs n2 t2 ys H) : ld false 1 (.ptr lb 2) H = some (SV p.2.2.1 false p.2.2.2) := by rw [ld_box h.lk]; rfl
theorem Lk.l3 (h : Lk lb sb mid p s n1 t1 xs n2 t2 ys H) : ld false 1 (.ptr lb 3) H = some (.ptr sb 0) := by rw [ld_box h.lk]; rfl
theorem Lk.l4 (h : Lk lb sb mid p s n1 t1 xs n2 t2 ys H) : ld false 1 (.ptr lb 4) H = some (.p (.sl n1 t1 p.1.2.length xs)) := by rw [ld_box h.lk]; rfl
theorem Lk.l5 (h : Lk lb sb mid p s n1 t1 xs n2 t2 ys H) : ld false 1 (.ptr lb 5) H = some (.p (.sl n2 t2 p.1.2.length ys)) := by rw [ld_box h.lk]; rfl
theorem Lk.l6 (h : Lk lb sb mid p s n1 t1 xs n2 t2 ys H) : ld false 1 (.ptr lb 6) H = some (.mp mid) := by rw [ld_box h.lk]; rfl

/-! ### cell -/
def okC (s : A_State) (v : A_Val) (k : Int) : Bool := decide (v.1 = 5) && (decide (0 ≤ v.2) && (decide (v.2 < (cL s).length) && decide (((cL s).getD v.2.toNat zC).1 = k)))
def zCe : List PV := [Ia 0, Ia 0, nilS, nilS]
def celE (s : A_State) (v : A_Val) (k : Int) : List PV := if okC s v k = true then enc_Cell ((cL s).getD v.2.toNat zC) else zCe
theorem celE_len (s : A_State) (v : A_Val) (k : Int) : (celE s v k).length = 4 := by unfold celE; split <;> rfl
theorem leave3_agg (n : Nat) (lo : List Nat) (H : Heap) (xs : List PV) (y : PV) : leave 3 (n :: lo) [.agg (xs.map .p), .p y] H = some ([.agg (xs.map .p), .p y], H.take n) := by
  have h : ∀ xs : List PV, frzLeaves H (xs.map .p) = some (xs.map .p, H) := by
    intro xs
    induction xs with
    | nil => rfl
    | cons x xs ih => simp [frzLeaves, frzLeaf, ih]
  simp [leave, frzAll, frzA, frzLeaf, h, AV.ltd, AV.lt]

theorem call112 (h : Lk lb sb mid p s n1 t1 xs n2 t2 ys H) (v : A_Val) (k : Int) (lo : List Nat) : callA cfg O 112 [.ptr lb 0, vlV v, I k] lo H = some (.tup [.agg ((celE s v k).map .p), B (okC s v k)], H) := by
  refine callA_same (rs := [.agg ((celE s v k).map .p), B (okC s v k)]) rfl ?_
  have hb2 : boxO [] [I 0, I 0, .p nilS, .p nilS] (H ++ [.box ((enc_Val v).map .p)]) = some (.ptr (H.length + 1) 0, H ++ [.box ((enc_Val v).map .p), .box (zCe.map .p)]) := by
    have := boxO_p zCe (H ++ [.box ((enc_Val v).map .p)])
    simp only [List.length_append, List.length_singleton, List.append_assoc, List.singleton_append] at this
    exact this
  have h' := h.push [.box ((enc_Val v).map .p), .box (zCe.map .p)]
  have hx : ∀ j, ld false 1 (.ptr H.length j) (H ++ [.box ((enc_Val v).map .p), .box (zCe.map .p)]) = ((enc_Val v)[j]?).map .p := fun j => by
    rw [ld_box (xs := (enc_Val v).map .p) (by simp), List.getElem?_map]
  have hst : ∀ cs : List PV, cs.length = 4 → stA 4 (.ptr (H.length + 1) 0) (.agg (cs.map .p)) (H.length :: lo) (H ++ [.box ((enc_Val v).map .p), .box (zCe.map .p)]) = some (H ++ [.box ((enc_Val v).map .p), .box (cs.map .p)]) := fun cs hc => by
    have := stA_new (H := H ++ [.box ((enc_Val v).map .p)]) (zs := zCe) (xs := cs) (n := 4) (lo := H.length :: lo) rfl hc (by decide)
    simpa using this
  have hld : ∀ cs : List PV, cs.length = 4 → ld true 4 (.ptr (H.length + 1) 0) (H ++ [.box ((enc_Val v).map .p), .box (cs.map .p)]) = some (.agg (cs.map .p)) := fun cs hc => by
    have := ldA hc (by decide) (H ++ [.box ((enc_Val v).map .p)])
    simpa using this
  have hlv : ∀ (cs : List PV) (o1 o2 : AObj) (b : Bool), leave 3 (H.length :: lo) [.agg (cs.map .p), B b] (H ++ [o1, o2]) = some ([.agg (cs.map .p), B b], H) := fun cs o1 o2 b => by
    rw [leave3_agg, List.take_left]
  have hbd : buildA [(I 0), (I 0), (.p nilS), (.p nilS)] [] = some (.agg (zCe.map .p)) := rfl
  have fin0 : ∀ b : Bool, okC s v k = false → ((stA 4 (.ptr (H.length + 1) 0) (.agg (zCe.map .p)) (H.length :: lo) (H ++ [.box ((enc_Val v).map .p), .box (zCe.map .p)])).map fun H' => (undefA, H')).isSome = true := fun _ _ => by rw [hst _ rfl]; rfl
  have s0 := hst zCe rfl
  have d0 := hld zCe rfl
  have e0 : okC s v k = false → celE s v k = zCe := fun e => if_neg (by rw [e]; simp)
  rw [f112_eq]
  by_cases c1 : v.1 = 5
  rotate_left
  · have hk : okC s v k = false := by unfold okC; simp [c1]
    rw [e0 hk, hk]
    simp only [boxAgg, hb2, Nat.zero_add, hx, va0, c1, hbd, s0, d0, hlv, core]
  by_cases c2 : v.2 < 0
  · have hk : okC s v k = false := by unfold okC; simp [show ¬ 0 ≤ v.2 by omega]
    rw [e0 hk, hk]
    simp only [boxAgg, hb2, Nat.zero_add, hx, va0, va1, c1, c2, hbd, s0, d0, hlv, core]
  by_cases c3 : ((cL s).length : Int) ≤ v.2
  · have hk : okC s v k = false := by unfold okC; simp [show ¬ v.2 < (cL s).length by omega]
    rw [e0 hk, hk]
    simp only [boxAgg, hb2, Nat.zero_add, hx, va0, va1, c1, c2, c3, nilP, h'.l3, h'.st.s0, hbd, s0, d0, hlv, core]
  have hin : 0 ≤ v.2 ∧ v.2 < (cL s).length := by omega
  by_cases c4 : ((cL s).getD v.2.toNat zC).1 = k
  · have hk : okC s v k = true := by
      unfold okC
      rw [decide_eq_true c1, decide_eq_true hin.1, decide_eq_true hin.2, decide_eq_true c4]; rfl
    have e1 : celE s v k = enc_Cell ((cL s).getD v.2.toNat zC) := if_pos hk
    have hv : v.2.toNat < (cL s).length := by omega
    have x1 : ∀ G, ld true 4 (.fp ((cL s).flatMap enc_Cell) (v.2.toNat * 4)) G = some (.agg ((enc_Cell ((cL s).getD v.2.toNat zC)).map .p)) := fun G => by
      rw [ldR len_Cell4 hv G]
      simp [List.getD_eq_getElem?_getD, hv]
    rw [e1, hk]
    simp only [boxAgg, hb2, Nat.zero_add, Nat.add_zero, hx, va0, va1, c1, c2, c3, c4, nilP, h'.l3, h'.st.s0, idxC hin, ldC hin, x1, hst _ (len_Cell4 _), hld _ (len_Cell4 _), hlv, core]
  · have hk : okC s v k = false := by
      unfold okC
      rw [decide_eq_false c4]
      simp only [Bool.and_false]
    rw [e0 hk, hk]
    simp only [boxAgg, hb2, Nat.zero_add, Nat.add_zero, hx, va0, va1, c1, c2, c3, c4, nilP, h'.l3, h'.st.s0, idxC hin, ldC hin, hbd, s0, d0, hlv, core]
end
end Ir
end Go.Proofs.YtfdnamedmjhcfaaDoor

/- Looking at a state: a frame. -/
set_option linter.unusedVariables false
set_option linter.unusedSimpArgs false
set_option maxRecDepth 100000
namespace Go.Proofs.YtfdnamedmjhcfaaDoor
open Go Go.AM
namespace Ir

theorem at_app {H l : Heap} {i : Nat} {o : AObj} (h : l[i]? = some o) : (H ++ l)[H.length + i]? = some o := by
  rw [List.getElem?_append_right (by omega)]
  simpa using h
theorem fr0 (f : A_Frame) : (enc_Frame f)[0]? = some (Ia f.1) := _root_.id rfl
theorem fr1 (f : A_Frame) : (enc_Frame f)[1]? = some (Ia f.2.1) := _root_.id rfl
theorem fr2 (f : A_Frame) : (enc_Frame f)[2]? = some (Ia f.2.2.1) := _root_.id rfl
theorem fr3 (f : A_Frame) : (enc_Frame f)[3]? = some (Ia f.2.2.2.1) := _root_.id rfl
theorem fr6 (f : A_Frame) : (enc_Frame f)[6]? = some (.sl f.2.2.2.2.2.1.1 false f.2.2.2.2.2.1.2.length (f.2.2.2.2.2.1.2.flatMap enc_Val)) := _root_.id rfl
theorem fr7 (f : A_Frame) : (enc_Frame f)[7]? = some (.sl f.2.2.2.2.2.2.1 false f.2.2.2.2.2.2.2.length (f.2.2.2.2.2.2.2.flatMap enc_Try)) := _root_.id rfl

/-- A right frame: its function, and where it is in that one's code. -/
def FrR (p : A_Prog) (f : A_Frame) : Prop := ∃ g, p.1.2[f.1.toNat]? = some g ∧ 0 ≤ f.1 ∧ f.1 < p.1.2.length ∧ 0 ≤ f.2.1 ∧ f.2.1 < g.2.2.2.2.2.length
def FSz (f : A_Frame) : Prop := f.2.2.2.2.2.1.2.length < 2 ^ 63 ∧ f.2.2.2.2.2.2.2.length < 2 ^ 63

section
variable {lb sb mid r : Nat} {p : A_Prog} {s : A_State} {n1 n2 : Option Bool} {t1 t2 : Bool} {xs ys : List PV} {H : Heap}

theorem cV152 (h : Lk lb sb mid p s n1 t1 xs n2 t2 ys H) (hr : Pt r lb H) (v : A_Val) (lo : List Nat) : callV cfg O (.fn 152 [] [.ptr r 0]) [vlV v] lo H = some (B (!fitsV s v), H) := by
  show callA cfg O 152 [vlV v, .ptr r 0] lo H = _
  refine callA_same (rs := [B (!fitsV s v)]) rfl ?_
  have ha : ld true 2 (.ptr H.length 0) (H ++ [.box ((enc_Val v).map .p)]) = some (vlV v) := ldA (len_Val2 v) (by decide) H
  have h' := h.push [.box ((enc_Val v).map .p)]
  rw [f152_eq]
  simp only [boxAgg, Nat.zero_add, ha, (hr.push _).ld, nilP, h'.l3, call111 h'.st, core]
  exact cut3 _ lo H _

theorem tries_eq (l : List A_Try) : l.flatMap enc_Try = tC l := rfl

theorem callFr (hA : AllT p p.1.2.length xs ys) (hp : PgR p) (h : Lk lb sb mid p s n1 t1 xs n2 t2 ys H) (f : A_Frame) (hf : FSz f) (lo : List Nat) : ∃ x, callA cfg O 141 [.ptr lb 0, frV f] lo H = some (B x, H) ∧ (x = true → FrR p f) := by
  suffices hs : ∃ x, O.ent 141 [.ptr lb 0, frV f] lo H = some ([B x], H) ∧ (x = true → FrR p f) from hs.imp fun x h => ⟨callA_same (rs := [B x]) rfl h.1, h.2⟩
  have hfew := hp.few
  have b1 : boxO [] (AV.cells (.ptr lb 0)) H = some (.ptr H.length 0, H ++ [.box [.ptr lb 0]]) := rfl
  have b2 : boxO [] (AV.cells (.agg ((enc_Frame f).map .p))) (H ++ [.box [.ptr lb 0]]) = some (.ptr (H.length + 1) 0, H ++ [.box [.ptr lb 0], .box ((enc_Frame f).map .p)]) := by
    rw [boxAgg]; simp
  have hv : ∀ (b : Bool) (l : List AObj), leave 3 (H.length :: lo) [B b] (H ++ l) = some ([B b], H) := fun b l => cut3 b lo H l
  have pt : ∀ (l : List AObj), ld false 1 (.ptr H.length 0) (H ++ .box [.ptr lb 0] :: l) = some (.ptr lb 0) := fun l => by
    have := at_app (H := H) (l := .box [.ptr lb 0] :: l) (i := 0) rfl
    rw [Nat.add_zero] at this
    rw [ld_box this]; rfl
  have fx : ∀ (l : List AObj) (j : Nat), ld false 1 (.ptr (H.length + 1) j) (H ++ .box [.ptr lb 0] :: .box ((enc_Frame f).map .p) :: l) = ((enc_Frame f)[j]?).map .p := fun l j => by
    rw [ld_box (at_app (H := H) (i := 1) rfl), List.getElem?_map]
  have fs : ∀ (l : List AObj), ld true 2 (.ptr (H.length + 1) 4) (H ++ .box [.ptr lb 0] :: .box ((enc_Frame f).map .p) :: l) = some (vlV f.2.2.2.2.1) := fun l => by
    rw [ldAgg_box (at_app (H := H) (i := 1) rfl) (by rw [List.length_map, len_Frame8]; decide) (by rw [List.length_map, len_Frame8]; decide)]
    rfl
  have h2 := fun l => h.push (.box [.ptr lb 0] :: .box ((enc_Frame f).map .p) :: l)
  rw [f141_eq, b1]
  simp only [core, b2]
  cases hw : wi f.1 0 (wr (p.1.2.length - 1)) with
  | false =>
    refine ⟨false, ?_, fun e => by cases e⟩
    simp only [Nat.zero_add, fx, fr0, pt, nilP, (h2 []).l0, call71w, hw, hv, core]
  | true =>
  have hw1 := wi_iff.mp hw
  have hL0 := hp.pos
  rw [wr, wrap_id (by omega)] at hw1
  have hk : f.1.toNat < p.1.2.length := by omega
  obtain ⟨g, hg⟩ : ∃ g, p.1.2[f.1.toNat] = g := ⟨_, rfl⟩
  have hg? : p.1.2[f.1.toNat]? = some g := by rw [List.getElem?_eq_getElem hk, hg]
  have hgm := hp.each g (hg ▸ List.getElem_mem hk)
  have x21 := idxL (sz := 5) (nl := p.1.1) (t := false) (n := p.1.2.length) (xs := p.1.2.flatMap enc_Fn) (i := f.1) ⟨hw1.1, by omega⟩
  have x22 : ∀ G, ld true 5 (.fp (p.1.2.flatMap enc_Fn) (f.1.toNat * 5)) G = some (fnV g) := fun G => by rw [ldRow len_Fn5 (by decide) hk, hg]
  have b3 : boxO [] [I 0, I 0, B false, .p nilS, .p nilS] (H ++ [.box [.ptr lb 0], .box ((enc_Frame f).map .p)]) = some (.ptr (H.length + 2) 0, H ++ [.box [.ptr lb 0], .box ((enc_Frame f).map .p), .box ([Ia 0, Ia 0, .v (.bool false), nilS, nilS].map .p)]) := by
    have := boxO_p [Ia 0, Ia 0, .v (.bool false), nilS, nilS] (H ++ [.box [.ptr lb 0], .box ((enc_Frame f).map .p)])
    simpa using this
  have s3 : stA 5 (.ptr (H.length + 2) 0) (fnV g) (H.length :: lo) (H ++ [.box [.ptr lb 0], .box ((enc_Frame f).map .p), .box ([Ia 0, Ia 0, .v (.bool false), nilS, nilS].map .p)]) = some (H ++ [.box [.ptr lb 0], .box ((enc_Frame f).map .p), .box ((enc_Fn g).map .p)]) := by
    have := stA_new (H := H ++ [.box [.ptr lb 0], .box ((enc_Frame f).map .p)]) (zs := [Ia 0, Ia 0, .v (.bool false), nilS, nilS]) (xs := enc_Fn g) (n := 5) (lo := H.length :: lo) rfl rfl (by decide)
    simpa using this
  have c112 := call112 (h2 [.box ((enc_Fn g).map .p)]) f.2.2.2.2.1 4 (H.length :: lo)
  have b4 : boxO [] [I 0, I 0, .p nilS, .p nilS] (H ++ [.box [.ptr lb 0], .box ((enc_Frame f).map .p), .box ((enc_Fn g).map .p)]) = some (.ptr (H.length + 3) 0, H ++ [.box [.ptr lb 0], .box ((enc_Frame f).map .p), .box ((enc_Fn g).map .p), .box (zCe.map .p)]) := by
    have := boxO_p zCe (H ++ [.box [.ptr lb 0], .box ((enc_Frame f).map .p), .box ((enc_Fn g).map .p)])
    rw [show (H ++ [AObj.box [.ptr lb 0], .box ((enc_Frame f).map .p), .box ((enc_Fn g).map .p)]).length = H.length + 3 by simp, List.append_assoc] at this
    exact this
  have s4 : ∀ cs : List PV, cs.length = 4 → stA 4 (.ptr (H.length + 3) 0) (.agg (cs.map .p)) (H.length :: lo) (H ++ [.box [.ptr lb 0], .box ((enc_Frame f).map .p), .box ((enc_Fn g).map .p), .box (zCe.map .p)]) = some (H ++ [.box [.ptr lb 0], .box ((enc_Frame f).map .p), .box ((enc_Fn g).map .p), .box (cs.map .p)]) := fun cs hc => by
    have := stA_new (H := H ++ [.box [.ptr lb 0], .box ((enc_Frame f).map .p), .box ((enc_Fn g).map .p)]) (zs := zCe) (xs := cs) (n := 4) (lo := H.length :: lo) rfl hc (by decide)
    simpa using this
  have gx : ∀ (l : List AObj) (j : Nat), ld false 1 (.ptr (H.length + 2) j) (H ++ .box [.ptr lb 0] :: .box ((enc_Frame f).map .p) :: .box ((enc_Fn g).map .p) :: l) = ((enc_Fn g)[j]?).map .p := fun l j => by
    rw [ld_box (at_app (H := H) (i := 2) rfl), List.getElem?_map]
  have cx : ∀ (o : AObj) (cs : List PV) (j : Nat), ld false 1 (.ptr (H.length + 3) j) (H ++ [.box [.ptr lb 0], .box ((enc_Frame f).map .p), o, .box (cs.map .p)]) = (cs[j]?).map .p := fun o cs j => by
    rw [ld_box (at_app (H := H) (i := 3) rfl), List.getElem?_map]
  have s4' := s4 _ (celE_len s f.2.2.2.2.1 4)
  cases hok : okC s f.2.2.2.2.1 4 with
  | false =>
    rw [hok] at c112
    refine ⟨false, ?_, fun e => by cases e⟩
    simp only [Nat.zero_add, fx, fs, fr0, pt, nilP, (h2 []).l0, call71w, hw, x21, x22, b3, s3, c112, b4, s4', hv, core]
  | true =>
  rw [hok] at c112
  obtain ⟨c, hc⟩ : ∃ c, (cL s).getD f.2.2.2.2.1.2.toNat zC = c := ⟨_, rfl⟩
  have hce : celE s f.2.2.2.2.1 4 = enc_Cell c := by rw [← hc]; exact if_pos hok
  rw [hce] at c112 s4'
  by_cases d1 : c.2.1 = f.1
  rotate_left
  · refine ⟨false, ?_, fun e => by cases e⟩
    simp only [Nat.zero_add, fx, fs, fr0, pt, nilP, (h2 []).l0, call71w, hw, x21, x22, b3, s3, c112, b4, s4', cx, fo1, d1, hv, core]
  by_cases d2 : (f.2.2.2.2.2.1.2.length : Int) = g.2.1
  rotate_left
  · refine ⟨false, ?_, fun e => by cases e⟩
    simp only [Nat.zero_add, fx, fs, fr0, fr6, pt, nilP, (h2 []).l0, call71w, hw, x21, x22, b3, s3, c112, b4, s4', cx, fo1, gx, fn1, d1, d2, hv, core]
  cases hw2 : wi f.2.1 0 (wr (g.2.2.2.2.2.length - 1)) with
  | false =>
    refine ⟨false, ?_, fun e => by cases e⟩
    simp only [Nat.zero_add, fx, fs, fr0, fr1, fr6, pt, nilP, (h2 []).l0, call71w, hw, x21, x22, b3, s3, c112, b4, s4', cx, fo1, gx, fn1, fn4, d1, d2, hw2, hv, core]
  | true =>
  have hw3 := wi_iff.mp hw2
  rw [wr, wrap_id (by omega)] at hw3
  have hgl : f.2.1.toNat < g.2.2.2.2.2.length := by omega
  have hfr : FrR p f := ⟨g, hg?, hw1.1, by omega, hw3.1, by omega⟩
  obtain ⟨x, hx⟩ : ∃ x, xs[f.1.toNat]? = some x := ⟨_, List.getElem?_eq_getElem (by rw [hA.1]; exact hk)⟩
  obtain ⟨y, hy⟩ : ∃ y, ys[f.1.toNat]? = some y := ⟨_, List.getElem?_eq_getElem (by rw [hA.2.1]; exact hk)⟩
  obtain ⟨nx, tx, out, ny, ty, seen, rfl, hol, hot, rfl, hsl⟩ := hA.2.2 f.1.toNat g x y hk hg? hx hy
  have y1 : idxA 1 (.p (.sl n2 t2 p.1.2.length ys)) (I f.1) = some (.fp ys f.1.toNat) := by rw [idxL ⟨hw1.1, by omega⟩, Nat.mul_one]
  have y2 : ∀ G, ld false 1 (.fp ys f.1.toNat) G = some (.p (.sl ny ty g.2.2.2.2.2.length (bC seen))) := fun G => by rw [ld_fp, hy]; rfl
  have y3 : idxA 1 (.p (.sl ny ty g.2.2.2.2.2.length (bC seen))) (I f.2.1) = some (.fp (bC seen) f.2.1.toNat) := by rw [idxL ⟨hw3.1, by omega⟩, Nat.mul_one]
  obtain ⟨sv, hsv⟩ : ∃ sv, seen[f.2.1.toNat]? = some sv := ⟨_, List.getElem?_eq_getElem (by omega)⟩
  have y4 : ∀ G, ld false 1 (.fp (bC seen) f.2.1.toNat) G = some (B sv) := fun G => by rw [ld_fp, bC, List.getElem?_map, hsv]; rfl
  cases sv with
  | false =>
    refine ⟨false, ?_, fun e => by cases e⟩
    simp only [Nat.zero_add, fx, fs, fr0, fr1, fr6, pt, nilP, (h2 []).l0, call71w, hw, x21, x22, b3, s3, c112, b4, s4', cx, fo1, gx, fn1, fn4, d1, d2, hw2, (h2 _).l5, y1, y2, y3, y4, hv, core]
  | true =>
  have z1 : idxA 1 (.p (.sl n1 t1 p.1.2.length xs)) (I f.1) = some (.fp xs f.1.toNat) := by rw [idxL ⟨hw1.1, by omega⟩, Nat.mul_one]
  have z2 : ∀ G, ld false 1 (.fp xs f.1.toNat) G = some (.p (.sl nx tx g.2.2.2.2.2.length out)) := fun G => by rw [ld_fp, hx]; rfl
  have z3 : idxA 1 (.p (.sl nx tx g.2.2.2.2.2.length out)) (I f.2.1) = some (.fp out f.2.1.toNat) := by rw [idxL ⟨hw3.1, by omega⟩, Nat.mul_one]
  obtain ⟨q, hq⟩ : ∃ q, out[f.2.1.toNat]? = some q := ⟨_, List.getElem?_eq_getElem (by omega)⟩
  have z4 : ∀ G, ld false 1 (.fp out f.2.1.toNat) G = some (.p q) := fun G => by rw [ld_fp, hq]; rfl
  obtain ⟨qb, qt, ql, rfl, _, _⟩ := hot q (List.mem_of_getElem? hq)
  obtain ⟨e, he⟩ := ent165 (n1 := f.2.2.2.2.2.2.1) (t1 := false) (n2 := some qb) (t2 := qt) f.2.2.2.2.2.2.2 ql hf.2
  have c135 : ∀ lo G, callA cfg O 135 [.p (.sl f.2.2.2.2.2.2.1 false f.2.2.2.2.2.2.2.length (f.2.2.2.2.2.2.2.flatMap enc_Try)), .p (.sl (some qb) qt ql.length (tC ql))] lo G = some (B e, G) := fun lo G => callA_args (rs := [B e]) rfl rfl he rfl
  cases e with
  | false =>
    refine ⟨false, ?_, fun e => by cases e⟩
    simp only [Nat.zero_add, fx, fs, fr0, fr1, fr6, fr7, pt, nilP, (h2 []).l0, call71w, hw, x21, x22, b3, s3, c112, b4, s4', cx, fo1, gx, fn1, fn4, d1, d2, hw2, (h2 _).l5, y1, y2, y3, y4, (h2 _).l4, z1, z2, z3, z4, c135, hv, core]
  | true =>
    have hpt : Pt H.length lb (H ++ [.box [.ptr lb 0], .box ((enc_Frame f).map .p), .box ((enc_Fn g).map .p), .box ((enc_Cell c).map .p)]) := by unfold Pt; simp
    have ask := askedE (Q := fun _ => True) (nl := f.2.2.2.2.2.1.1) (l := f.2.2.2.2.2.1.2) len_Val2 (v1 := .fn 152 [] [.ptr H.length 0]) (H := H ++ [.box [.ptr lb 0], .box ((enc_Frame f).map .p), .box ((enc_Fn g).map .p), .box ((enc_Cell c).map .p)]) fun v _ lo => ⟨_, cV152 (h2 _) hpt v lo, fun _ => trivial⟩
    obtain ⟨u, eu, _⟩ := callVP hf.1 (lenA_sl _ _ _ _) ask (H.length :: lo)
    refine ⟨!u, ?_, fun _ => hfr⟩
    simp only [Nat.zero_add, fx, fs, fr0, fr1, fr6, fr7, pt, nilP, (h2 []).l0, call71w, hw, x21, x22, b3, s3, c112, b4, s4', cx, fo1, gx, fn1, fn4, d1, d2, hw2, (h2 _).l5, y1, y2, y3, y4, (h2 _).l4, z1, z2, z3, z4, c135, eu, hv, core]
end
end Ir
end Go.Proofs.YtfdnamedmjhcfaaDoor

/- Looking at a state: a waiting generator's frame; a cell. -/
set_option linter.unusedVariables false
set_option linter.unusedSimpArgs false
set_option maxRecDepth 100000
namespace Go.Proofs.YtfdnamedmjhcfaaDoor
open Go Go.AM
namespace Ir

section
variable {lb sb mid r : Nat} {p : A_Prog} {s : A_State} {n1 n2 : Option Bool} {t1 t2 : Bool} {xs ys : List PV} {H : Heap}

theorem idxFn {n : Int} (h : 0 ≤ n ∧ n < p.1.2.length) : idxA 5 (Fns p) (I n) = some (.fp (p.1.2.flatMap enc_Fn) (n.toNat * 5)) := idxL h
theorem ldFn {k j : Nat} {g : A_Fn} (hg : p.1.2[k]? = some g) (hj : j < 5) (H : Heap) : ld false 1 (.fp (p.1.2.flatMap enc_Fn) (k * 5 + j)) H = ((enc_Fn g)[j]?).map .p := by
  have hk := getElem?_lt hg
  rw [fldR len_Fn5 hk hj H]
  rw [List.getElem?_eq_getElem hk] at hg
  cases hg
  rfl

theorem call110 (hA : AllT p p.1.2.length xs ys) (hp : PgR p) (h : Lk lb sb mid p s n1 t1 xs n2 t2 ys H) (f : A_Frame) (hf : FSz f) (lo : List Nat) : ∃ x, callA cfg O 110 [.ptr lb 0, frV f] lo H = some (B x, H) := by
  suffices hs : ∃ x, O.ent 110 [.ptr lb 0, frV f] lo H = some ([B x], H) from hs.imp fun x h => callA_same (rs := [B x]) rfl h
  have h' := h.push [.box ((enc_Frame f).map .p)]
  have hx : ∀ j, ld false 1 (.ptr H.length j) (H ++ [.box ((enc_Frame f).map .p)]) = ((enc_Frame f)[j]?).map .p := fun j => ldB _ _ _ _
  have ha : ld true 8 (.ptr H.length 0) (H ++ [.box ((enc_Frame f).map .p)]) = some (frV f) := ldA (len_Frame8 f) (by decide) H
  have hv : ∀ b : Bool, leave 3 (H.length :: lo) [B b] (H ++ [.box ((enc_Frame f).map .p)]) = some ([B b], H) := fun b => cut3 b lo H _
  obtain ⟨x, e, ex⟩ := callFr hA hp h' f hf (H.length :: lo)
  rw [f110_eq]
  cases x with
  | false =>
    refine ⟨false, ?_⟩
    simp only [boxAgg, ha, e, hv, core]
  | true =>
  obtain ⟨g, hg, a1, a2, a3, a4⟩ := ex rfl
  have i1 := idxFn (p := p) ⟨a1, a2⟩
  have l2 := ldFn hg (show 2 < 5 by decide) (H ++ [.box ((enc_Frame f).map .p)])
  have l4 := ldFn hg (show 4 < 5 by decide) (H ++ [.box ((enc_Frame f).map .p)])
  by_cases c1 : f.2.2.1 = -1
  rotate_left
  · refine ⟨false, ?_⟩
    simp only [boxAgg, ha, e, Nat.zero_add, hx, fr2, c1, hv, core]
  by_cases c2 : f.2.2.2.1 = -1
  rotate_left
  · refine ⟨false, ?_⟩
    simp only [boxAgg, ha, e, Nat.zero_add, hx, fr2, fr3, c1, c2, hv, core]
  cases c3 : g.2.2.1 with
  | false =>
    refine ⟨false, ?_⟩
    simp only [boxAgg, ha, e, Nat.zero_add, hx, fr0, fr2, fr3, c1, c2, nilP, h'.l0, i1, l2, fn2, c3, hv, core]
  | true =>
  by_cases c4 : f.2.1 = 0
  · refine ⟨true, ?_⟩
    simp only [boxAgg, ha, e, Nat.zero_add, hx, fr0, fr1, fr2, fr3, c1, c2, nilP, h'.l0, i1, l2, fn2, c3, c4, hv, core]
  · have hgm : g.2.2.2.2.2.length ≤ 600 := (hp.each g (List.mem_of_getElem? hg)).2.2.1
    have w : IntKind.i64.wrap (f.2.1 - 1) = f.2.1 - 1 := wrap_id (by omega)
    have hj : (f.2.1 - 1).toNat < g.2.2.2.2.2.length := by omega
    have i2 : idxA 5 (.p (.sl g.2.2.2.2.1 false g.2.2.2.2.2.length (g.2.2.2.2.2.flatMap enc_Ins))) (I (f.2.1 - 1)) = some (.fp (g.2.2.2.2.2.flatMap enc_Ins) ((f.2.1 - 1).toNat * 5)) := idxL ⟨by omega, by omega⟩
    have l5 : ∀ G, ld false 1 (.fp (g.2.2.2.2.2.flatMap enc_Ins) ((f.2.1 - 1).toNat * 5)) G = some (I g.2.2.2.2.2[(f.2.1 - 1).toNat].1) := fun G => by
      have := fldR len_Ins5 hj (show 0 < 5 by decide) G
      rw [Nat.add_zero] at this
      rw [this]; rfl
    refine ⟨decide (g.2.2.2.2.2[(f.2.1 - 1).toNat].1 = 32), ?_⟩
    simp only [boxAgg, ha, e, Nat.zero_add, Nat.add_zero, hx, fr0, fr1, fr2, fr3, c1, c2, nilP, h'.l0, i1, l2, l4, fn2, fn4, c3, c4, w, i2, l5, hv, core]

theorem call73 (hA : AllT p p.1.2.length xs ys) (hp : PgR p) (h : Lk lb sb mid p s n1 t1 xs n2 t2 ys H) (c : A_Cell) (hc : CellR c) (hf : ∀ f ∈ c.2.2.2.2, FSz f) (lo : List Nat) : ∃ x, callA cfg O 73 [.ptr lb 0, clV c] lo H = some (B x, H) := by
  suffices hs : ∃ x, O.ent 73 [.ptr lb 0, clV c] lo H = some ([B x], H) from hs.imp fun x h => callA_same (rs := [B x]) rfl h
  have h' := h.push [.box ((enc_Cell c).map .p)]
  have hx : ∀ j, ld false 1 (.ptr H.length j) (H ++ [.box ((enc_Cell c).map .p)]) = ((enc_Cell c)[j]?).map .p := fun j => ldB _ _ _ _
  have hv : ∀ b : Bool, leave 3 (H.length :: lo) [B b] (H ++ [.box ((enc_Cell c).map .p)]) = some ([B b], H) := fun b => cut3 b lo H _
  rw [f73_eq]
  by_cases k4 : c.1 = 4
  · have h0 := hc.clos k4
    by_cases c1 : c.2.1 < p.1.2.length
    · have hk : c.2.1.toNat < p.1.2.length := by omega
      have i1 := idxFn (p := p) ⟨h0, c1⟩
      have l3 := ldFn (List.getElem?_eq_getElem hk) (show 3 < 5 by decide) (H ++ [.box ((enc_Cell c).map .p)])
      refine ⟨decide ((c.2.2.1.2.length : Int) = (p.1.2[c.2.1.toNat]).2.2.2.1.2.length), ?_⟩
      simp only [boxAgg, Nat.zero_add, hx, fo0, fo1, fo2, k4, nilP, h'.l0, c1, i1, l3, fn3, hv, core]
    · refine ⟨false, ?_⟩
      simp only [boxAgg, Nat.zero_add, hx, fo0, fo1, fo2, k4, nilP, h'.l0, c1, hv, core]
  by_cases k5 : c.1 = 5
  · by_cases c1 : c.2.1 = 0
    · have hl := hc.gen k5 c1
      have h0 : 0 < c.2.2.2.2.length := by omega
      have i1 : idxA 8 (.p (.sl c.2.2.2.1 false c.2.2.2.2.length (c.2.2.2.2.flatMap enc_Frame))) (I 0) = some (.fp (c.2.2.2.2.flatMap enc_Frame) 0) := idxL ⟨by omega, by omega⟩
      have l1 : ld true 8 (.fp (c.2.2.2.2.flatMap enc_Frame) 0) (H ++ [.box ((enc_Cell c).map .p)]) = some (frV c.2.2.2.2[0]) := by
        have := ldR len_Frame8 h0 (H ++ [.box ((enc_Cell c).map .p)])
        rw [Nat.zero_mul] at this
        exact this
      obtain ⟨x, e⟩ := call110 hA hp h' c.2.2.2.2[0] (hf _ (List.getElem_mem h0)) (H.length :: lo)
      refine ⟨x, ?_⟩
      simp only [boxAgg, Nat.zero_add, hx, fo0, fo1, fo3, k5, Int.reduceEq, c1, i1, l1, e, hv, core]
    · refine ⟨true, ?_⟩
      simp only [boxAgg, Nat.zero_add, hx, fo0, fo1, k5, Int.reduceEq, c1, hv, core]
  · refine ⟨true, ?_⟩
    simp only [boxAgg, Nat.zero_add, hx, fo0, k4, k5, hv, core]

theorem cV72 (hA : AllT p p.1.2.length xs ys) (hp : PgR p) (h : Lk lb sb mid p s n1 t1 xs n2 t2 ys H) (hr : Pt r lb H) (c : A_Cell) (hc : CellR c) (hf : ∀ f ∈ c.2.2.2.2, FSz f) (lo : List Nat) : ∃ x, callV cfg O (.fn 72 [] [.ptr r 0]) [clV c] lo H = some (B x, H) := by
  show ∃ x, callA cfg O 72 [clV c, .ptr r 0] lo H = _
  have ha : ld true 4 (.ptr H.length 0) (H ++ [.box ((enc_Cell c).map .p)]) = some (clV c) := ldA (len_Cell4 c) (by decide) H
  obtain ⟨x, e⟩ := call73 hA hp (h.push [.box ((enc_Cell c).map .p)]) c hc hf (H.length :: lo)
  refine ⟨!x, callA_same (rs := [B (!x)]) rfl ?_⟩
  rw [f72_eq]
  simp only [boxAgg, ha, (hr.push _).ld, e, core]
  exact cut3 _ lo H _
end
end Ir
end Go.Proofs.YtfdnamedmjhcfaaDoor

/- Looking at a state: a thread's stack. -/
set_option linter.unusedVariables false
set_option linter.unusedSimpArgs false
set_option maxRecDepth 100000
namespace Go.Proofs.YtfdnamedmjhcfaaDoor
open Go Go.AM
namespace Ir

theorem bmin (x y : Int) : bests false (I x) [I y] = some (I (min x y)) := by
  have : bests false (I x) [I y] = (best false (I x) (I y)).bind fun z => some z := rfl
  rw [this]
  have : best false (I x) (I y) = some (I (if y < x then y else x)) := rfl
  rw [this]
  have e : (if y < x then y else x) = min x y := by split <;> omega
  rw [e]
  rfl
theorem bmax (x y : Int) : bests true (I x) [I y] = some (I (max x y)) := by
  have : bests true (I x) [I y] = (best true (I x) (I y)).bind fun z => some z := rfl
  rw [this]
  have : best true (I x) (I y) = some (I (if y > x then y else x)) := rfl
  rw [this]
  have e : (if y > x then y else x) = max x y := by split <;> omega
  rw [e]
  rfl

/-- The generators that go on. -/
def Gn (mid : Nat) (H : Heap) : Prop := ∃ kvs c, H[mid]? = some (mapObj (fun n : Int => I n) kvs c) ∧ WfM kvs c ∧ ∀ q : Int, aget kvs q = none ∨ aget kvs q = some (I 1)
/-- Is all but the map as it was? -/
def Kp (mid : Nat) (H H' : Heap) : Prop := H.length ≤ H'.length ∧ ∀ (j : Nat) o, j ≠ mid → H[j]? = some o → H'[j]? = some o
theorem Kp.refl (mid : Nat) (H : Heap) : Kp mid H H := ⟨Nat.le_refl _, fun _ _ _ h => h⟩
theorem Kp.trans {mid : Nat} {H H' H'' : Heap} (h : Kp mid H H') (h' : Kp mid H' H'') : Kp mid H H'' := ⟨Nat.le_trans h.1 h'.1, fun j o hj e => h'.2 j o hj (h.2 j o hj e)⟩
theorem Kp.push (mid : Nat) (H l : Heap) : Kp mid H (H ++ l) := ⟨by simp, fun _ _ _ h => push_get? h l⟩
theorem Kp.set (mid : Nat) (H : Heap) (o : AObj) : Kp mid H (H.set mid o) := ⟨by simp, fun j o' hj h => by rw [List.getElem?_set_ne (fun e => hj e.symm)]; exact h⟩
theorem Gn.push {mid : Nat} {H : Heap} (h : Gn mid H) (l : Heap) : Gn mid (H ++ l) := by
  obtain ⟨kvs, c, h1, h2, h3⟩ := h
  exact ⟨kvs, c, push_get? h1 l, h2, h3⟩
theorem Gn.look {mid : Nat} {H : Heap} (h : Gn mid H) (q : Int) : ∃ z : Int, lookA .int (I 0) false (.mp mid) (I q) H = some (I z) := by
  obtain ⟨kvs, c, h1, h2, h3⟩ := h
  have lk := map_look (z := I 0) key_int h1 q
  rcases h3 q with e | e
  · rw [e] at lk; exact ⟨0, lk⟩
  · rw [e] at lk; exact ⟨1, lk⟩
theorem Gn.put {mid : Nat} {H : Heap} (h : Gn mid H) (q : Int) (lo : List Nat) : ∃ H', mapUpdA .int (.mp mid) (I q) (I 1) lo H = some H' ∧ Gn mid H' ∧ Kp mid H H' := by
  obtain ⟨kvs, c, h1, h2, h3⟩ := h
  have pu := map_put key_int h1 h2 q (v := I 1) (lo := lo) (okLevels_p _ _ [Ia q, Ia 1])
  refine ⟨_, pu, ⟨aput kvs q (I 1) c, _, List.getElem?_set_self (getElem?_lt h1), h2.put q (I 1), fun k => ?_⟩, Kp.set _ _ _⟩
  rw [aget_put]
  by_cases e : k = q
  · rw [if_pos e]; exact .inr rfl
  · rw [if_neg e]; exact h3 k

section
variable {lb sb mid r : Nat} {p : A_Prog} {s : A_State} {n1 n2 : Option Bool} {t1 t2 : Bool} {xs ys : List PV} {H : Heap}
theorem Lk.kp {H' : Heap} (h : Lk lb sb mid p s n1 t1 xs n2 t2 ys H) (hk : Kp mid H H') (h1 : lb ≠ mid) (h2 : sb ≠ mid) : Lk lb sb mid p s n1 t1 xs n2 t2 ys H' := ⟨hk.2 _ _ h1 h.lk, hk.2 _ _ h2 h.st⟩
theorem lv1 (b : Bool) (lo : List Nat) (G : Heap) : leave 1 lo [B b] G = some ([B b], G) := rfl

theorem loop113 (hA : AllT p p.1.2.length xs ys) (hp : PgR p) (h1 : lb ≠ mid) (h2 : sb ≠ mid) {nl : Option Bool} {l : List A_Frame} (hl : l.length < 2 ^ 62) (hf : ∀ f ∈ l, FSz f) (lo : List Nat) : ∀ (c k : Nat) (H : Heap), l.length - k = c → k ≤ l.length → (∀ j, j < k → ∀ f, l[j]? = some f → FrR p f) → Lk lb sb mid p s n1 t1 xs n2 t2 ys H → Gn mid H →
    ∃ x H', L113_6 [.ptr lb 0, Fs nl l, Fs nl l, I l.length, I k] lo H = some ([B x], H') ∧ Kp mid H H' ∧ Gn mid H' ∧ (x = true → ∀ f ∈ l, FrR p f) := by
  intro c
  induction c with
  | zero =>
    intro k H hc hk hr hL hG
    have : k = l.length := by omega
    subst this
    refine ⟨true, H, ?_, Kp.refl _ _, hG, fun _ f hf => ?_⟩
    · rw [L113_6_eq]
      simp only [Int.lt_irrefl, lv1, core]
    · obtain ⟨j, hj, rfl⟩ := List.getElem_of_mem hf
      exact hr j hj _ (List.getElem?_eq_getElem hj)
  | succ c ih =>
    intro k H hc hk hr hL hG
    have hk' : k < l.length := by omega
    have g : (k : Int) < l.length := by omega
    obtain ⟨f, hfe⟩ : ∃ f, l[k] = f := ⟨_, rfl⟩
    have hfs := hf f (hfe ▸ List.getElem_mem hk')
    have x1 : idxA 8 (Fs nl l) (I k) = some (.fp (l.flatMap enc_Frame) (k * 8)) := idxR hk'
    have x2 : ld true 8 (.fp (l.flatMap enc_Frame) (k * 8)) H = some (frV f) := by rw [ldR len_Frame8 hk' H, hfe]
    have b1 : boxO [] [I 0, I 0, I 0, I 0, I 0, I 0, .p nilS, .p nilS] H = some (.ptr H.length 0, H ++ [.box ([Ia 0, Ia 0, Ia 0, Ia 0, Ia 0, Ia 0, nilS, nilS].map .p)]) := boxO_p [Ia 0, Ia 0, Ia 0, Ia 0, Ia 0, Ia 0, nilS, nilS] H
    have s1 : stA 8 (.ptr H.length 0) (frV f) lo (H ++ [.box ([Ia 0, Ia 0, Ia 0, Ia 0, Ia 0, Ia 0, nilS, nilS].map .p)]) = some (H ++ [.box ((enc_Frame f).map .p)]) := stA_new rfl rfl (by decide)
    have hL1 := hL.push [.box ((enc_Frame f).map .p)]
    have hG1 := hG.push [.box ((enc_Frame f).map .p)]
    have hK1 := Kp.push mid H [.box ((enc_Frame f).map .p)]
    have hfx : ∀ l' j, ld false 1 (.ptr H.length j) (H ++ .box ((enc_Frame f).map .p) :: l') = ((enc_Frame f)[j]?).map .p := fun l' j => by
      have := at_app (H := H) (l := .box ((enc_Frame f).map .p) :: l') (i := 0) rfl
      rw [Nat.add_zero] at this
      rw [ld_box this, List.getElem?_map]
    have hfa : ld true 8 (.ptr H.length 0) (H ++ [.box ((enc_Frame f).map .p)]) = some (frV f) := ldA (len_Frame8 f) (by decide) H
    have key : ∀ low : Int, ∃ x H', L113_17 [.ptr lb 0, Fs nl l, I k, .ptr H.length 0, I low, Fs nl l, I l.length, I k] lo (H ++ [.box ((enc_Frame f).map .p)]) = some ([B x], H') ∧ Kp mid H H' ∧ Gn mid H' ∧ (x = true → ∀ f ∈ l, FrR p f) := by
      intro low
      obtain ⟨m, hm⟩ : ∃ m : Int, max 0 (min f.1 (wr (p.1.2.length - 1))) = m := ⟨_, rfl⟩
      have hL0 := hp.pos
      have hfew := hp.few
      have hwr : wr (p.1.2.length - 1) = (p.1.2.length : Int) - 1 := wrap_id (by omega)
      have hm1 : 0 ≤ m ∧ m < p.1.2.length := by omega
      have hmn : m.toNat < p.1.2.length := by omega
      have i1 := idxFn (p := p) hm1
      have lf := ldFn (List.getElem?_eq_getElem hmn) (show 2 < 5 by decide) (H ++ [.box ((enc_Frame f).map .p)])
      obtain ⟨x, e, ex⟩ := callFr hA hp hL1 f hfs lo
      have no : ∃ x H', some ([B false], H ++ [AObj.box ((enc_Frame f).map .p)]) = some ([B x], H') ∧ Kp mid H H' ∧ Gn mid H' ∧ (x = true → ∀ f ∈ l, FrR p f) := ⟨false, _, rfl, hK1, hG1, fun e => by cases e⟩
      rw [L113_17_eq]
      cases x with
      | false =>
        simp only [beq_self_eq_true, nilP, Nat.zero_add, hL1.l0, hfx, fr0, bmin, bmax, hm, i1, lf, fn2, hfa, e, lv1, core]
        exact no
      | true =>
      have hrk : ∀ j, j < k + 1 → ∀ f, l[j]? = some f → FrR p f := fun j hj f' hf' => by
        by_cases e : j = k
        · subst e
          rw [List.getElem?_eq_getElem hk', hfe] at hf'
          cases hf'
          exact ex rfl
        · exact hr j (by omega) f' hf'
      cases hw : wi f.2.2.1 (-1) (wr (low - 1)) with
      | false =>
        simp only [beq_self_eq_true, nilP, Nat.zero_add, hL1.l0, hfx, fr0, fr2, bmin, bmax, hm, i1, lf, fn2, hfa, e, call71w, hw, lv1, core]
        exact no
      | true =>
      have next : ∀ (G : Heap), Lk lb sb mid p s n1 t1 xs n2 t2 ys G → Gn mid G → Kp mid H G → ∃ x H', L113_33 [.ptr lb 0, Fs nl l, Fs nl l, I l.length, I k] lo G = some ([B x], H') ∧ Kp mid H H' ∧ Gn mid H' ∧ (x = true → ∀ f ∈ l, FrR p f) := by
        intro G a1 a2 a3
        obtain ⟨x, H', r1, r2, r3, r4⟩ := ih (k + 1) G (by omega) (by omega) hrk a1 a2
        have w : IntKind.i64.wrap ((k : Int) + 1) = ((k + 1 : Nat) : Int) := by rw [wrap_id (by omega), nxt]
        refine ⟨x, H', ?_, a3.trans r2, r3, r4⟩
        rw [L113_33_eq]
        simp only [w, core]
        exact r1
      cases hg : (p.1.2[m.toNat]).2.2.1 with
      | false =>
        by_cases d1 : 0 ≤ f.2.2.2.1
        · simp only [beq_self_eq_true, nilP, Nat.zero_add, hL1.l0, hfx, fr0, fr2, fr3, bmin, bmax, hm, i1, lf, fn2, hfa, e, call71w, hw, hg, d1, lv1, core]
          exact no
        by_cases d2 : f.2.2.2.1 < -1
        · simp only [beq_self_eq_true, nilP, Nat.zero_add, hL1.l0, hfx, fr0, fr2, fr3, bmin, bmax, hm, i1, lf, fn2, hfa, e, call71w, hw, hg, d1, d2, lv1, core]
          exact no
        · simp only [beq_self_eq_true, nilP, Nat.zero_add, hL1.l0, hfx, fr0, fr2, fr3, bmin, bmax, hm, i1, lf, fn2, hfa, e, call71w, hw, hg, d1, d2, core]
          exact next _ hL1 hG1 hK1
      | true =>
        by_cases d1 : 0 ≤ f.2.2.2.1
        rotate_left
        · simp only [beq_self_eq_true, nilP, Nat.zero_add, hL1.l0, hfx, fr0, fr2, fr3, bmin, bmax, hm, i1, lf, fn2, hfa, e, call71w, hw, hg, d1, lv1, core]
          exact no
        have d2 : ¬ f.2.2.2.1 < -1 := by omega
        have bd : buildA [(I 0), (I 0)] [(0, 1, I 5), (1, 1, I f.2.2.2.1)] = some (vlV (5, f.2.2.2.1)) := rfl
        have c112 := call112 hL1 (5, f.2.2.2.1) 5 lo
        have b4 : boxO [] [I 0, I 0, .p nilS, .p nilS] (H ++ [.box ((enc_Frame f).map .p)]) = some (.ptr (H.length + 1) 0, H ++ [.box ((enc_Frame f).map .p), .box (zCe.map .p)]) := by
          have := boxO_p zCe (H ++ [.box ((enc_Frame f).map .p)])
          rw [show (H ++ [AObj.box ((enc_Frame f).map .p)]).length = H.length + 1 by simp, List.append_assoc] at this
          exact this
        have s4 : stA 4 (.ptr (H.length + 1) 0) (.agg ((celE s (5, f.2.2.2.1) 5).map .p)) lo (H ++ [.box ((enc_Frame f).map .p), .box (zCe.map .p)]) = some (H ++ [.box ((enc_Frame f).map .p), .box ((celE s (5, f.2.2.2.1) 5).map .p)]) := by
          have := stA_new (H := H ++ [.box ((enc_Frame f).map .p)]) (zs := zCe) (xs := celE s (5, f.2.2.2.1) 5) (n := 4) (lo := lo) rfl (celE_len _ _ _) (by decide)
          simpa using this
        obtain ⟨num, hnum⟩ : ∃ z : Int, (celE s (5, f.2.2.2.1) 5)[1]? = some (Ia z) := by
          unfold celE
          split
          · exact ⟨_, rfl⟩
          · exact ⟨_, rfl⟩
        have cx : ld false 1 (.ptr (H.length + 1) 1) (H ++ [.box ((enc_Frame f).map .p), .box ((celE s (5, f.2.2.2.1) 5).map .p)]) = some (I num) := by
          rw [ld_box (at_app (H := H) (i := 1) rfl), List.getElem?_map, hnum]; rfl
        have hL2 := hL.push [.box ((enc_Frame f).map .p), .box ((celE s (5, f.2.2.2.1) 5).map .p)]
        have hG2 := hG.push [.box ((enc_Frame f).map .p), .box ((celE s (5, f.2.2.2.1) 5).map .p)]
        have hK2 := Kp.push mid H [.box ((enc_Frame f).map .p), .box ((celE s (5, f.2.2.2.1) 5).map .p)]
        have no2 : ∃ x H', some ([B false], H ++ [AObj.box ((enc_Frame f).map .p), .box ((celE s (5, f.2.2.2.1) 5).map .p)]) = some ([B x], H') ∧ Kp mid H H' ∧ Gn mid H' ∧ (x = true → ∀ f ∈ l, FrR p f) := ⟨false, _, rfl, hK2, hG2, fun e => by cases e⟩
        by_cases k0 : (k : Int) = 0
        · simp only [beq_self_eq_true, nilP, Nat.zero_add, hL1.l0, hfx, fr0, fr2, fr3, bmin, bmax, hm, i1, lf, fn2, hfa, e, call71w, hw, hg, d1, d2, bd, c112, b4, s4, k0, lv1, core]
          exact no2
        cases hok : okC s (5, f.2.2.2.1) 5 with
        | false =>
          rw [hok] at c112
          simp only [beq_self_eq_true, nilP, Nat.zero_add, hL1.l0, hfx, fr0, fr2, fr3, bmin, bmax, hm, i1, lf, fn2, hfa, e, call71w, hw, hg, d1, d2, bd, c112, b4, s4, k0, lv1, core]
          exact no2
        | true =>
        rw [hok] at c112
        by_cases e1 : num = 1
        rotate_left
        · simp only [beq_self_eq_true, nilP, Nat.zero_add, hL1.l0, hfx, fr0, fr2, fr3, bmin, bmax, hm, i1, lf, fn2, hfa, e, call71w, hw, hg, d1, d2, bd, c112, b4, s4, k0, cx, e1, lv1, core]
          exact no2
        obtain ⟨z, hz⟩ := hG2.look f.2.2.2.1
        by_cases e2 : z = 1
        · simp only [beq_self_eq_true, nilP, Nat.zero_add, hL1.l0, hfx, fr0, fr2, fr3, bmin, bmax, hm, i1, lf, fn2, hfa, e, call71w, hw, hg, d1, d2, bd, c112, b4, s4, k0, cx, e1, hL2.l6, hz, e2, lv1, core]
          exact no2
        · obtain ⟨G, g1, g2, g3⟩ := hG2.put f.2.2.2.1 lo
          simp only [beq_self_eq_true, nilP, Nat.zero_add, hL1.l0, hfx, fr0, fr2, fr3, bmin, bmax, hm, i1, lf, fn2, hfa, e, call71w, hw, hg, d1, d2, bd, c112, b4, s4, k0, cx, e1, hL2.l6, hz, e2, g1, core]
          exact next G (hL2.kp g3 h1 h2) g2 (hK2.trans g3)
    rw [L113_6_eq]
    by_cases k0 : (0 : Int) < k
    · have w : IntKind.i64.wrap ((k : Int) - 1) = ((k - 1 : Nat) : Int) := by rw [wrap_id (by omega)]; omega
      have hk1 : k - 1 < l.length := by omega
      have x3 : idxA 8 (Fs nl l) (I ((k - 1 : Nat) : Int)) = some (.fp (l.flatMap enc_Frame) ((k - 1) * 8)) := idxR hk1
      have x4 : ∀ G, ld false 1 (.fp (l.flatMap enc_Frame) ((k - 1) * 8 + 6)) G = some (Vs l[k - 1].2.2.2.2.2.1.1 l[k - 1].2.2.2.2.2.1.2) := fun G => by
        rw [fldR len_Frame8 hk1 (show 6 < 8 by decide) G]; rfl
      obtain ⟨x, H', r⟩ := key l[k - 1].2.2.2.2.2.1.2.length
      refine ⟨x, H', ?_, r.2⟩
      simp only [g, x1, x2, b1, s1, k0, w, x3, x4, core]
      exact r.1
    · obtain ⟨x, H', r⟩ := key 0
      refine ⟨x, H', ?_, r.2⟩
      simp only [g, x1, x2, b1, s1, k0, core]
      exact r.1
end
end Ir
end Go.Proofs.YtfdnamedmjhcfaaDoor

/- Looking at a state: a thread; all threads. -/
set_option linter.unusedVariables false
set_option linter.unusedSimpArgs false
set_option maxRecDepth 100000
namespace Go.Proofs.YtfdnamedmjhcfaaDoor
open Go Go.AM
namespace Ir
abbrev thV (t : A_Thread) : AV := .agg ((enc_Thread t).map .p)
theorem len_Thread5 (t : A_Thread) : (enc_Thread t).length = 5 := rfl
theorem th0 (t : A_Thread) : (enc_Thread t)[0]? = some (.sl t.1.1 false t.1.2.length (t.1.2.flatMap enc_Frame)) := _root_.id rfl
theorem th1 (t : A_Thread) : (enc_Thread t)[1]? = some (Ia t.2.1) := _root_.id rfl
theorem th2 (t : A_Thread) : (enc_Thread t)[2]? = some (Ia t.2.2.1) := _root_.id rfl

/-- A right thread. -/
structure ThR (p : A_Prog) (s : A_State) (t : A_Thread) : Prop where
  frames : ∀ f ∈ t.1.2, FrR p f
  lock : t.2.1 = 1 → okC s (5, t.2.2.1) 6 = true
  join : t.2.1 = 2 → 0 ≤ t.2.2.1 ∧ t.2.2.1 < s.2.2.2.1.2.length
  over : (t.2.1 = 3 ∨ t.2.1 = 4) ↔ t.1.2.length = 0
  state : 0 ≤ t.2.1 ∧ t.2.1 ≤ 4

section
variable {lb sb mid r : Nat} {p : A_Prog} {s : A_State} {n1 n2 : Option Bool} {t1 t2 : Bool} {xs ys : List PV} {H : Heap}

theorem call113 (hA : AllT p p.1.2.length xs ys) (hp : PgR p) (h1 : lb ≠ mid) (h2 : sb ≠ mid) {nl : Option Bool} {l : List A_Frame} (hl : l.length < 2 ^ 62) (hf : ∀ f ∈ l, FSz f) (lo : List Nat) (hL : Lk lb sb mid p s n1 t1 xs n2 t2 ys H) (hG : Gn mid H) :
    ∃ x H', callA cfg O 113 [.ptr lb 0, Fs nl l] lo H = some (B x, H') ∧ Kp mid H H' ∧ Gn mid H' ∧ (x = true → ∀ f ∈ l, FrR p f) := by
  obtain ⟨x, H', e, r⟩ := loop113 hA hp h1 h2 (nl := nl) hl hf lo l.length 0 H rfl (by omega) (fun j hj => by omega) hL hG
  have m : cfg.mode 113 = 1 := rfl
  refine ⟨x, H', callA_keep m (rs := [B x]) ?_, r⟩
  rw [f113_eq]
  simp only [core]
  exact e

theorem call75 (hA : AllT p p.1.2.length xs ys) (hp : PgR p) (h1 : lb ≠ mid) (h2 : sb ≠ mid) (hz : SSz s) (t : A_Thread) (hl : t.1.2.length < 2 ^ 62) (hf : ∀ f ∈ t.1.2, FSz f) (lo : List Nat) (hL : Lk lb sb mid p s n1 t1 xs n2 t2 ys H) (hG : Gn mid H) :
    ∃ x H', callA cfg O 75 [.ptr lb 0, thV t] lo H = some (B x, H') ∧ Kp mid H H' ∧ Gn mid H' ∧ (x = true → ThR p s t) := by
  have m75 : cfg.mode 75 = 1 := rfl
  suffices hs : ∃ x H', O.ent 75 [.ptr lb 0, thV t] lo H = some ([B x], H') ∧ Kp mid H H' ∧ Gn mid H' ∧ (x = true → ThR p s t) from by
    obtain ⟨x, H', e, r⟩ := hs
    exact ⟨x, H', callA_keep m75 (rs := [B x]) e, r⟩
  have hL1 := hL.push [.box ((enc_Thread t).map .p)]
  have hG1 := hG.push [.box ((enc_Thread t).map .p)]
  have hK1 := Kp.push mid H [.box ((enc_Thread t).map .p)]
  have hx : ∀ j, ld false 1 (.ptr H.length j) (H ++ [.box ((enc_Thread t).map .p)]) = ((enc_Thread t)[j]?).map .p := fun j => ldB _ _ _ _
  have hxv : ld true 2 (.ptr H.length 3) (H ++ [.box ((enc_Thread t).map .p)]) = some (.agg [I t.2.2.2.1, I t.2.2.2.2]) := by
    rw [ldAgg_box (xs := (enc_Thread t).map .p) (by simp) (by rw [List.length_map, len_Thread5]; decide) (by rw [List.length_map, len_Thread5]; decide)]
    rfl
  have c111 : ∀ lo, callA cfg O 111 [.ptr sb 0, .agg [I t.2.2.2.1, I t.2.2.2.2]] lo (H ++ [.box ((enc_Thread t).map .p)]) = some (B (fitsV s t.2.2.2), H ++ [.box ((enc_Thread t).map .p)]) := fun lo => call111 hL1.st t.2.2.2 lo
  have bz : buildA [(I 0), (I 0)] [] = some (.agg [I 0, I 0]) := rfl
  have no : ∃ x H', some ([B false], H ++ [AObj.box ((enc_Thread t).map .p)]) = some ([B x], H') ∧ Kp mid H H' ∧ Gn mid H' ∧ (x = true → ThR p s t) := ⟨false, _, rfl, hK1, hG1, fun e => by cases e⟩
  have frm : ∀ G, Lk lb sb mid p s n1 t1 xs n2 t2 ys G → Gn mid G → Kp mid H G → (∀ j, ld false 1 (.ptr H.length j) G = ((enc_Thread t)[j]?).map .p) → (t.2.1 = 1 → okC s (5, t.2.2.1) 6 = true) → (t.2.1 = 2 → 0 ≤ t.2.2.1 ∧ t.2.2.1 < s.2.2.2.1.2.length) → ((t.2.1 = 3 ∨ t.2.1 = 4) ↔ t.1.2.length = 0) → (0 ≤ t.2.1 ∧ t.2.1 ≤ 4) →
      ∃ x H', L75_31 [.ptr lb 0, .ptr H.length 0] lo G = some ([B x], H') ∧ Kp mid H H' ∧ Gn mid H' ∧ (x = true → ThR p s t) := by
    intro G a1 a2 a3 a4 b1 b2 b3 b4
    obtain ⟨x, H', e, k, g, fr⟩ := call113 hA hp h1 h2 (nl := t.1.1) hl hf lo a1 a2
    refine ⟨x, H', ?_, a3.trans k, g, fun h => ⟨fr h, b1, b2, b3, b4⟩⟩
    rw [L75_31_eq]
    simp only [Nat.zero_add, a4, th0, e, lv1, core]
  rw [f75_eq]
  by_cases a34 : t.2.1 = 3 ∨ t.2.1 = 4
  · -- over
    by_cases z0 : (t.1.2.length : Int) = 0
    rotate_left
    · rcases a34 with a | a
      · simp only [beq_self_eq_true, boxAgg, Nat.zero_add, hx, th0, th1, a, Int.reduceEq, z0, lv1, core]
        exact no
      · simp only [beq_self_eq_true, boxAgg, Nat.zero_add, hx, th0, th1, a, Int.reduceEq, z0, lv1, core]
        exact no
    cases hfit : fitsV s t.2.2.2 with
    | false =>
      rw [hfit] at c111
      rcases a34 with a | a
      · simp only [beq_self_eq_true, boxAgg, Nat.zero_add, hx, hxv, th0, th1, a, Int.reduceEq, z0, nilP, hL1.l3, c111, lv1, core]
        exact no
      · simp only [beq_self_eq_true, boxAgg, Nat.zero_add, hx, hxv, th0, th1, a, Int.reduceEq, z0, nilP, hL1.l3, c111, lv1, core]
        exact no
    | true =>
      rw [hfit] at c111
      by_cases o0 : t.2.2.1 = 0
      rotate_left
      · rcases a34 with a | a
        · have hw : wi 3 0 4 = true := rfl
          simp only [beq_self_eq_true, boxAgg, Nat.zero_add, hx, hxv, th0, th1, th2, a, Int.reduceEq, z0, nilP, hL1.l3, c111, call71w, hw, o0, lv1, core]
          exact no
        · have hw : wi 4 0 4 = true := rfl
          simp only [beq_self_eq_true, boxAgg, Nat.zero_add, hx, hxv, th0, th1, th2, a, Int.reduceEq, z0, nilP, hL1.l3, c111, call71w, hw, o0, lv1, core]
          exact no
      have fin := frm _ hL1 hG1 hK1 hx (fun h => by omega) (fun h => by omega) ⟨fun _ => by omega, fun _ => a34⟩ (by omega)
      rcases a34 with a | a
      · have hw : wi 3 0 4 = true := rfl
        simp only [beq_self_eq_true, boxAgg, Nat.zero_add, hx, hxv, th0, th1, th2, a, Int.reduceEq, z0, nilP, hL1.l3, c111, call71w, hw, o0, core]
        exact fin
      · have hw : wi 4 0 4 = true := rfl
        simp only [beq_self_eq_true, boxAgg, Nat.zero_add, hx, hxv, th0, th1, th2, a, Int.reduceEq, z0, nilP, hL1.l3, c111, call71w, hw, o0, core]
        exact fin
  · have a3 : ¬ t.2.1 = 3 := fun h => a34 (.inl h)
    have a4 : ¬ t.2.1 = 4 := fun h => a34 (.inr h)
    by_cases z0 : (t.1.2.length : Int) = 0
    · simp only [beq_self_eq_true, boxAgg, Nat.zero_add, hx, th0, th1, a3, a4, z0, lv1, core]
      exact no
    by_cases v0 : t.2.2.2.1 = 0 ∧ t.2.2.2.2 = 0
    rotate_left
    · simp only [beq_self_eq_true, boxAgg, Nat.zero_add, hx, hxv, th0, th1, a3, a4, z0, bz, ne2, v0, lv1, core]
      exact no
    cases hfit : fitsV s t.2.2.2 with
    | false =>
      rw [hfit] at c111
      simp only [beq_self_eq_true, boxAgg, Nat.zero_add, hx, hxv, th0, th1, a3, a4, z0, bz, ne2, v0, and_self, nilP, hL1.l3, lv1, core]
      rw [v0.1, v0.2] at c111
      simp only [c111, lv1, core]
      exact no
    | true =>
      rw [hfit, v0.1, v0.2] at c111
      cases hw : wi t.2.1 0 4 with
      | false =>
        simp only [beq_self_eq_true, boxAgg, Nat.zero_add, hx, hxv, th0, th1, a3, a4, z0, bz, ne2, v0, and_self, nilP, hL1.l3, c111, call71w, hw, lv1, core]
        exact no
      | true =>
      have hw1 := wi_iff.mp hw
      have hov : (t.2.1 = 3 ∨ t.2.1 = 4) ↔ t.1.2.length = 0 := ⟨fun h => absurd h a34, fun h => by omega⟩
      by_cases s1 : t.2.1 = 1
      · have hw' : wi 1 0 4 = true := rfl
        have bd : buildA [(I 0), (I 0)] [(0, 1, I 5), (1, 1, I t.2.2.1)] = some (vlV (5, t.2.2.1)) := rfl
        have c112 := call112 hL1 (5, t.2.2.1) 6 lo
        have b4 : boxO [] [I 0, I 0, .p nilS, .p nilS] (H ++ [.box ((enc_Thread t).map .p)]) = some (.ptr (H.length + 1) 0, H ++ [.box ((enc_Thread t).map .p), .box (zCe.map .p)]) := by
          have := boxO_p zCe (H ++ [.box ((enc_Thread t).map .p)])
          rw [show (H ++ [AObj.box ((enc_Thread t).map .p)]).length = H.length + 1 by simp, List.append_assoc] at this
          exact this
        have s4 : stA 4 (.ptr (H.length + 1) 0) (.agg ((celE s (5, t.2.2.1) 6).map .p)) lo (H ++ [.box ((enc_Thread t).map .p), .box (zCe.map .p)]) = some (H ++ [.box ((enc_Thread t).map .p), .box ((celE s (5, t.2.2.1) 6).map .p)]) := by
          have := stA_new (H := H ++ [.box ((enc_Thread t).map .p)]) (zs := zCe) (xs := celE s (5, t.2.2.1) 6) (n := 4) (lo := lo) rfl (celE_len _ _ _) (by decide)
          simpa using this
        have hL2 := hL.push [.box ((enc_Thread t).map .p), .box ((celE s (5, t.2.2.1) 6).map .p)]
        have hG2 := hG.push [.box ((enc_Thread t).map .p), .box ((celE s (5, t.2.2.1) 6).map .p)]
        have hK2 := Kp.push mid H [.box ((enc_Thread t).map .p), .box ((celE s (5, t.2.2.1) 6).map .p)]
        have hx2 : ∀ j, ld false 1 (.ptr H.length j) (H ++ [.box ((enc_Thread t).map .p), .box ((celE s (5, t.2.2.1) 6).map .p)]) = ((enc_Thread t)[j]?).map .p := fun j => by
          have := at_app (H := H) (l := [.box ((enc_Thread t).map .p), .box ((celE s (5, t.2.2.1) 6).map .p)]) (i := 0) rfl
          rw [Nat.add_zero] at this
          rw [ld_box this, List.getElem?_map]
        cases hok : okC s (5, t.2.2.1) 6 with
        | false =>
          rw [hok] at c112
          have no2 : ∃ x H', some ([B false], H ++ [AObj.box ((enc_Thread t).map .p), .box ((celE s (5, t.2.2.1) 6).map .p)]) = some ([B x], H') ∧ Kp mid H H' ∧ Gn mid H' ∧ (x = true → ThR p s t) := ⟨false, _, rfl, hK2, hG2, fun e => by cases e⟩
          simp only [beq_self_eq_true, boxAgg, Nat.zero_add, hx, hxv, th0, th1, th2, s1, Int.reduceEq, z0, bz, ne2, v0, and_self, nilP, hL1.l3, c111, call71w, hw', bd, c112, b4, s4, lv1, core]
          exact no2
        | true =>
          rw [hok] at c112
          have fin := frm _ hL2 hG2 hK2 hx2 (fun _ => hok) (fun h => by omega) hov hw1
          simp only [beq_self_eq_true, boxAgg, Nat.zero_add, hx, hxv, th0, th1, th2, s1, Int.reduceEq, z0, bz, ne2, v0, and_self, nilP, hL1.l3, c111, call71w, hw', bd, c112, b4, s4, core]
          exact fin
      by_cases s2 : t.2.1 = 2
      · have hw' : wi 2 0 4 = true := rfl
        cases hj : wi t.2.2.1 0 (wr (s.2.2.2.1.2.length - 1)) with
        | false =>
          simp only [beq_self_eq_true, boxAgg, Nat.zero_add, hx, hxv, th0, th1, th2, s2, Int.reduceEq, z0, bz, ne2, v0, and_self, nilP, hL1.l3, c111, call71w, hw', hL1.st.s3, hj, lv1, core]
          exact no
        | true =>
          have hj1 := wi_iff.mp hj
          have hth := hz.threads
          rw [wr, wrap_id (by omega)] at hj1
          have fin := frm _ hL1 hG1 hK1 hx (fun h => by omega) (fun _ => by omega) hov hw1
          simp only [beq_self_eq_true, boxAgg, Nat.zero_add, hx, hxv, th0, th1, th2, s2, Int.reduceEq, z0, bz, ne2, v0, and_self, nilP, hL1.l3, c111, call71w, hw', hL1.st.s3, hj, core]
          exact fin
      by_cases o0 : t.2.2.1 = 0
      · have fin := frm _ hL1 hG1 hK1 hx (fun h => absurd h s1) (fun h => absurd h s2) hov hw1
        simp only [beq_self_eq_true, boxAgg, Nat.zero_add, hx, hxv, th0, th1, th2, a3, a4, s1, s2, z0, bz, ne2, v0, and_self, nilP, hL1.l3, c111, call71w, hw, o0, core]
        exact fin
      · simp only [beq_self_eq_true, boxAgg, Nat.zero_add, hx, hxv, th0, th1, th2, a3, a4, s1, s2, z0, bz, ne2, v0, and_self, nilP, hL1.l3, c111, call71w, hw, o0, lv1, core]
        exact no
end
end Ir
end Go.Proofs.YtfdnamedmjhcfaaDoor
