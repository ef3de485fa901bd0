/-
slices.SortFunc at structs: the shelf's contracts joined to the abstract machine.
-/
import Derived.Test.YtfdnamedmjhcfaaAm28
import Derived.Shelf.SlSortCmp.WholeK
import Derived.Shelf.SlSortCmp.NoneTotal
set_option linter.unusedVariables false
set_option linter.unusedSimpArgs false
set_option linter.unusedSectionVars false
namespace Go.AM
variable [Know]
open Go.Proofs Go.Shelf Go.RowKit Go.Lib Go.Sort
variable {P : Program} {cfg : Cfg}

theorem sortC_of {ρ : Ren} {k : Nat} (L : SlLaysF0.n6 P ρ) (aE : ∀ w, (isAgg (ρ.t 24)).run P w = .ok true w) (zE : ∀ w, (Go.sizeOf (ρ.t 24)).run P w = .ok k w) : SortC P (ρ.f 6) k :=
  fun n enc hk h1 cf hO g cb blk off cap d w eg hc hH hb hs => AnyQ.slices_SortFunc_eq L k aE zE enc hk h1 cf hO g cb blk off cap d w eg hc hH hb hs
theorem sortN_of {ρ : Ren} (L : SlLaysF0.n6 P ρ) : SortN P (ρ.f 6) := fun p cap fv w => AnyF.slices_SortFunc_none L p cap fv w

/-- One function of the shelf's, at rows of k cells. -/
theorem ExtOk.one {f : FuncId} {k : Nat} (h : ∀ g q, cfg.ext g = some q → g = f ∧ q = .sort true k) (hf : ∃ fn, P.funcs[f]? = some fn ∧ fn.body.isSome = true ∧ (fn.name == "runtime.NumGoroutine") = false) (hS : SortC P f k) (hN : SortN P f) : ExtOk P cfg := by
  intro g q hg O hO args lo H rs H' he vs w β F hI hv hlo
  obtain ⟨rfl, rfl⟩ := h g q hg
  exact sort_sound hO hf hS hN he hI hv hlo

/-! ### What sorting does to a list -/
section
variable {cfg : Cfg} {O : Oracle}
theorem cmpRow_of {cl a : AV} {cf : AV → Int} : ∀ (bs : List AV), (∀ b ∈ bs, cmpOne cfg O cl a b = some (cf b)) → cmpRow cfg O cl a bs = some (bs.map cf) := by
  intro bs
  induction bs with
  | nil => intro _; rfl
  | cons b bs ih =>
    intro h
    simp only [cmpRow, h b (List.mem_cons_self ..), ih fun x hx => h x (List.mem_cons_of_mem _ hx), obs, List.map_cons]
theorem cmpTab_of {cl : AV} {cf : AV → AV → Int} {all : List AV} : ∀ (l : List AV), (∀ a ∈ l, ∀ b ∈ all, cmpOne cfg O cl a b = some (cf a b)) → cmpTab cfg O cl all l = some (l.map fun a => all.map (cf a)) := by
  intro l
  induction l with
  | nil => intro _; rfl
  | cons a l ih =>
    intro h
    simp only [cmpTab, cmpRow_of all fun b hb => h a (List.mem_cons_self ..) b hb, ih fun x hx => h x (List.mem_cons_of_mem _ hx), obs, List.map_cons]

/-- A list of structs sorted by a strict weak order: sorted, and the same elements. -/
theorem sort_run {β : Type} {enc : β → List PV} {k : Nat} (hk0 : 0 < k) (hk : ∀ x, (enc x).length = k) {cm : FuncId} {cap : List AV} (hcap : cap.all (AV.ltd 0) = true) {cf : β → β → Int} {id g : Nat} {H : Heap} {l : List β} (hn : l.length < 2 ^ 40) (h0 : 0 < l.length) (ho : H[id]? = some (.row g k (l.flatMap enc)))
    (hcf : ∀ x ∈ l, ∀ y ∈ l, cmpOne cfg O (.fn cm [] cap) (.agg ((enc x).map .p)) (.agg ((enc y).map .p)) = some (cf x y)) (hw : SWO fun x y => decide (cf x y < 0)) :
    ∃ l' : List β, l'.Perm l ∧ l'.Pairwise (fun x y => ¬ cf y x < 0) ∧ sortRun cfg O (true, k) [.row id g 0 l.length, .fn cm [] cap] H = some ([], H.set id (.row g k (l'.flatMap enc))) := by
  obtain ⟨m, hm⟩ : ∃ m, l.length = m + 1 := ⟨l.length - 1, by omega⟩
  have hlen : (l.flatMap enc).length = l.length * k := rows_length hk l
  have hrow : ∀ i (hi : i < l.length), rowAt k (l.flatMap enc) i = enc l[i] := fun i hi => rows_part hk (List.getElem?_eq_getElem hi)
  let E : β → AV := fun x => .agg ((enc x).map .p)
  have hels : ((List.range l.length).map fun i => elemA true (rowAt k ((l.flatMap enc).drop 0) i)) = l.map E := by
    apply List.ext_getElem (by simp)
    intro i h1 h2
    have hi : i < l.length := by simpa using h2
    simp only [List.getElem_map, List.getElem_range, List.drop_zero, hrow i hi]
    rfl
  let at' : _root_.Fin (m + 1) → β := fun i => l[i.val]'(by have := i.isLt; omega)
  have htab : ∃ tab, cmpTab cfg O (.fn cm [] cap) (l.map E) (l.map E) = some tab ∧ ∀ i j : _root_.Fin (m + 1), (tab.getD i.val []).getD j.val 0 = cf (at' i) (at' j) := by
    have key : ∀ (q : List β), (∀ x ∈ q, x ∈ l) → cmpTab cfg O (.fn cm [] cap) (l.map E) (q.map E) = some (q.map fun x => l.map fun y => cf x y) := by
      intro q
      induction q with
      | nil => intro _; rfl
      | cons x q ih =>
        intro hq
        have hx := hq x (List.mem_cons_self ..)
        have hr : ∀ (r : List β), (∀ y ∈ r, y ∈ l) → cmpRow cfg O (.fn cm [] cap) (E x) (r.map E) = some (r.map fun y => cf x y) := by
          intro r
          induction r with
          | nil => intro _; rfl
          | cons y r ih2 =>
            intro hr
            simp only [List.map_cons, cmpRow, hcf x hx y (hr y (List.mem_cons_self ..)), E, obs]
            have := ih2 fun z hz => hr z (List.mem_cons_of_mem _ hz)
            simp only [E] at this
            simp only [this, obs]
        simp only [List.map_cons, cmpTab, hr l fun _ h => h, ih fun z hz => hq z (List.mem_cons_of_mem _ hz), obs]
    refine ⟨_, key l fun _ h => h, fun i j => ?_⟩
    have hi : i.val < l.length := by have := i.isLt; omega
    have hj : j.val < l.length := by have := j.isLt; omega
    simp only [List.getD_eq_getElem?_getD, List.getElem?_map, List.getElem?_eq_getElem hi, List.getElem?_eq_getElem hj, Option.map_some, Option.getD_some, at']
  obtain ⟨tab, ht, htg⟩ := htab
  have hlt : (tabLt (n := m + 1) tab) = fun i j => decide (cf (at' i) (at' j) < 0) := by
    funext i j
    unfold tabLt
    rw [htg]
  have hswo : SWO (tabLt (n := m + 1) tab) := by
    rw [hlt]
    exact ⟨fun x => hw.irrefl _, fun x y z => hw.trans _ _ _, fun x y z => hw.ntrans _ _ _⟩
  have hps := pdq_sorts (tabLt (n := m + 1) tab) hswo (Array.ofFn (n := m + 1) _root_.id) 0 (m + 1) (Lib.bitLen (m + 1)) true true (Nat.zero_le _) (by simp) (Or.inl rfl)
  have hsp : sortP (m + 1) tab = some ((pdq (tabLt tab) (Array.ofFn (n := m + 1) _root_.id) 0 (m + 1) (Lib.bitLen (m + 1)) true true).toList.map Fin.val) := by
    unfold sortP
    exact if_pos hswo
  generalize pdq (tabLt (n := m + 1) tab) (Array.ofFn (n := m + 1) _root_.id) 0 (m + 1) (Lib.bitLen (m + 1)) true true = D at *
  obtain ⟨⟨hsz, _, hperm⟩, hsort⟩ := hps
  simp only [Array.size_ofFn] at hsz
  refine ⟨D.toList.map at', ?_, ?_, ?_⟩
  · have e1 : D.extract 0 (m + 1) = D := by
      have := Array.extract_size (xs := D)
      rwa [hsz] at this
    have e2 : (Array.ofFn (n := m + 1) _root_.id).extract 0 (m + 1) = Array.ofFn (n := m + 1) _root_.id := by
      have := Array.extract_size (xs := Array.ofFn (n := m + 1) _root_.id)
      rwa [Array.size_ofFn] at this
    rw [e1, e2] at hperm
    have e3 : (Array.ofFn (n := m + 1) _root_.id).toList.map at' = l := by
      apply List.ext_getElem (by simp [hm])
      intro i h1 h2
      rw [List.getElem_map, Array.getElem_toList, Array.getElem_ofFn]
      rfl
    have := hperm.map at'
    rwa [e3] at this
  · rw [List.pairwise_iff_getElem]
    intro i j hi hj hij
    have hi' : i < D.size := by simpa using hi
    have hj' : j < D.size := by simpa using hj
    have := hsort i j (Nat.zero_le _) hij (by omega)
    rw [getElem!_pos D i hi', getElem!_pos D j hj', hlt] at this
    simp only [decide_eq_false_iff_not] at this
    simpa using this
  · have hnew : (D.toList.map Fin.val).flatMap (fun i => rowAt k ((l.flatMap enc).drop 0) i) = (D.toList.map at').flatMap enc := by
      rw [List.flatMap_map, List.flatMap_map, List.drop_zero]
      congr 1
      funext i
      exact hrow i.val (by have := i.isLt; omega)
    have hall : splice (l.flatMap enc) 0 ((D.toList.map at').flatMap enc) = (D.toList.map at').flatMap enc := by
      rw [splice_all]
      have hD : D.toList.length = m + 1 := by rw [Array.length_toList, hsz]
      rw [rows_length hk, rows_length hk, List.length_map, hD, hm]
    unfold sortRun
    simp only [ho]
    rw [if_pos (by simp only [true_and]; exact ⟨hk0, by rw [hlen]; omega, h0, hn, hcap⟩), hels, ht]
    simp only [obs]
    rw [hm, hsp]
    simp only [obs]
    rw [hnew, hall]
end
end Go.AM
