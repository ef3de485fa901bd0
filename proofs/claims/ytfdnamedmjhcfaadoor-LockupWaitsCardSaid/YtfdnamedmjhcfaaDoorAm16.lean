/-
A law: where the abstract machine says true of all arguments of their types, the call does.
-/
import Derived.Test.YtfdnamedmjhcfaaDoorAm15
import Derived.ChangeOld
import Derived.Below
import Derived.Carry
import Derived.SizedLaws
import Derived.JoinedCond
import Derived.ShutString
set_option linter.unusedVariables false
set_option linter.unusedSimpArgs false
set_option linter.unnecessarySimpa false
set_option linter.unusedSectionVars false
namespace Go.AM
variable [Know]
open Go.ChangeShapes Go.WideShapes Go.RowKit

/-- A value's cells, seen as a value. -/
def argAV (P : Program) (t : TypeId) (xs : List PV) : AV :=
  match P.underlying t with
  | some (.struct _) | some (.array ..) => .agg (xs.map .p)
  | _ => match xs with | [x] => .p x | _ => .any

/-- Arguments of these types, of bulk at most so much. -/
inductive TyArgs (P : Program) : List TypeId → List AV → Nat → Prop
  | nil (m : Nat) : TyArgs P [] [] m
  | cons {t ts xs avs m m1 m2} (h : TyC P t xs m1) (h' : TyArgs P ts avs m2) (hm : m1 + m2 ≤ m) : TyArgs P (t :: ts) (argAV P t xs :: avs) m

section
variable {H : Type} {enc : TypeId × Value → H} {P : Program} {W : World}

theorem TyC.one {t : TypeId} {xs : List PV} {m : Nat} (h : TyC P t xs m) : (∃ fs, P.underlying t = some (.struct fs)) ∨ (∃ n e, P.underlying t = some (.array n e)) ∨
    ((∀ fs, P.underlying t ≠ some (.struct fs)) ∧ (∀ n e, P.underlying t ≠ some (.array n e)) ∧ ∃ x, xs = [x]) := by
  cases h with
  | bool _ h => exact .inr (.inr ⟨by simp [h], by simp [h], _, rfl⟩)
  | int _ h => exact .inr (.inr ⟨by simp [h], by simp [h], _, rfl⟩)
  | str _ h => exact .inr (.inr ⟨by simp [h], by simp [h], _, rfl⟩)
  | nil h => exact .inr (.inr ⟨by simp [h], by simp [h], _, rfl⟩)
  | sl _ h => exact .inr (.inr ⟨by simp [h], by simp [h], _, rfl⟩)
  | struct _ h => exact .inl ⟨_, h⟩
  | arr _ h => exact .inr (.inl ⟨_, _, h⟩)

theorem arg_read {bk : DataW H → Nat} (hb : BulkOk bk) {S : List TypeId} (hS : closedB P S = true) {base : Nat} {t : TypeId} {v : Value} {d : DataW H} {p : List MemPlace} (ht : t ∈ S) (hv : Value.okWide P W .any base t v)
    (h : DataW.Trod enc P W 0 (fun _ => true) true t v d p) : ∃ xs, TyC P t xs (bk d) ∧ RA [] noB (allF W) W v (argAV P t xs) := by
  obtain ⟨fuel, hf⟩ := h
  obtain ⟨xs, r1, r2⟩ := read_sound hb hS fuel t _ d p ht hf
  refine ⟨xs, r2, ?_⟩
  have hagg : ∀ cs : Array Value, v = .agg cs → RA [] noB (allF W) W v (.agg (xs.map .p)) := by
    intro cs hcs
    subst hcs
    have hr : RAs [] noB (allF W) W cs.toList (xs.map .p) := by
      simp only [Value.cells] at r1
      clear r2 hf hv
      generalize cs.toList = l at r1
      induction r1 with
      | nil => exact .nil
      | cons h _ ih => exact .cons (.p h) ih
    exact hr.row.agg
  rcases r2.one with ⟨fs, hu⟩ | ⟨n, e, hu⟩ | ⟨h1, h2, x, rfl⟩
  · simp only [Value.okWide, hu] at hv
    obtain ⟨cs, hcs, _⟩ := hv
    unfold argAV
    rw [hu]
    exact hagg cs hcs
  · simp only [Value.okWide, hu] at hv
    obtain ⟨cs, hcs, _⟩ := hv
    unfold argAV
    rw [hu]
    exact hagg cs hcs
  · have hleaf : leafyV v = true := by
      have ht' := List.all_eq_true.mp hS t ht
      unfold typeOk at ht'
      cases hu : P.underlying t with
      | none => simp [hu] at ht'
      | some ds =>
        cases ds with
        | bool => obtain ⟨b, rfl⟩ := okWide_bool hu hv; rfl
        | int k =>
          simp only [Value.okWide, hu, Cell.okWide] at hv
          cases v <;> simp_all [Cell.ok, leafyV]
        | string => obtain ⟨b, rfl⟩ := okWide_string hu hv; rfl
        | slice e => obtain ⟨a, l, c, rfl⟩ := okWide_slice hu hv; rfl
        | struct fs => exact (h1 fs hu).elim
        | array n e => exact (h2 n e hu).elim
        | _ => simp [hu] at ht'
    have e : argAV P t [x] = .p x := by
      unfold argAV
      split
      · rename_i hu; exact (h1 _ hu).elim
      · rename_i hu; exact (h2 _ _ hu).elim
      · rfl
    rw [e]
    rw [leafy_cells hleaf] at r1
    cases r1 with
    | cons h _ => exact .p h

theorem args_read {bk : DataW H → Nat} (hb : BulkOk bk) {S : List TypeId} (hS : closedB P S = true) {base : Nat} : ∀ (ts : List TypeId) (vs : List Value) (ds : List (DataW H)) (p : List MemPlace), (∀ t ∈ ts, t ∈ S) →
    (∀ (j : Nat) t v, ts[j]? = some t → vs[j]? = some v → Value.okWide P W .any base t v) → DataW.TrodAll enc P W 0 (fun _ => true) true ts vs ds p →
    ∃ avs, TyArgs P ts avs (ds.map bk).sum ∧ RAs [] noB (allF W) W vs avs := by
  intro ts
  induction ts with
  | nil =>
    intro vs ds p _ _ h
    obtain ⟨rfl, rfl, _⟩ := trodAll_nil h
    exact ⟨[], .nil _, .nil⟩
  | cons t ts ih =>
    intro vs ds p hts hv h
    obtain ⟨v, vs', d, ds', p', q, rfl, rfl, rfl, h1, h2⟩ := trodAll_cons h
    obtain ⟨xs, k1, k2⟩ := arg_read hb hS (hts t (by simp)) (hv 0 t v rfl rfl) h1
    obtain ⟨avs, q1, q2⟩ := ih vs' ds' q (fun t ht => hts t (by simp [ht])) (fun j t v e1 e2 => hv (j + 1) t v (by simpa using e1) (by simpa using e2)) h2
    exact ⟨_, .cons k1 q1 (by simp), .cons k2 q2⟩

theorem trodAll_below (hl : laidOutB P = true) {W' : World} (hb : Below W.heap.size W W') : ∀ (ts : List TypeId) (vs : List Value) (ds : List (DataW H)) (p : List MemPlace), (∀ t ∈ ts, P.readableRec t = true ∧ t < P.types.size) →
    DataW.TrodAll enc P W 0 (fun _ => true) true ts vs ds p → DataW.TrodAll enc P W' 0 (fun b => decide (b < W.heap.size)) true ts vs ds p := by
  intro ts
  induction ts with
  | nil =>
    intro vs ds p _ h
    obtain ⟨rfl, rfl, rfl⟩ := trodAll_nil h
    simp [DataW.TrodAll]
  | cons t ts ih =>
    intro vs ds p hts h
    obtain ⟨v, vs', d, ds', p', q, rfl, rfl, rfl, h1, h2⟩ := trodAll_cons h
    have hlt : ∀ x ∈ p', x.block < W.heap.size := by
      obtain ⟨m, hm⟩ := h1
      exact DataW.trod_lt m _ _ _ hm
    exact ⟨p', q, Below.trod hl (hts t (by simp)).1 (hts t (by simp)).2 h1 hb hlt, ih vs' ds' q (fun t ht => hts t (by simp [ht])) h2, rfl⟩

/-- What the abstract machine says of a call, the call does; and it touches nothing that was. -/
theorem law_calls {cfg : Cfg} {f : FuncId} {args : Array Value} {avs : List AV} {H' : Heap} (hx : ExtOk P cfg) (hg : RngOk P cfg) (hr : (den P cfg).ent f avs [] [] = some ([.p (.v (.bool true))], H')) (hv : RAs [] noB (allF W) W args.toList avs) (hkn : ∀ b j v, Know.cell b j = some v → W.cell? ⟨b, j, none⟩ = some v) :
    Calls P f args W fun e W' => e = .returned (.bool true) ∧ Below W.heap.size W W' := by
  have hI : Inv [] noB (allF W) W := ⟨fun id o ho => by simp at ho, fun _ _ _ _ _ _ _ _ e _ => (by cases e), fun _ _ => rfl, fun b j h => h, fun _ _ _ _ _ e => (by cases e), fun b j v e => ⟨⟨v, hkn b j v e⟩, hkn b j v e⟩⟩
  obtain ⟨h, _⟩ := den_sound hx hg f avs [] [] _ H' hr args W noB (allF W) hI hv (fun l hl => by simp at hl)
  refine (h.code fun v W' hh => ?_).2.mono fun e W' hh => ?_
  · obtain ⟨β', F', q1, _⟩ := hh
    have e1 := (RA.v_inv (show RA H' β' F' W' v (.p (.v (.bool true))) from q1)).1
    subst e1
    exact ⟨fun b e => (by cases e), fun n e => (by cases e)⟩
  obtain ⟨v, rfl, β', F', q1, q2, q3⟩ := hh
  have e1 := RA.v_inv (show RA H' β' F' W' v (.p (.v (.bool true))) from q1)
  rw [e1.1]
  exact ⟨rfl, ⟨q3.os, q3.tape, q3.output, q3.size, fun k hk => q3.block k hk fun _ _ _ e => by cases e⟩⟩

theorem law_post {cfg : Cfg} {f : FuncId} {fn : Func} {s : ChangeSpec} {bk : DataW H → Nat} (hb : BulkOk bk) {S : List TypeId} (hS : closedB P S = true) (hpS : ∀ t ∈ fn.params.toList, t ∈ S)
    (hl : laidOutB P = true) (hrd : ∀ t ∈ fn.params.toList, P.readableRec t = true ∧ t < P.types.size) {tb : TypeId} (hres : fn.resultTypes = #[tb]) (htb : P.underlying tb = some .bool)
    {base : Nat} {args : Array Value} {ds gs : List (DataW H)} {before : List MemPlace} (hvars : s.vars = [])
    (hspec : ds.length = fn.params.toList.length → s.fn H (ds ++ []) = { results := [.lit (.bool true)], args := ds })
    (hval : ∀ (j : Nat) t v, fn.params[j]? = some t → args[j]? = some v → Value.okWide P W .any base t v)
    (hW : DataW.Whole enc P fn.params.toList s.vars false W args.toList ds gs before)
    (hrun : ∀ avs, TyArgs P fn.params.toList avs (ds.map bk).sum → ∃ H', (den P cfg).ent f avs [] [] = some ([.p (.v (.bool true))], H')) (hx : ExtOk P cfg := by exact ExtOk.none fun _ => rfl) (hkn : ∀ b j v, Know.cell b j = some v → W.cell? ⟨b, j, none⟩ = some v := by exact fun _ _ _ h => by cases h) (hg : RngOk P cfg := by exact RngOk.none fun _ _ => rfl) :
    Calls P f args W fun e W' => ∃ v, e = .returned v ∧ s.post enc P fn false true false false W args v W' := by
  have hW' := hW
  obtain ⟨p, q, hA, hV, rfl, hfz, hnd⟩ := hW
  rw [hvars] at hV
  obtain ⟨rfl, rfl⟩ := trodVars_none hV
  obtain ⟨avs, k1, k2⟩ := args_read hb hS (base := base) fn.params.toList args.toList ds p hpS (fun j t v e1 e2 => hval j t v (by simpa using e1) (by simpa using e2)) hA
  obtain ⟨H', hr⟩ := hrun avs k1
  have hlen : ds.length = fn.params.toList.length := by
    clear hW' hfz hnd k1 k2 hrun hspec hpS hrd hval
    generalize fn.params.toList = ts at hA ⊢
    generalize args.toList = vs at hA
    induction ts generalizing vs ds p with
    | nil => obtain ⟨_, rfl, _⟩ := trodAll_nil hA; rfl
    | cons t ts ih =>
      obtain ⟨v, vs', d, ds', p', q, rfl, rfl, rfl, h1, h2⟩ := trodAll_cons hA
      simp [ih _ _ h2]
  have hs := hspec hlen
  refine (law_calls hx hg hr k2 hkn).mono fun e W' ⟨he, bel⟩ => ?_
  subst he
  refine ⟨_, rfl, ds, [], _, [], p, [], hW', ?_, ?_, ?_, bel.frame _, fun h => by cases h⟩
  · rw [hs, hres]
    exact trodAll_mk1 (shut_bool htb _)
  · rw [hs]
    exact trodAll_below hl bel _ _ _ _ hrd hA
  · rw [hs, hvars]
    rfl

end
end Go.AM
