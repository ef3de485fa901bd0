/-
A law whose arguments' weights count: a list that is handed in holds no more bytes than a machine's room.
-/
import Derived.Test.YtjncpgcbgdkflaaAm16
set_option linter.unusedVariables false
set_option linter.unusedSimpArgs false
set_option linter.unnecessarySimpa false
set_option linter.unusedSectionVars false
namespace Go.AM
variable [Know]
open Go.ChangeShapes Go.WideShapes Go.RowKit
section
variable {H : Type} {enc : TypeId × Value → H} {P : Program} {W : World}

/-- The lists that are handed in hold no more bytes than this. -/
def Light (P : Program) (ts : List TypeId) (avs : List AV) : Prop :=
  ∀ (j : Nat) t e nl fl n xs, ts[j]? = some t → P.underlying t = some (.slice e) → avs[j]? = some (.p (.sl nl fl n xs)) → n * P.bytesOf e ≤ reachBytes

theorem slice_len {t e : TypeId} {v : Value} {d : DataW H} {p : List MemPlace} (hu : P.underlying t = some (.slice e)) (h : DataW.Trod enc P W 0 (fun _ => true) true t v d p)
    {nl : Option Bool} {fl : Bool} {n : Nat} {xs : List PV} {F : Frz} (hr : RP F W v (.sl nl fl n xs)) (hw : (d.weights P t).all (· ≤ reachBytes) = true) : n * P.bytesOf e ≤ reachBytes := by
  obtain ⟨fuel, hf⟩ := h
  cases hr with
  | nil _ => simp
  | emp _ => simp
  | sl c h1 h2 h3 h4 h5 =>
    rename_i b s cap
    cases fuel with
    | zero => simp [DataW.trod] at hf
    | succ fuel =>
      rw [leafy_cells rfl] at hf
      unfold DataW.trod at hf
      rw [hu] at hf
      simp only at hf
      split at hf
      · rename_i hc
        rw [Option.bind_eq_some_iff] at hf
        obtain ⟨elems, h1, hf⟩ := hf
        rw [Option.map_eq_some_iff] at hf
        obtain ⟨rest, h2, hf⟩ := hf
        cases hf
        obtain ⟨l1, g1⟩ := mapM_get h1
        simp only [DataW.weights, hu, List.all_cons, Bool.and_eq_true, decide_eq_true_eq] at hw
        have : n = elems.length := by rw [l1]; simp
        refine Nat.le_trans ?_ hw.1
        refine Nat.mul_le_mul_right _ ?_
        rw [List.length_map, ← this]
        omega
      · cases hf

theorem lights : ∀ (ts us : List TypeId) (vs : List Value) (ds gs : List (DataW H)) (p : List MemPlace) (avs : List AV), DataW.TrodAll enc P W 0 (fun _ => true) true ts vs ds p → RAs [] noB (allF W) W vs avs →
    (DataW.weightsEach P (ts ++ us) (ds ++ gs)).all (· ≤ reachBytes) = true → Light P ts avs := by
  intro ts
  induction ts with
  | nil => intro us vs ds gs p avs _ _ _ j t e nl fl n xs h; simp at h
  | cons t ts ih =>
    intro us vs ds gs p avs h hr hw
    obtain ⟨v, vs', d, ds', p', q, rfl, rfl, rfl, h1, h2⟩ := trodAll_cons h
    simp only [List.cons_append, DataW.weightsEach, List.all_append, Bool.and_eq_true] at hw
    cases hr with
    | cons k1 k2 =>
      intro j t' e nl fl n xs e1 e2 e3
      cases j with
      | zero =>
        simp at e1 e3
        subst e1 e3
        cases k1 with
        | p k1 => exact slice_len e2 h1 k1 hw.1
      | succ j => exact ih us vs' ds' gs q _ h2 k2 hw.2 j t' e nl fl n xs (by simpa using e1) e2 (by simpa using e3)

theorem law_post_light {cfg : Cfg} {f : FuncId} {fn : Func} {s : ChangeSpec} {bk : DataW H → Nat} (hb : BulkOk bk) {S : List TypeId} (hS : closedB P S = true) (hpS : ∀ t ∈ fn.params.toList, t ∈ S)
    (hl : laidOutB P = true) (hrd : ∀ t ∈ fn.params.toList, P.readableRec t = true ∧ t < P.types.size) {tb : TypeId} (hres : fn.resultTypes = #[tb]) (htb : P.underlying tb = some .bool)
    {base : Nat} {args : Array Value} {ds gs : List (DataW H)} {before : List MemPlace} (hvars : s.vars = [])
    (hspec : ds.length = fn.params.toList.length → s.fn H (ds ++ []) = { results := [.lit (.bool true)], args := ds })
    (hval : ∀ (j : Nat) t v, fn.params[j]? = some t → args[j]? = some v → Value.okWide P W .any base t v)
    (hW : DataW.Whole enc P fn.params.toList s.vars false W args.toList ds gs before)
    (hsz : (DataW.weightsEach P (fn.params.toList ++ s.plain.varTypes P) (ds ++ gs)).all (· ≤ reachBytes) = true)
    (hrun : ∀ avs, TyArgs P fn.params.toList avs (ds.map bk).sum → Light P fn.params.toList avs → ∃ H', (den P cfg).ent f avs [] [] = some ([.p (.v (.bool true))], H')) (hx : ExtOk P cfg := by exact ExtOk.none fun _ => rfl) (hkn : ∀ b j v, Know.cell b j = some v → W.cell? ⟨b, j, none⟩ = some v := by exact fun _ _ _ e => by cases e) (hg : RngOk P cfg := by exact RngOk.none fun _ _ => rfl) :
    Calls P f args W fun e W' => ∃ v, e = .returned v ∧ s.post enc P fn false true false false W args v W' := by
  have hW' := hW
  obtain ⟨p, q, hA, hV, rfl, hfz, hnd⟩ := hW
  rw [hvars] at hV
  obtain ⟨rfl, rfl⟩ := trodVars_none hV
  obtain ⟨avs, k1, k2⟩ := args_read hb hS (base := base) fn.params.toList args.toList ds p hpS (fun j t v e1 e2 => hval j t v (by simpa using e1) (by simpa using e2)) hA
  obtain ⟨H', hr⟩ := hrun avs k1 (lights _ _ _ _ _ _ _ hA k2 hsz)
  have hlen : ds.length = fn.params.toList.length := by
    clear hW' hfz hnd k1 k2 hrun hspec hpS hrd hval hsz
    generalize fn.params.toList = ts at hA ⊢
    generalize args.toList = vs at hA
    induction ts generalizing vs ds p with
    | nil => obtain ⟨_, rfl, _⟩ := trodAll_nil hA; rfl
    | cons t ts ih =>
      obtain ⟨v, vs', d, ds', p', q, rfl, rfl, rfl, h1, h2⟩ := trodAll_cons hA
      simp [ih _ _ h2]
  have hs := hspec hlen
  refine (law_calls hx hg hr k2 hkn).mono fun e W' ⟨he, bel⟩ => ?_
  subst he
  refine ⟨_, rfl, ds, [], _, [], p, [], hW', ?_, ?_, ?_, bel.frame _, fun h => by cases h⟩
  · rw [hs, hres]
    exact trodAll_mk1 (shut_bool htb _)
  · rw [hs]
    exact trodAll_below hl bel _ _ _ _ hrd hA
  · rw [hs, hvars]
    rfl
end
end Go.AM
