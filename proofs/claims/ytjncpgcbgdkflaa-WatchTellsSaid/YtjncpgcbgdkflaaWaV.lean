/- Watching a slot: whole events; the document's answers. -/
import Derived.Test.YtjncpgcbgdkflaaWaU
import Derived.Test.YtjncpgcbgdkflaaAm26
set_option linter.unusedVariables false
set_option linter.unusedSectionVars false
set_option linter.unusedSimpArgs false
namespace Go.Proofs.Ytjncpgcbgdkflaa
open Go Go.AM
namespace Wa

abbrev encK (k : Int × Int) : AV := .agg [I k.1, I k.2]
theorem keyK : KeyEnc (.agg 2 [(0, .int), (1, .int)]) encK where
  ok _ := rfl
  eq a b := by
    rw [eq2]
    congr 2
    by_cases h : a = b
    · subst h; simp
    · have : ¬ (a.1 = b.1 ∧ a.2 = b.2) := fun e => h (Prod.ext e.1 e.2)
      simp [h, this]
  same a := by
    show ((decide (IntKind.i64 = IntKind.i64) && (a.1 == a.1)) && ((decide (IntKind.i64 = IntKind.i64) && (a.2 == a.2)) && true)) = true
    simp

section
variable {l : List E} {nl : Option Bool} {tg : Bool}

/-- Does an event not fit what was seen ahead of it? -/
def told (e : E) : A_Val := if kd e = 4 then od e else vl e
def bad (l : List E) (i : Nat) : Bool := sl (l.getD i z0) && (match kn l (ea (l.getD i z0)) (eb (l.getD i z0)) i with | some v => !decide (v.1 = (told (l.getD i z0)).1 ∧ v.2 = (told (l.getD i z0)).2) | none => false)
def wf (l : List E) : Nat → Nat → Int
  | _, 0 => -1
  | k, m + 1 => if bad l k = true then k else wf l (k + 1) m
theorem wf_step (k m : Nat) : wf l k (m + 1) = if bad l k = true then (k : Int) else wf l (k + 1) m := rfl
theorem wf_range : ∀ m k, -1 ≤ wf l k m := by
  intro m
  induction m with
  | zero => intro k; unfold wf; omega
  | succ m ih => intro k; rw [wf_step]; split; omega; exact ih _

theorem sl_kinds (e : E) : sl e = true ↔ kd e = 3 ∨ kd e = 4 := by unfold sl; simp

def resW (z : Int) : List AV := [I (max z 0), B (decide (0 ≤ z)), I 0]

theorem loop10 (hb : l.length < 2 ^ 40) : ∀ (m j : Nat) (kvs : List (Kv (Int × Int))) (c : Nat) (R : Heap), j + m = l.length → WfM kvs c → (∀ q, aget kvs q = (kn l q.1 q.2 j).map avV) →
    L10_14 [.mp 0, Rw enc nl tg l, I l.length, I j] [] (mapObj encK kvs c :: R) = some (resW (wf l j m), []) := by
  intro m
  induction m with
  | zero =>
    intro j kvs c R hj hw hg
    have : j = l.length := by omega
    subst this
    rw [L10_14_eq]
    simp only [core, Int.lt_irrefl, wf]
    rfl
  | succ m ih =>
    intro j kvs c R hj hw hg
    have hjl : j < l.length := by omega
    have h0 : (j : Int) < (l.length : Int) := by omega
    have hv := ldEv hjl (mapObj encK kvs c :: R)
    rw [L10_14_eq, wf_step]
    simp only [core, h0, idxE hjl, hv, box12, stE12, ldE12, call35, box2]
    have hbad : bad l j = (sl (l.getD j z0) && (match kn l (ea (l.getD j z0)) (eb (l.getD j z0)) j with | some v => !decide (v.1 = (told (l.getD j z0)).1 ∧ v.2 = (told (l.getD j z0)).2) | none => false)) := rfl
    have hkn : ∀ q : Int × Int, kn l q.1 q.2 (j + 1) = if (at' (l.getD j z0) 3 q.1 q.2 || at' (l.getD j z0) 4 q.1 q.2) = true then some (vl (l.getD j z0)) else kn l q.1 q.2 j := fun _ => rfl
    generalize he : l.getD j z0 = e at *
    have st := stE2 (ea e) (eb e) (I 0) [] (mapObj encK kvs c :: R ++ [bxE e])
    simp only [core, st]
    cases hsl : sl e with
    | false =>
      rw [hsl, Bool.false_and] at hbad
      rw [hbad]
      simp only [core, L10_37_eq]
      rw [wrap_id (by omega), nxt]
      refine ih (j + 1) kvs c _ (by omega) hw fun q => ?_
      rw [hg q, hkn q, ← sl_at, hsl, Bool.false_and]
      rfl
    | true =>
      rw [hsl, Bool.true_and] at hbad
      have hge : (mapObj encK kvs c :: R ++ [bxE e] ++ [AObj.box [I (ea e), I (eb e)]])[(mapObj encK kvs c :: R).length]? = some (bxE e) := getE (atE _ _)
      have l4 := b8 hge
      have hgk : (mapObj encK kvs c :: R ++ [bxE e] ++ [AObj.box [I (ea e), I (eb e)]])[(mapObj encK kvs c :: R ++ [bxE e]).length]? = some (bxV (ea e, eb e)) := atE _ _
      -- what is told lies in a variable of its own
      have tell : ∃ (H2 : Heap) (idt : Nat), H2 = (mapObj encK kvs c :: R ++ [bxE e] ++ [AObj.box [I (ea e), I (eb e)]]) ++ [bxV (told e)] ∧ idt = (mapObj encK kvs c :: R ++ [bxE e] ++ [AObj.box [I (ea e), I (eb e)]]).length := ⟨_, _, rfl, rfl⟩
      obtain ⟨H2, idt, hH2, hidt⟩ := tell
      have g0 : H2[0]? = some (mapObj encK kvs c) := by rw [hH2]; rfl
      have ge : H2[(mapObj encK kvs c :: R).length]? = some (bxE e) := by rw [hH2]; exact getE hge
      have gk : H2[(mapObj encK kvs c :: R ++ [bxE e]).length]? = some (bxV (ea e, eb e)) := by rw [hH2]; exact getE hgk
      have gt : H2[idt]? = some (bxV (told e)) := by rw [hH2, hidt]; exact atE _ _
      have key : ∀ P, (L10_29 [.mp 0, I j, .ptr (mapObj encK kvs c :: R).length 0, .ptr (mapObj encK kvs c :: R ++ [bxE e]).length 0, .ptr idt 0, Rw enc nl tg l, I l.length, I j] [] H2 = P) → P = some (resW (if bad l j = true then (j : Int) else wf l (j + 1) m), []) := by
        rintro P rfl
        rw [L10_29_eq, bV gk]
        have hk := map_look2 keyK (z := .agg [I 0, I 0]) g0 (ea e, eb e)
        simp only [encK] at hk
        simp only [core, avV, hk, hg (ea e, eb e), box2]
        have hold : ∃ v : A_Val, (((kn l (ea e) (eb e) j).map avV).getD (.agg [I 0, I 0])) = avV v ∧ ∀ u, kn l (ea e) (eb e) j = some u → v = u := by
          cases kn l (ea e) (eb e) j with
          | none => exact ⟨(0, 0), rfl, fun u h => by cases h⟩
          | some u => exact ⟨u, rfl, fun u' h => by cases h; rfl⟩
        obtain ⟨v, hv1, hv2⟩ := hold
        have st2 := stE2 v.1 v.2 (I 0) [] H2
        have hv1' : (Option.map avV (kn l (ea e) (eb e) j)).getD (.agg [I 0, I 0]) = .agg [I v.1, I v.2] := hv1
        simp only [hv1', core, st2]
        have lv : ld true 2 (.ptr H2.length 0) (H2 ++ [AObj.box [I v.1, I v.2]]) = some (avV v) := bV (atE _ _)
        have lt : ld true 2 (.ptr idt 0) (H2 ++ [AObj.box [I v.1, I v.2]]) = some (avV (told e)) := bV (getE gt)
        have lk : ld true 2 (.ptr (mapObj encK kvs c :: R ++ [bxE e]).length 0) (H2 ++ [AObj.box [I v.1, I v.2]]) = some (avV (ea e, eb e)) := bV (getE gk)
        have le := b8 (getE (o := AObj.box [I v.1, I v.2]) ge)
        have go : (bad l j = false) → L10_37 [.mp 0, Rw enc nl tg l, I l.length, I j] [] ((H2 ++ [AObj.box [I v.1, I v.2]]).set 0 (mapObj encK (aput kvs (ea e, eb e) (avV (vl e)) c) (if (aget kvs (ea e, eb e)).isSome then c else c + 1))) = some (resW (wf l (j + 1) m), []) := by
          intro hbf
          rw [L10_37_eq]
          simp only [core]
          rw [wrap_id (by omega), nxt, hH2]
          refine ih (j + 1) _ _ _ (by omega) (hw.put (ea e, eb e) (avV (vl e))) fun q => ?_
          rw [aget_put, hkn q, ← sl_at, hsl, Bool.true_and]
          by_cases hq : q = (ea e, eb e)
          · subst hq
            rw [if_pos rfl, if_pos (by simp)]
            rfl
          · rw [if_neg hq, if_neg (by
              intro h
              have h := of_decide_eq_true h
              exact hq (Prod.ext h.1.symm h.2.symm)), hg q]
        have mp := map_put keyK (getE (o := AObj.box [I v.1, I v.2]) g0) hw (ea e, eb e) (v := avV (vl e)) (lo := []) rfl
        simp only [encK, avV] at mp
        cases hkk : kn l (ea e) (eb e) j with
        | none =>
          have hbf : bad l j = false := by rw [hbad, hkk]
          rw [hbf]
          simp only [core, Option.map_none, Option.isSome_none, lk, le, avV, mp]
          exact go hbf
        | some u =>
          have hvu := hv2 u hkk
          subst hvu
          have hbb : bad l j = !decide (v.1 = (told e).1 ∧ v.2 = (told e).2) := by rw [hbad, hkk]
          simp only [core, Option.map_some, Option.isSome_some, lv, lt, avV, ne2]
          cases hd : decide (v.1 = (told e).1 ∧ v.2 = (told e).2) with
          | false =>
            rw [hd] at hbb
            rw [hbb]
            simp only [core, if_true]
            have e1 : max (j : Int) 0 = j := by omega
            have e2 : decide (0 ≤ (j : Int)) = true := by simp
            unfold resW
            rw [e1, e2]
            rfl
          | true =>
            rw [hd] at hbb
            have hbf : bad l j = false := hbb
            rw [hbf]
            simp only [core, lk, le, avV, mp]
            exact go hbf
      have l3 : ld false 1 (.ptr (mapObj encK kvs c :: R).length (0 + 0)) (mapObj encK kvs c :: R ++ [bxE e] ++ [AObj.box [I (ea e), I (eb e)]] ++ [bxV (vl e)]) = some (I (kd e)) := b0 (getE hge)
      have l5 : ld true 2 (.ptr (mapObj encK kvs c :: R).length (0 + 10)) (mapObj encK kvs c :: R ++ [bxE e] ++ [AObj.box [I (ea e), I (eb e)]] ++ [bxV (vl e)]) = some (avV (od e)) := b10 (getE hge)
      have st3 := stE2 (vl e).1 (vl e).2 (I 0) [] (mapObj encK kvs c :: R ++ [bxE e] ++ [AObj.box [I (ea e), I (eb e)]])
      simp only [core, l4, avV, box2, st3, l3]
      by_cases h4 : kd e = 4
      · have ht : told e = od e := if_pos h4
        have st4 : stA 2 (.ptr (mapObj encK kvs c :: R ++ [bxE e] ++ [AObj.box [I (ea e), I (eb e)]]).length 0) (.agg [I (od e).1, I (od e).2]) [] (mapObj encK kvs c :: R ++ [bxE e] ++ [AObj.box [I (ea e), I (eb e)]] ++ [AObj.box [I (vl e).1, I (vl e).2]]) = some (mapObj encK kvs c :: R ++ [bxE e] ++ [AObj.box [I (ea e), I (eb e)]] ++ [AObj.box [I (od e).1, I (od e).2]]) := stEA (ys := [Ia (od e).1, Ia (od e).2]) (n := 2) rfl rfl (by decide)
        simp only [core, h4, l5, avV, st4]
        refine key _ ?_
        rw [hH2, hidt, ht]
      · have ht : told e = vl e := if_neg h4
        simp only [core, h4]
        refine key _ ?_
        rw [hH2, hidt, ht]

theorem call10 (lo : List Nat) (H : Heap) : callA cfg O 10 [Rw enc nl tg l] lo H = some (if chk l.length 0 = 0 then .tup (resW (wf l 0 l.length)) else .tup [I 0, B false, I (chk l.length 0)], H) := by
  have he : O.ent 10 [Rw enc nl tg l] [] [] = some (if chk l.length 0 = 0 then resW (wf l 0 l.length) else [I 0, B false, I (chk l.length 0)], []) := by
    rw [f10_eq]
    simp only [core, call33]
    by_cases h : chk l.length 0 = 0
    · have hr := chk_ok h
      simp only [core, h]
      have := loop10 (l := l) (nl := nl) (tg := tg) (by omega) l.length 0 [] 0 [] (by omega) WfM.nil (fun q => rfl)
      exact this
    · simp only [core, h]
      rfl
  refine (callA_args (H' := []) rfl rfl he ?_).trans ?_
  · split <;> rfl
  · split <;> rfl

/-! ### The document -/
theorem loop38 {n : Nat} (hn : n ≤ l.length) (hb : l.length < 2 ^ 40) (c p : Int) : ∀ (m k : Nat), k + m = n →
    L38_8 [Rw enc nl tg l, I c, I p, I n, .ptr 0 0, .ptr 1 0, B (kn l c p k).isSome, I k] [] [bxV (0, 0), bxV (ow (kn l c p k))] = some ([avV (ow (kn l c p n)), B (kn l c p n).isSome], []) := by
  intro m
  induction m with
  | zero =>
    intro k hk
    have : k = n := by omega
    subst this
    rw [L38_8_eq]
    simp only [core, Int.lt_irrefl]
    rfl
  | succ m ih =>
    intro k hk
    have h0 : (k : Int) < (n : Int) := by omega
    have hkl : k < l.length := by omega
    have hv := ldEv hkl [bxV (0, 0), bxV (ow (kn l c p k))]
    rw [L38_8_eq]
    have ih' := ih (k + 1) (by omega)
    rw [kn_step] at ih'
    have l8 : ld true 2 (.fp (l.flatMap enc) (k * 12 + 8)) [bxV (0, 0), bxV (ow (kn l c p k))] = some (avV (vl (l.getD k z0))) := by
      rw [ldAgg_fp (by rw [rows_length hE]; omega), ← getl hkl]
      have := rows_part hE (List.getElem?_eq_getElem hkl)
      have h2 : ((l.flatMap enc).drop (k * 12 + 8)).take 2 = ((enc l[k]).drop 8).take 2 := by
        rw [← this, List.drop_take, List.drop_drop, List.take_take]
        rfl
      rw [h2]
      rfl
    simp only [core, h0, idxE hkl, hv, call15]
    cases h3 : at' (l.getD k z0) 3 c p with
    | true =>
      rw [h3, Bool.true_or, if_pos rfl] at ih'
      simp only [core, l8, L38_11_eq]
      have st : stA 2 (.ptr 1 0) (avV (vl (l.getD k z0))) [] [bxV (0, 0), bxV (ow (kn l c p k))] = some [bxV (0, 0), bxV (vl (l.getD k z0))] := rfl
      rw [st]
      simp only [core]
      rw [wrap_id (by omega), nxt]
      exact ih'
    | false =>
      cases h4 : at' (l.getD k z0) 4 c p with
      | true =>
        rw [h3, h4, Bool.or_true, if_pos rfl] at ih'
        simp only [core, hv, call15, h4, idxE hkl, l8, L38_11_eq]
        have st : stA 2 (.ptr 1 0) (avV (vl (l.getD k z0))) [] [bxV (0, 0), bxV (ow (kn l c p k))] = some [bxV (0, 0), bxV (vl (l.getD k z0))] := rfl
        rw [st]
        simp only [core]
        rw [wrap_id (by omega), nxt]
        exact ih'
      | false =>
        rw [h3, h4, Bool.or_false, if_neg (by simp)] at ih'
        simp only [core, hv, call15, h4, idxE hkl, L38_11_eq]
        rw [wrap_id (by omega), nxt]
        exact ih'

theorem call38 {n : Nat} (hn : n ≤ l.length) (hb : l.length < 2 ^ 40) (c p : Int) (lo : List Nat) (H : Heap) : callA cfg O 38 [Rw enc nl tg l, I c, I p, I n] lo H = some (.tup [avV (ow (kn l c p n)), B (kn l c p n).isSome], H) := by
  refine callA_args (H' := []) (rs := [avV (ow (kn l c p n)), B (kn l c p n).isSome]) rfl rfl ?_ rfl
  rw [f38_eq]
  simp only [core, build0]
  exact loop38 hn hb c p n 0 (by omega)

theorem loop13 {n : Nat} (hn : n ≤ l.length) (hb : l.length < 2 ^ 40) (c p : Int) : ∀ (m k : Nat), k + m = n → L13_8 [Rw enc nl tg l, I c, I p, I n, I (lw l c p k), I k] [] [] = some ([I (lw l c p n)], []) := by
  intro m
  induction m with
  | zero =>
    intro k hk
    have : k = n := by omega
    subst this
    rw [L13_8_eq]
    simp only [core, Int.lt_irrefl, leave0_I]
  | succ m ih =>
    intro k hk
    have h0 : (k : Int) < (n : Int) := by omega
    have hkl : k < l.length := by omega
    rw [L13_8_eq]
    have ih' := ih (k + 1) (by omega)
    have hd : lw l c p (k + 1) = if wr (l.getD k z0) c p = true then (k : Int) else lw l c p k := rfl
    rw [hd] at ih'
    simp only [core, h0, idxE hkl, ldEv hkl, call15, ← wr_at]
    cases hw : wr (l.getD k z0) c p <;> rw [hw] at ih' <;> simp only [core, L13_11_eq] at ih' ⊢ <;> rw [wrap_id (by omega), nxt] <;> exact ih'

theorem call13 {n : Nat} (hn : n ≤ l.length) (hb : l.length < 2 ^ 40) (c p : Int) (lo : List Nat) (H : Heap) : callA cfg O 13 [Rw enc nl tg l, I c, I p, I n] lo H = some (I (lw l c p n), H) := by
  refine callA_args (H' := []) (rs := [I (lw l c p n)]) rfl rfl ?_ rfl
  rw [f13_eq]
  exact loop13 hn hb c p n 0 (by omega)
end
end Wa
end Go.Proofs.Ytjncpgcbgdkflaa
