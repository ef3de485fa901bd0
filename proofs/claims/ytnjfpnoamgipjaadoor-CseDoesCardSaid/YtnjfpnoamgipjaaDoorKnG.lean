import Derived.Test.YtnjfpnoamgipjaaDoorKnF
import Derived.Test.YtnjfpnoamgipjaaDoorECseDoes
import Derived.Test.YtnjfpnoamgipjaaDoorKnD
set_option linter.unusedVariables false
set_option linter.unusedSimpArgs false
set_option linter.unusedSectionVars false
set_option maxRecDepth 100000
namespace Go.Proofs.YtnjfpnoamgipjaaDoor
open Go Go.AM
namespace Ir
abbrev Key := Int × Int × Int × Int × Bool × Int × Int
instance keyDec : DecidableEq Key := @instDecidableEqProd _ _ _ (@instDecidableEqProd _ _ _ (@instDecidableEqProd _ _ _ (@instDecidableEqProd _ _ _ (@instDecidableEqProd _ _ _ (@instDecidableEqProd _ _ _ _)))))
def kE (k : Key) : List PV := [Ia k.1, Ia k.2.1, Ia k.2.2.1, Ia k.2.2.2.1, .v (.bool k.2.2.2.2.1), Ia k.2.2.2.2.2.1, Ia k.2.2.2.2.2.2]
abbrev kTy : Ty := .agg 7 [(0, .int), (1, .int), (2, .int), (3, .int), (4, .bool), (5, .int), (6, .int)]
theorem key_eql (a b c d : Int) (e : Bool) (f g a' b' c' d' : Int) (e' : Bool) (f' g' : Int) : bin .eql kTy (.agg [I a, I b, I c, I d, B e, I f, I g]) (.agg [I a', I b', I c', I d', B e', I f', I g']) =
    some (B (a == a' && (b == b' && (c == c' && (d == d' && (e == e' && (f == f' && (g == g' && true)))))))) := rfl
theorem keyK : KeyEnc kTy (fun k : Key => aG (kE k)) where
  ok _ := rfl
  eq a b := by
    refine (key_eql ..).trans ?_
    congr 3
    rw [Bool.eq_iff_iff]
    obtain ⟨a1, a2, a3, a4, a5, a6, a7⟩ := a
    obtain ⟨b1, b2, b3, b4, b5, b6, b7⟩ := b
    simp
  same a := by
    show (((decide (IntKind.i64 = IntKind.i64) && (a.1 == a.1)) && _)) = true
    simp [sameLeaves, sameLeaf]
def mnI (a b : Int) : Int := if b < a then b else a
def mxI (a b : Int) : Int := if a < b then b else a
def com (n : Int) : Prop := n = 3 ∨ n = 5 ∨ n = 8
instance (n : Int) : Decidable (com n) := by unfold com; infer_instance
def kOf (x : A_TIns) (ah : Bool) : Option Key :=
  if x.1 = 2 then some (2, 0, 0, 0, false, x.2.2.2.2.2.2.1, x.2.2.2.2.2.2.2)
  else if x.1 = 3 then some (3, 0, 0, 0, false, 0, 0)
  else if x.1 = 1 then some (1, x.2.2.2.2.1, 0, 0, ah, 0, 0)
  else if x.1 = 8 then some (8, x.2.2.2.2.1, x.2.1, 0, false, 0, 0)
  else if x.1 = 7 then some (if com x.2.2.2.2.1 then (7, x.2.2.2.2.1, mnI x.2.1 x.2.2.1, mxI x.2.1 x.2.2.1, false, 0, 0) else (7, x.2.2.2.2.1, x.2.1, x.2.2.1, false, 0, 0))
  else none
def alk (hi hk : Bool) (x y : A_TIns) : Bool :=
  if x.1 ≠ y.1 then false
  else if x.1 = 2 then (x.2.2.2.2.2.2.1 == y.2.2.2.2.2.2.1 && (x.2.2.2.2.2.2.2 == y.2.2.2.2.2.2.2 && true))
  else if x.1 = 3 then true
  else if x.1 = 1 then (if x.2.2.2.2.1 = y.2.2.2.2.1 then hi == hk else false)
  else if x.1 = 8 then (if x.2.2.2.2.1 = y.2.2.2.2.1 then decide (x.2.1 = y.2.1) else false)
  else if x.1 = 7 then (if x.2.2.2.2.1 = y.2.2.2.2.1 then (if x.2.1 = y.2.1 ∧ x.2.2.1 = y.2.2.1 then true else if com x.2.2.2.2.1 then decide (x.2.1 = y.2.2.1) && decide (x.2.2.1 = y.2.1) else false) else false)
  else false
theorem mnmx {a b c d : Int} : (mnI a b = mnI c d ∧ mxI a b = mxI c d) ↔ (a = c ∧ b = d) ∨ (a = d ∧ b = c) := by
  unfold mnI mxI
  constructor
  · intro h
    repeat' split at h
    all_goals omega
  · intro h
    repeat' split
    all_goals omega
theorem kOf_op {x : A_TIns} {ah : Bool} {q : Key} (h : kOf x ah = some q) : q.1 = x.1 := by
  unfold kOf at h
  repeat' split at h
  all_goals first | (cases h; done) | skip
  all_goals
    simp only [Option.some.injEq] at h
    subst h
    simp_all
theorem alk_iff (hi hk : Bool) (x y : A_TIns) : alk hi hk x y = true ↔ ∃ q, kOf x hi = some q ∧ kOf y hk = some q := by
  by_cases ho : x.1 = y.1
  case neg =>
    rw [alk, if_pos ho]
    refine ⟨fun h => (by cases h), fun ⟨q, h1, h2⟩ => ?_⟩
    exact (ho ((kOf_op h1).symm.trans (kOf_op h2))).elim
  obtain ⟨o, a, b, c, n, ex, k1, k2⟩ := x
  obtain ⟨o', a', b', c', n', ex', k1', k2'⟩ := y
  simp only at ho
  subst ho
  simp only [alk, kOf, ne_eq, not_true_eq_false, if_false]
  by_cases c2 : o = 2
  · simp only [c2, if_true, Bool.and_eq_true, beq_iff_eq, and_true, Option.some.injEq]
    constructor
    · rintro ⟨rfl, rfl⟩; exact ⟨_, rfl, rfl⟩
    · rintro ⟨q, rfl, h⟩
      simp only [Prod.mk.injEq, true_and] at h
      exact ⟨h.1.symm, h.2.symm⟩
  by_cases c3 : o = 3
  · simp [c3]
  by_cases c1 : o = 1
  · simp only [c1, if_true, show ¬ (1 : Int) = 2 by decide, show ¬ (1 : Int) = 3 by decide, if_false]
    by_cases e : n = n'
    · subst e; cases hi <;> cases hk <;> simp
    · simp [e, Ne.symm e]
  by_cases c8 : o = 8
  · simp only [c8, if_true, show ¬ (8 : Int) = 2 by decide, show ¬ (8 : Int) = 3 by decide, show ¬ (8 : Int) = 1 by decide, if_false]
    by_cases e : n = n'
    · subst e
      simp only [if_true, decide_eq_true_eq, Option.some.injEq]
      constructor
      · rintro rfl; exact ⟨_, rfl, rfl⟩
      · rintro ⟨q, rfl, h⟩
        simp only [Prod.mk.injEq, true_and, and_true] at h
        exact h.symm
    · simp [e, Ne.symm e]
  by_cases c7 : o = 7
  · simp only [c7, if_true, show ¬ (7 : Int) = 2 by decide, show ¬ (7 : Int) = 3 by decide, show ¬ (7 : Int) = 1 by decide, show ¬ (7 : Int) = 8 by decide, if_false]
    by_cases e : n = n'
    · subst e
      by_cases hc : com n
      · simp only [hc, if_true, Option.some.injEq]
        have := @mnmx a b a' b'
        by_cases h1 : a = a' ∧ b = b'
        · rw [if_pos h1]
          obtain ⟨rfl, rfl⟩ := h1
          simp
        · rw [if_neg h1]
          simp only [Bool.and_eq_true, decide_eq_true_eq]
          constructor
          · intro h
            refine ⟨_, rfl, ?_⟩
            obtain ⟨h2, h3⟩ := this.mpr (.inr h)
            rw [h2, h3]
          · rintro ⟨q, rfl, h⟩
            simp only [Prod.mk.injEq, true_and, and_true] at h
            rcases this.mp ⟨h.1.symm, h.2.symm⟩ with h | h
            · exact (h1 h).elim
            · exact h
      · simp only [hc, if_false, if_true, Option.some.injEq]
        by_cases h1 : a = a' ∧ b = b'
        · rw [if_pos h1]
          obtain ⟨rfl, rfl⟩ := h1
          simp
        · rw [if_neg h1]
          refine ⟨fun h => (by cases h), ?_⟩
          rintro ⟨q, rfl, h⟩
          simp only [Prod.mk.injEq, true_and, and_true] at h
          exact (h1 ⟨h.1.symm, h.2.symm⟩).elim
    · rw [if_neg e]
      refine ⟨fun h => (by cases h), ?_⟩
      rintro ⟨q, h1, h2⟩
      exfalso
      split at h1 <;> split at h2 <;> (cases h1; simp only [Option.some.injEq, Prod.mk.injEq] at h2; exact e h2.2.1.symm)
  · simp [c2, c3, c1, c8, c7]
def fi (ks : List (Option Key)) (q : Key) : Option Nat := ks.findIdx? fun o => decide (o = some q)
def tvOf (ks : List (Option Key)) (i : Nat) (k : Option Key) : Int :=
  match k with
  | none => i
  | some q => match fi ks q with | some j => j | none => i
def stp (ins : List A_TIns) (L : Int) : Nat → List Int × List (Option Key)
  | 0 => ([], [])
  | i + 1 =>
    match ins[i]? with
    | none => stp ins L i
    | some x => ((stp ins L i).1 ++ [tvOf (stp ins L i).2 i (kOf (insM (on (stp ins L i).1) x) (decide ((i : Int) < L)))], (stp ins L i).2 ++ [kOf (insM (on (stp ins L i).1) x) (decide ((i : Int) < L))])
theorem fi_app (ks : List (Option Key)) (o : Option Key) (q : Key) : fi (ks ++ [o]) q = (fi ks q).or (if o = some q then some ks.length else none) := by
  unfold fi
  rw [List.findIdx?_append]
  congr 1
  by_cases e : o = some q <;> simp [e]
theorem fi_lt {ks : List (Option Key)} {q : Key} {j : Nat} (h : fi ks q = some j) : j < ks.length ∧ ks[j]? = some (some q) ∧ ∀ m, m < j → ks[m]? ≠ some (some q) := by
  unfold fi at h
  obtain ⟨h1, h2, h3⟩ := List.findIdx?_eq_some_iff_getElem.mp h
  refine ⟨h1, by rw [List.getElem?_eq_getElem h1]; simpa using h2, fun m hm e => ?_⟩
  have := h3 m hm
  rw [List.getElem?_eq_getElem (by omega)] at e
  simp at e
  simp [e] at this
theorem fi_none {ks : List (Option Key)} {q : Key} (h : fi ks q = none) (m : Nat) : ks[m]? ≠ some (some q) := by
  intro e
  have := List.findIdx?_eq_none_iff.mp h (some q) (List.mem_of_getElem? e)
  simp at this
theorem fi_of {ks : List (Option Key)} {q : Key} {j : Nat} (h1 : ks[j]? = some (some q)) (h2 : ∀ m, m < j → ks[m]? ≠ some (some q)) : fi ks q = some j := by
  cases h : fi ks q with
  | none => exact (fi_none h j h1).elim
  | some m =>
    obtain ⟨k1, k2, k3⟩ := fi_lt h
    by_cases e : m < j
    · exact (h2 m e k2).elim
    · by_cases e2 : j < m
      · exact (k3 j e2 h1).elim
      · rw [show m = j by omega]
section
variable {ins : List A_TIns} {L : Int}
theorem stp_len : ∀ {i : Nat}, i ≤ ins.length → (stp ins L i).1.length = i ∧ (stp ins L i).2.length = i := by
  intro i
  induction i with
  | zero => intro _; exact ⟨rfl, rfl⟩
  | succ i ih =>
    intro h
    obtain ⟨h1, h2⟩ := ih (by omega)
    rw [stp, List.getElem?_eq_getElem (by omega)]
    simp [h1, h2]
theorem stp_pre {i : Nat} : ∀ {n : Nat}, i ≤ n → n ≤ ins.length → (stp ins L n).1.take i = (stp ins L i).1 ∧ (stp ins L n).2.take i = (stp ins L i).2 := by
  intro n
  induction n with
  | zero =>
    intro h _
    have : i = 0 := by omega
    subst this
    exact ⟨rfl, rfl⟩
  | succ n ih =>
    intro h hn
    by_cases e : i = n + 1
    · subst e
      have := stp_len (L := L) hn
      rw [List.take_of_length_le (by omega), List.take_of_length_le (by omega)]
      exact ⟨rfl, rfl⟩
    · obtain ⟨h1, h2⟩ := ih (by omega) (by omega)
      have hl := stp_len (ins := ins) (L := L) (i := n) (by omega)
      rw [stp, List.getElem?_eq_getElem (by omega)]
      simp only
      rw [List.take_append_of_le_length (by omega), List.take_append_of_le_length (by omega)]
      exact ⟨h1, h2⟩
theorem stp_to {i n : Nat} (h : i < n) (hn : n ≤ ins.length) {x : A_TIns} (hx : ins[i]? = some x) :
    (stp ins L n).1[i]? = some (tvOf (stp ins L i).2 i (kOf (insM (on (stp ins L i).1) x) (decide ((i : Int) < L)))) ∧ (stp ins L n).2[i]? = some (kOf (insM (on (stp ins L i).1) x) (decide ((i : Int) < L))) := by
  obtain ⟨h1, h2⟩ := stp_pre (ins := ins) (L := L) (i := i + 1) (n := n) (by omega) hn
  have hl := stp_len (ins := ins) (L := L) (i := i) (by omega)
  rw [stp, hx] at h1 h2
  simp only at h1 h2
  have e1 := congrArg (fun l => l[i]?) h1
  have e2 := congrArg (fun l => l[i]?) h2
  simp only [List.getElem?_take_of_lt (Nat.lt_succ_self i)] at e1 e2
  rw [e1, e2]
  rw [List.getElem?_append_right (by omega), List.getElem?_append_right (by omega), hl.1, hl.2]
  simp
theorem tvOf_le {ks : List (Option Key)} {i : Nat} (h : ks.length = i) (k : Option Key) : 0 ≤ tvOf ks i k ∧ tvOf ks i k ≤ i := by
  unfold tvOf
  split
  · omega
  · split
    · rename_i j hj
      have := (fi_lt hj).1
      omega
    · omega
theorem first_own {n i : Nat} (hi : i < n) (hn : n ≤ ins.length) {q : Key} (h1 : (stp ins L n).2[i]? = some (some q)) (h2 : ∀ m, m < i → (stp ins L n).2[m]? ≠ some (some q)) : (stp ins L n).1[i]? = some (i : Int) := by
  have hx : ins[i]? = some ins[i] := List.getElem?_eq_getElem (by omega)
  obtain ⟨k1, k2⟩ := stp_to (L := L) hi hn hx
  rw [k1]
  rw [k2] at h1
  rw [Option.some.inj h1, tvOf]
  have : fi (stp ins L i).2 q = none := by
    cases h : fi (stp ins L i).2 q with
    | none => rfl
    | some j =>
      obtain ⟨j1, j2, _⟩ := fi_lt h
      have hl := stp_len (ins := ins) (L := L) (i := i) (by omega)
      have := (stp_pre (ins := ins) (L := L) (i := i) (n := n) (by omega) hn).2
      have e := congrArg (fun l => l[j]?) this
      simp only [List.getElem?_take_of_lt (show j < i by omega)] at e
      exact (h2 j (by omega) (e.trans j2)).elim
  rw [this]
end
end Ir
end Go.Proofs.YtnjfpnoamgipjaaDoor
set_option linter.unusedVariables false
set_option linter.unusedSimpArgs false
set_option linter.unusedSectionVars false
set_option maxRecDepth 100000
namespace Go.Proofs.YtnjfpnoamgipjaaDoor
open Go Go.AM
namespace Ir
abbrev z7 : List PV := [Ia 0, Ia 0, Ia 0, Ia 0, .v (.bool false), Ia 0, Ia 0]
def k0 : Key := (0, 0, 0, 0, false, 0, 0)
theorem box7 (H : Heap) : boxO [] [I 0, I 0, I 0, I 0, B false, I 0, I 0] H = some (.ptr H.length 0, H ++ [.box (z7.map .p)]) := boxO_p z7 H
theorem st7 (k : Key) (lo : List Nat) (H : Heap) : stA 7 (.ptr H.length 0) (aG (kE k)) lo (H ++ [.box (z7.map .p)]) = some (H ++ [.box ((kE k).map .p)]) := stA_new rfl rfl (by decide)
theorem ld7 (k : Key) (H : Heap) : ld true 7 (.ptr H.length 0) (H ++ [.box ((kE k).map .p)]) = some (aG (kE k)) := ldA (xs := kE k) (n := 7) rfl (Nat.zero_lt_succ 6) H
theorem lv7 (k : Key) (b : Bool) (lo : List Nat) (H : Heap) : leave 0 lo [aG (kE k), B b] H = some ([aG (kE k), B b], []) := leave0_ag (H' := H) rfl
theorem call64 (x : A_TIns) (ah : Bool) (lo : List Nat) (H : Heap) : callA cfg O 64 [tiV x, B ah] lo H = some (.tup [aG (kE ((kOf x ah).getD k0)), B (kOf x ah).isSome], H) := by
  refine callA_args (H' := []) (rs := [aG (kE ((kOf x ah).getD k0)), B (kOf x ah).isSome]) rfl (pureArgsC (pureAgg _ _) (pureArgs1 (pureP _ _))) ?_ rfl
  have b2 := box7 [.box ((enc_TIns x).map .p)]
  have s2 := fun k => st7 k [] [.box ((enc_TIns x).map .p)]
  have l2 := fun k => ld7 k [.box ((enc_TIns x).map .p)]
  have f0 : ∀ (o : AObj) j, ld false 1 (.ptr 0 j) [.box ((enc_TIns x).map .p), o] = ((enc_TIns x)[j]?).map .p := fun o j => ldB02 _ _ _ _
  have fK : ∀ (o : AObj), ld true 2 (.ptr 0 6) [.box ((enc_TIns x).map .p), o] = some (.agg [I x.2.2.2.2.2.2.1, I x.2.2.2.2.2.2.2]) := fun o => by rw [ldAgg_box (H := [_, o]) rfl (by simp [len_TIns8]) (by simp [len_TIns8])]; rfl
  simp only [List.length_cons, List.length_nil, Nat.zero_add, List.cons_append, List.nil_append] at b2 s2 l2
  have bu : ∀ l k, buildA [I 0, I 0, I 0, I 0, B false, I 0, I 0] l = some (aG (kE k)) → buildA [I 0, I 0, I 0, I 0, B false, I 0, I 0] l = some (aG (kE k)) := fun _ _ h => h
  rw [f64_eq]
  by_cases c2 : x.1 = 2
  · have e := bu [(0, 1, I x.1), (5, 2, .agg [I x.2.2.2.2.2.2.1, I x.2.2.2.2.2.2.2])] (x.1, 0, 0, 0, false, x.2.2.2.2.2.2.1, x.2.2.2.2.2.2.2) rfl
    simp only [boxAgg0, b2, f0, ti0, fK, decide_eq_true c2, e, s2, l2, lv7, Nat.zero_add, core]
    simp only [kOf, c2, if_true, Option.getD_some, Option.isSome_some]
  by_cases c3 : x.1 = 3
  · have e := bu [(0, 1, I x.1)] (x.1, 0, 0, 0, false, 0, 0) rfl
    simp only [boxAgg0, b2, f0, ti0, decide_eq_false c2, decide_eq_true c3, e, s2, l2, lv7, Nat.zero_add, core]
    simp only [kOf, c3, if_true, if_false, show ¬ (3 : Int) = 2 by decide, Option.getD_some, Option.isSome_some]
  by_cases c1 : x.1 = 1
  · have e := bu [(0, 1, I x.1), (1, 1, I x.2.2.2.2.1), (4, 1, B ah)] (x.1, x.2.2.2.2.1, 0, 0, ah, 0, 0) rfl
    simp only [boxAgg0, b2, f0, ti0, ti4, decide_eq_false c2, decide_eq_false c3, decide_eq_true c1, e, s2, l2, lv7, Nat.zero_add, core]
    simp only [kOf, c1, if_true, if_false, show ¬ (1 : Int) = 2 by decide, show ¬ (1 : Int) = 3 by decide, Option.getD_some, Option.isSome_some]
  by_cases c8 : x.1 = 8
  · have e := bu [(0, 1, I x.1), (1, 1, I x.2.2.2.2.1), (2, 1, I x.2.1)] (x.1, x.2.2.2.2.1, x.2.1, 0, false, 0, 0) rfl
    simp only [boxAgg0, b2, f0, ti0, ti1, ti4, decide_eq_false c2, decide_eq_false c3, decide_eq_false c1, decide_eq_true c8, e, s2, l2, lv7, Nat.zero_add, core]
    simp only [kOf, c8, if_true, if_false, show ¬ (8 : Int) = 2 by decide, show ¬ (8 : Int) = 3 by decide, show ¬ (8 : Int) = 1 by decide, Option.getD_some, Option.isSome_some]
  by_cases c7 : x.1 = 7
  · have e := bu [(0, 1, I x.1), (1, 1, I x.2.2.2.2.1), (2, 1, I x.2.1), (3, 1, I x.2.2.1)] (x.1, x.2.2.2.2.1, x.2.1, x.2.2.1, false, 0, 0) rfl
    have b3 := box7 [.box ((enc_TIns x).map .p), .box (z7.map .p)]
    have s3 := st7 (x.1, x.2.2.2.2.1, x.2.1, x.2.2.1, false, 0, 0) [] [.box ((enc_TIns x).map .p), .box (z7.map .p)]
    simp only [List.length_cons, List.length_nil, Nat.zero_add, List.cons_append, List.nil_append, Nat.reduceAdd] at b3 s3
    have g0 : ∀ (o1 o2 : AObj) j, ld false 1 (.ptr 0 j) [.box ((enc_TIns x).map .p), o1, o2] = ((enc_TIns x)[j]?).map .p := fun o1 o2 j => ldBx (H := [_, o1, o2]) rfl 1 j
    have gX : ∀ (o1 o2 : AObj) j, ldX false 1 (.ptr 0 j) [.box ((enc_TIns x).map .p), o1, o2] = ((enc_TIns x)[j]?).map .p := fun o1 o2 j => by
      show (if 0 + 1 = 3 then none else _) = _
      rw [if_neg (by decide)]; exact g0 o1 o2 j
    have fin : ∀ k : Key, L64_31 [.ptr 1 0, .ptr 2 0] [] [.box ((enc_TIns x).map .p), .box (z7.map .p), .box ((kE k).map .p)] = some ([aG (kE k), B true], []) := by
      intro k
      have a1 : ld true 7 (.ptr 2 0) [.box ((enc_TIns x).map .p), .box (z7.map .p), .box ((kE k).map .p)] = some (aG (kE k)) := ldA (xs := kE k) (n := 7) rfl (Nat.zero_lt_succ 6) [_, _]
      have a2 := stEx (n0 := 0) (lo := []) (H := [.box ((enc_TIns x).map .p), .box (z7.map .p), .box ((kE k).map .p)]) (id := 1) (by simp) (Nat.zero_le _) rfl rfl (ys := (kE k).map .p) (n := 7) rfl (by decide) (leaves_p _)
      have a3 : ld true 7 (.ptr 1 0) ([AObj.box ((enc_TIns x).map .p), .box (z7.map .p), .box ((kE k).map .p)].set 1 (.box ((kE k).map .p))) = some (aG (kE k)) := by rw [ldAgg_box (H := _) rfl (by simp [kE]) (by simp [kE])]; rfl
      rw [L64_31_eq]
      simp only [a1, a2, a3, lv7, core]
    have mn : bests false (I x.2.1) [I x.2.2.1] = some (I (mnI x.2.1 x.2.2.1)) := rfl
    have mx : bests true (I x.2.1) [I x.2.2.1] = some (I (mxI x.2.1 x.2.2.1)) := rfl
    have sX : stX 1 (.ptr 2 2) (I (mnI x.2.1 x.2.2.1)) [] [.box ((enc_TIns x).map .p), .box (z7.map .p), .box ((kE (x.1, x.2.2.2.2.1, x.2.1, x.2.2.1, false, 0, 0)).map .p)] = some [.box ((enc_TIns x).map .p), .box (z7.map .p), .box ((kE (x.1, x.2.2.2.2.1, mnI x.2.1 x.2.2.1, x.2.2.1, false, 0, 0)).map .p)] := rfl
    have sY : stA 1 (.ptr 2 3) (I (mxI x.2.1 x.2.2.1)) [] [.box ((enc_TIns x).map .p), .box (z7.map .p), .box ((kE (x.1, x.2.2.2.2.1, mnI x.2.1 x.2.2.1, x.2.2.1, false, 0, 0)).map .p)] = some [.box ((enc_TIns x).map .p), .box (z7.map .p), .box ((kE (x.1, x.2.2.2.2.1, mnI x.2.1 x.2.2.1, mxI x.2.1 x.2.2.1, false, 0, 0)).map .p)] := rfl
    have gk : kOf x ah = some (if com x.2.2.2.2.1 then (x.1, x.2.2.2.2.1, mnI x.2.1 x.2.2.1, mxI x.2.1 x.2.2.1, false, 0, 0) else (x.1, x.2.2.2.2.1, x.2.1, x.2.2.1, false, 0, 0)) := by
      simp only [kOf, c7, if_true, if_false, show ¬ (7 : Int) = 2 by decide, show ¬ (7 : Int) = 3 by decide, show ¬ (7 : Int) = 1 by decide, show ¬ (7 : Int) = 8 by decide]
    rw [gk]
    by_cases n3 : x.2.2.2.2.1 = 3
    · have hc : com x.2.2.2.2.1 := .inl n3
      simp only [boxAgg0, b2, f0, g0, gX, ti0, ti1, ti2, ti4, decide_eq_false c2, decide_eq_false c3, decide_eq_false c1, decide_eq_false c8, decide_eq_true c7, decide_eq_true n3, e, b3, s3, mn, mx, sX, sY, fin, Nat.zero_add, core]
      rw [if_pos hc]; rfl
    by_cases n5 : x.2.2.2.2.1 = 5
    · have hc : com x.2.2.2.2.1 := .inr (.inl n5)
      simp only [boxAgg0, b2, f0, g0, gX, ti0, ti1, ti2, ti4, decide_eq_false c2, decide_eq_false c3, decide_eq_false c1, decide_eq_false c8, decide_eq_true c7, decide_eq_false n3, decide_eq_true n5, e, b3, s3, mn, mx, sX, sY, fin, Nat.zero_add, core]
      rw [if_pos hc]; rfl
    by_cases n8 : x.2.2.2.2.1 = 8
    · have hc : com x.2.2.2.2.1 := .inr (.inr n8)
      simp only [boxAgg0, b2, f0, g0, gX, ti0, ti1, ti2, ti4, decide_eq_false c2, decide_eq_false c3, decide_eq_false c1, decide_eq_false c8, decide_eq_true c7, decide_eq_false n3, decide_eq_false n5, decide_eq_true n8, e, b3, s3, mn, mx, sX, sY, fin, Nat.zero_add, core]
      rw [if_pos hc]; rfl
    · have hc : ¬ com x.2.2.2.2.1 := by unfold com; omega
      simp only [boxAgg0, b2, f0, g0, gX, ti0, ti1, ti2, ti4, decide_eq_false c2, decide_eq_false c3, decide_eq_false c1, decide_eq_false c8, decide_eq_true c7, decide_eq_false n3, decide_eq_false n5, decide_eq_false n8, e, b3, s3, mn, mx, sX, sY, fin, Nat.zero_add, core]
      rw [if_neg hc]; rfl
  · have e := bu [] k0 rfl
    simp only [boxAgg0, b2, f0, ti0, decide_eq_false c2, decide_eq_false c3, decide_eq_false c1, decide_eq_false c8, decide_eq_false c7, e, s2, l2, lv7, Nat.zero_add, core]
    simp only [kOf, c2, c3, c1, c8, c7, if_false, Option.getD_none, Option.isSome_none]
theorem onV {to : List Int} {v : Int} (h : 0 ≤ v ∧ v < to.length) : ∃ j : Nat, v = j ∧ j < to.length := ⟨v.toNat, by omega, by omega⟩
theorem on_get {to : List Int} {j : Nat} (h : j < to.length) : on to j = to[j] := by
  rw [on, if_pos (by omega), Int.toNat_natCast, List.getElem?_eq_getElem h]; rfl
theorem idxOn {nl : Option Bool} {tg : Bool} {to : List Int} {v : Int} (h : 0 ≤ v ∧ v < to.length) : idxA 1 (V nl tg to) (I v) = some (.fp (to.map Ia) v.toNat) := by
  obtain ⟨j, rfl, hj⟩ := onV h
  rw [idxV hj, Int.toNat_natCast]
theorem ldOn {to : List Int} {v : Int} (h : 0 ≤ v ∧ v < to.length) (H : Heap) : ld false 1 (.fp (to.map Ia) v.toNat) H = some (I (on to v)) := by
  obtain ⟨j, rfl, hj⟩ := onV h
  rw [Int.toNat_natCast, ldV hj, on_get hj]
theorem ent66 {nl : Option Bool} {tg : Bool} {to : List Int} (x : A_TIns) (h : ∀ j, j < (vals x.1).toNat → 0 ≤ argI x j ∧ argI x j < to.length) : O.ent 66 [tiV x, V nl tg to] [] [] = some ([tiV (insM (on to) x)], []) := by
  have b2 := box8 [.box ((enc_TIns x).map .p)]
  simp only [List.length_cons, List.length_nil, Nat.zero_add, List.cons_append, List.nil_append] at b2
  have g : ∀ (y : A_TIns) j, ld false 1 (.ptr 0 j) [.box ((enc_TIns y).map .p), .box ([Ia 0, Ia 0, Ia 0, Ia 0, Ia 0, Ia 0, Ia 0, Ia 0].map .p)] = ((enc_TIns y)[j]?).map .p := fun y j => ldB02 _ _ _ _
  have s : ∀ (y : A_TIns) (v : Int) (j : Nat), j < 3 → stA 1 (.ptr 0 (1 + j)) (I v) [] [.box ((enc_TIns y).map .p), .box ([Ia 0, Ia 0, Ia 0, Ia 0, Ia 0, Ia 0, Ia 0, Ia 0].map .p)] = some [.box ((enc_TIns (putI y v j)).map .p), .box ([Ia 0, Ia 0, Ia 0, Ia 0, Ia 0, Ia 0, Ia 0, Ia 0].map .p)] := by
    intro y v j hj
    match j, hj with
    | 0, _ => rfl
    | 1, _ => rfl
    | 2, _ => rfl
  have s0 := fun y v => s y v 0 (by decide)
  have s1 := fun y v => s y v 1 (by decide)
  have s2 := fun y v => s y v 2 (by decide)
  simp only [Nat.add_zero, Nat.reduceAdd] at s0 s1 s2
  have fin : ∀ y : A_TIns, L66_19 [.ptr 0 0, .ptr 1 0] [] [.box ((enc_TIns y).map .p), .box ([Ia 0, Ia 0, Ia 0, Ia 0, Ia 0, Ia 0, Ia 0, Ia 0].map .p)] = some ([tiV y], []) := by
    intro y
    have a1 : ld true 8 (.ptr 0 0) [.box ((enc_TIns y).map .p), .box ([Ia 0, Ia 0, Ia 0, Ia 0, Ia 0, Ia 0, Ia 0, Ia 0].map .p)] = some (tiV y) := ldA02 (len_TIns8 y) (by decide) _
    have a2 := st8 y [] [.box ((enc_TIns y).map .p)]
    simp only [List.length_cons, List.length_nil, Nat.zero_add, List.cons_append, List.nil_append] at a2
    have a3 : ld true 8 (.ptr 1 0) [.box ((enc_TIns y).map .p), .box ((enc_TIns y).map .p)] = some (tiV y) := ldA (len_TIns8 y) (by decide) [_]
    have lv : ∀ H, leave 0 [] [tiV y] H = some ([tiV y], []) := fun H => rfl
    rw [L66_19_eq]
    simp only [a1, a2, a3, lv, core]
  have r5 := call41 x.1
  rw [f66_eq]
  rcases vals_cases x.1 with hv | hv | hv | hv
  · rw [hv] at r5
    simp only [boxAgg0, b2, g, ti0, r5, Nat.zero_add, Int.lt_irrefl, core]
    rw [L66_11_eq]
    simp only [show ¬ (1 : Int) < 0 by decide, core]
    rw [L66_15_eq]
    simp only [show ¬ (2 : Int) < 0 by decide, fin, core]
    rw [insM, hv]; rfl
  · rw [hv] at r5 h
    have h0 := h 0 (by decide)
    simp only [boxAgg0, b2, g, ti0, ti1, r5, Nat.zero_add, show (0 : Int) < 1 by decide, idxOn (show 0 ≤ x.2.1 ∧ x.2.1 < to.length from h0), ldOn (show 0 ≤ x.2.1 ∧ x.2.1 < to.length from h0), s0, core]
    rw [L66_11_eq]
    simp only [Int.lt_irrefl, core]
    rw [L66_15_eq]
    simp only [show ¬ (2 : Int) < 1 by decide, fin, core]
    rw [insM, hv]; rfl
  · rw [hv] at r5 h
    have h0 := h 0 (by decide)
    have h1 := h 1 (by decide)
    simp only [boxAgg0, b2, g, ti0, ti1, r5, Nat.zero_add, show (0 : Int) < 2 by decide, idxOn (show 0 ≤ x.2.1 ∧ x.2.1 < to.length from h0), ldOn (show 0 ≤ x.2.1 ∧ x.2.1 < to.length from h0), s0, core]
    rw [L66_11_eq]
    simp only [show (1 : Int) < 2 by decide, g, ti2, Nat.zero_add, show (putI x (on to x.2.1) 0).2.2.1 = x.2.2.1 from rfl, idxOn (show 0 ≤ x.2.2.1 ∧ x.2.2.1 < to.length from h1), ldOn (show 0 ≤ x.2.2.1 ∧ x.2.2.1 < to.length from h1), s1, core]
    rw [L66_15_eq]
    simp only [Int.lt_irrefl, fin, core]
    rw [insM, hv]; rfl
  · rw [hv] at r5 h
    have h0 := h 0 (by decide)
    have h1 := h 1 (by decide)
    have h2 := h 2 (by decide)
    simp only [boxAgg0, b2, g, ti0, ti1, r5, Nat.zero_add, show (0 : Int) < 3 by decide, idxOn (show 0 ≤ x.2.1 ∧ x.2.1 < to.length from h0), ldOn (show 0 ≤ x.2.1 ∧ x.2.1 < to.length from h0), s0, core]
    rw [L66_11_eq]
    simp only [show (1 : Int) < 3 by decide, g, ti2, Nat.zero_add, show (putI x (on to x.2.1) 0).2.2.1 = x.2.2.1 from rfl, idxOn (show 0 ≤ x.2.2.1 ∧ x.2.2.1 < to.length from h1), ldOn (show 0 ≤ x.2.2.1 ∧ x.2.2.1 < to.length from h1), s1, core]
    rw [L66_15_eq]
    simp only [show (2 : Int) < 3 by decide, g, ti3, Nat.zero_add, show (putI (putI x (on to x.2.1) 0) (on to x.2.2.1) 1).2.2.2.1 = x.2.2.2.1 from rfl, idxOn (show 0 ≤ x.2.2.2.1 ∧ x.2.2.2.1 < to.length from h2), ldOn (show 0 ≤ x.2.2.2.1 ∧ x.2.2.2.1 < to.length from h2), s2, fin, core]
    rw [insM, hv]; rfl
theorem call66 {th : AV} {H : Heap} {to : List Int} (hL : Lst 1 th H to.length (to.map Ia)) (x : A_TIns) (h : ∀ j, j < (vals x.1).toNat → 0 ≤ argI x j ∧ argI x j < to.length) (lo : List Nat) : callA cfg O 66 [tiV x, th] lo H = some (tiV (insM (on to) x), H) := by
  obtain ⟨nl, tg, b, hp⟩ := pureLst hL
  refine callA_rows (b := b) (ys := [tiV x, V nl tg to]) (rs := [tiV (insM (on to) x)]) rfl ?_ (ent66 x h) rfl rfl
  show (pureArg H (tiV x)).bind _ = _
  rw [pureAgg]
  show ((pureArgs H [th]).map _) = _
  show (((pureArg H th).bind fun r => (pureArgs H []).map fun q => (r.1 :: q.1, r.2 || q.2)).map _) = _
  rw [hp]
  show some ([tiV x, V nl tg to], false || (b || false)) = _
  simp
theorem call67 (t : TrD) (i k : Int) (x y : A_TIns) (lo : List Nat) (H : Heap) : callA cfg O 67 [aG (eTr t), I i, I k, tiV x, tiV y] lo H = some (B (alk (decide (i < t.loop)) (decide (k < t.loop)) x y), H) := by
  refine callA_args (H' := []) (rs := [B _]) rfl (pureArgsC (pureAgg _ _) (pureArgsC (pureP _ _) (pureArgsC (pureP _ _) (pureArgsC (pureAgg _ _) (pureArgs1 (pureAgg _ _)))))) ?_ rfl
  have b2 : boxO [] (AV.cells (tiV x)) [.box ((eTr t).map .p)] = some (.ptr 1 0, [.box ((eTr t).map .p), .box ((enc_TIns x).map .p)]) := boxAgg _ [_]
  have b3 : boxO [] (AV.cells (tiV y)) [.box ((eTr t).map .p), .box ((enc_TIns x).map .p)] = some (.ptr 2 0, [.box ((eTr t).map .p), .box ((enc_TIns x).map .p), .box ((enc_TIns y).map .p)]) := boxAgg _ [_, _]
  obtain ⟨H3, hH⟩ : ∃ H3 : Heap, H3 = [.box ((eTr t).map .p), .box ((enc_TIns x).map .p), .box ((enc_TIns y).map .p)] := ⟨_, rfl⟩
  rw [← hH] at b3
  have gt : ld false 1 (.ptr 0 2) H3 = some (I t.loop) := by rw [hH]; rfl
  have gx : ∀ j, ld false 1 (.ptr 1 j) H3 = ((enc_TIns x)[j]?).map .p := fun j => by rw [hH]; exact ldBx (H := [_, _, _]) rfl 1 j
  have gy : ∀ j, ld false 1 (.ptr 2 j) H3 = ((enc_TIns y)[j]?).map .p := fun j => by rw [hH]; exact ldBx (H := [_, _, _]) rfl 1 j
  have kx : ld true 2 (.ptr 1 6) H3 = some (.agg [I x.2.2.2.2.2.2.1, I x.2.2.2.2.2.2.2]) := by rw [hH, ldAgg_box (H := [_, _, _]) rfl (by simp [len_TIns8]) (by simp [len_TIns8])]; rfl
  have ky : ld true 2 (.ptr 2 6) H3 = some (.agg [I y.2.2.2.2.2.2.1, I y.2.2.2.2.2.2.2]) := by rw [hH, ldAgg_box (H := [_, _, _]) rfl (by simp [len_TIns8]) (by simp [len_TIns8])]; rfl
  have eK : ∀ a b c d : Int, bin .eql (.agg 2 [(0, .int), (1, .int)]) (.agg [I a, I b]) (.agg [I c, I d]) = some (B (a == c && (b == d && true))) := fun _ _ _ _ => rfl
  have l3 : litA false 1 [I 3, I 5, I 8] H3 = some (V (some false) true [3, 5, 8], H3) := rfl
  have c42 := fun v => call42 (nl := some false) (tg := true) [3, 5, 8] (by decide) v [] H3
  clear hH
  rw [f67_eq, alk]
  by_cases ho : x.1 = y.1
  case neg =>
    rw [if_pos ho]
    simp only [boxAgg0, b2, b3, gx, gy, ti0, Nat.zero_add, decide_eq_false ho, leave0_B, core]
  rw [if_neg (fun h => h ho)]
  by_cases c2 : x.1 = 2
  · rw [if_pos c2]
    simp only [boxAgg0, b2, b3, gx, gy, ti0, Nat.zero_add, decide_eq_true ho, decide_eq_true c2, kx, ky, eK, leave0_B, core]
  rw [if_neg c2]
  by_cases c3 : x.1 = 3
  · rw [if_pos c3]
    simp only [boxAgg0, b2, b3, gx, gy, ti0, Nat.zero_add, decide_eq_true ho, decide_eq_false c2, decide_eq_true c3, leave0_B, core]
  rw [if_neg c3]
  by_cases c1 : x.1 = 1
  · rw [if_pos c1]
    by_cases e : x.2.2.2.2.1 = y.2.2.2.2.1
    · rw [if_pos e]
      simp only [boxAgg0, b2, b3, gx, gy, gt, ti0, ti4, Nat.zero_add, decide_eq_true ho, decide_eq_false c2, decide_eq_false c3, decide_eq_true c1, decide_eq_true e, leave0_B, core]
    · rw [if_neg e]
      simp only [boxAgg0, b2, b3, gx, gy, gt, ti0, ti4, Nat.zero_add, decide_eq_true ho, decide_eq_false c2, decide_eq_false c3, decide_eq_true c1, decide_eq_false e, leave0_B, core]
  rw [if_neg c1]
  by_cases c8 : x.1 = 8
  · rw [if_pos c8]
    by_cases e : x.2.2.2.2.1 = y.2.2.2.2.1
    · rw [if_pos e]
      simp only [boxAgg0, b2, b3, gx, gy, ti0, ti1, ti4, Nat.zero_add, decide_eq_true ho, decide_eq_false c2, decide_eq_false c3, decide_eq_false c1, decide_eq_true c8, decide_eq_true e, leave0_B, core]
    · rw [if_neg e]
      simp only [boxAgg0, b2, b3, gx, gy, ti0, ti1, ti4, Nat.zero_add, decide_eq_true ho, decide_eq_false c2, decide_eq_false c3, decide_eq_false c1, decide_eq_true c8, decide_eq_false e, leave0_B, core]
  rw [if_neg c8]
  by_cases c7 : x.1 = 7
  · rw [if_pos c7]
    by_cases e : x.2.2.2.2.1 = y.2.2.2.2.1
    case neg =>
      rw [if_neg e]
      simp only [boxAgg0, b2, b3, gx, gy, ti0, ti1, ti4, Nat.zero_add, decide_eq_true ho, decide_eq_false c2, decide_eq_false c3, decide_eq_false c1, decide_eq_false c8, decide_eq_true c7, decide_eq_false e, leave0_B, core]
    rw [if_pos e]
    have hc : ∀ v, hs [3, 5, 8] v = decide (com v) := fun v => by
      unfold hs com
      congr 1
      simp
    have tail : (by exact True) ∨ True := .inr trivial
    by_cases e1 : x.2.1 = y.2.1
    · by_cases e2 : x.2.2.1 = y.2.2.1
      · rw [if_pos ⟨e1, e2⟩]
        simp only [boxAgg0, b2, b3, gx, gy, ti0, ti1, ti2, ti4, Nat.zero_add, decide_eq_true ho, decide_eq_false c2, decide_eq_false c3, decide_eq_false c1, decide_eq_false c8, decide_eq_true c7, decide_eq_true e, decide_eq_true e1, decide_eq_true e2, leave0_B, core]
      · rw [if_neg fun h => e2 h.2]
        by_cases h : com x.2.2.2.2.1
        · rw [if_pos h]
          by_cases e3 : x.2.1 = y.2.2.1
          · simp only [boxAgg0, b2, b3, gx, gy, ti0, ti1, ti2, ti4, Nat.zero_add, decide_eq_true ho, decide_eq_false c2, decide_eq_false c3, decide_eq_false c1, decide_eq_false c8, decide_eq_true c7, decide_eq_true e, decide_eq_true e1, decide_eq_false e2, l3, c42, hc, decide_eq_true h, decide_eq_true e3, Bool.true_and, leave0_B, core]
          · simp only [boxAgg0, b2, b3, gx, gy, ti0, ti1, ti2, ti4, Nat.zero_add, decide_eq_true ho, decide_eq_false c2, decide_eq_false c3, decide_eq_false c1, decide_eq_false c8, decide_eq_true c7, decide_eq_true e, decide_eq_true e1, decide_eq_false e2, l3, c42, hc, decide_eq_true h, decide_eq_false e3, Bool.false_and, leave0_B, core]
        · rw [if_neg h]
          simp only [boxAgg0, b2, b3, gx, gy, ti0, ti1, ti2, ti4, Nat.zero_add, decide_eq_true ho, decide_eq_false c2, decide_eq_false c3, decide_eq_false c1, decide_eq_false c8, decide_eq_true c7, decide_eq_true e, decide_eq_true e1, decide_eq_false e2, l3, c42, hc, decide_eq_false h, leave0_B, core]
    · rw [if_neg fun h => e1 h.1]
      by_cases h : com x.2.2.2.2.1
      · rw [if_pos h]
        by_cases e3 : x.2.1 = y.2.2.1
        · simp only [boxAgg0, b2, b3, gx, gy, ti0, ti1, ti2, ti4, Nat.zero_add, decide_eq_true ho, decide_eq_false c2, decide_eq_false c3, decide_eq_false c1, decide_eq_false c8, decide_eq_true c7, decide_eq_true e, decide_eq_false e1, l3, c42, hc, decide_eq_true h, decide_eq_true e3, Bool.true_and, leave0_B, core]
        · simp only [boxAgg0, b2, b3, gx, gy, ti0, ti1, ti2, ti4, Nat.zero_add, decide_eq_true ho, decide_eq_false c2, decide_eq_false c3, decide_eq_false c1, decide_eq_false c8, decide_eq_true c7, decide_eq_true e, decide_eq_false e1, l3, c42, hc, decide_eq_true h, decide_eq_false e3, Bool.false_and, leave0_B, core]
      · rw [if_neg h]
        simp only [boxAgg0, b2, b3, gx, gy, ti0, ti1, ti2, ti4, Nat.zero_add, decide_eq_true ho, decide_eq_false c2, decide_eq_false c3, decide_eq_false c1, decide_eq_false c8, decide_eq_true c7, decide_eq_true e, decide_eq_false e1, l3, c42, hc, decide_eq_false h, leave0_B, core]
  · rw [if_neg c7]
    simp only [boxAgg0, b2, b3, gx, gy, ti0, Nat.zero_add, decide_eq_true ho, decide_eq_false c2, decide_eq_false c3, decide_eq_false c1, decide_eq_false c8, decide_eq_false c7, leave0_B, core]
end Ir
end Go.Proofs.YtnjfpnoamgipjaaDoor
set_option linter.unusedVariables false
set_option linter.unusedSimpArgs false
set_option linter.unusedSectionVars false
set_option maxRecDepth 100000
namespace Go.Proofs.YtnjfpnoamgipjaaDoor
open Go Go.AM
namespace Ir
def Asks (ins : List A_TIns) : Prop := ∀ (i : Nat) x, ins[i]? = some x → ∀ j, j < (vals x.1).toNat → 0 ≤ argI x j ∧ argI x j < i
variable {t : TrD}
abbrev tA (t : TrD) (i : Nat) : List Int := (stp t.ins t.loop i).1
abbrev kA (t : TrD) (i : Nat) : List (Option Key) := (stp t.ins t.loop i).2
def cur (t : TrD) (i : Nat) : List Int := tA t i ++ List.replicate (t.ins.length - i) 0
theorem cur_len {i : Nat} (h : i ≤ t.ins.length) : (cur t i).length = t.ins.length := by
  rw [cur, List.length_append, (stp_len h).1, List.length_replicate]; omega
theorem cur_get {i j : Nat} (h : j < i) (hi : i ≤ t.ins.length) : (cur t i)[j]? = (tA t i)[j]? := List.getElem?_append_left (by rw [(stp_len hi).1]; exact h)
theorem cur_set {i : Nat} (h : i < t.ins.length) {v : Int} {x : A_TIns} (hx : t.ins[i]? = some x) (hv : v = tvOf (kA t i) i (kOf (insM (on (tA t i)) x) (decide ((i : Int) < t.loop)))) : (cur t i).set i v = cur t (i + 1) := by
  have hl := (stp_len (ins := t.ins) (L := t.loop) (i := i) (by omega)).1
  rw [cur, List.set_append_right _ _ (by rw [hl]; exact Nat.le_refl _), hl, Nat.sub_self, show t.ins.length - i = (t.ins.length - (i + 1)) + 1 by omega, List.replicate_succ, List.set_cons_zero, cur]
  show _ = (stp t.ins t.loop (i + 1)).1 ++ _
  rw [stp, hx, hv]
  simp
def MapOk (kvs : List (Kv Key)) (ks : List (Option Key)) : Prop := ∀ q, aget kvs q = (fi ks q).map fun j : Nat => I (j : Int)
structure S29 (t : TrD) (i : Nat) (H : Heap) (kvs : List (Kv Key)) (c : Nat) (g : Nat) : Prop where
  cx : Cx H [(3, mapObj (fun k : Key => aG (kE k)) kvs c), (1, .box ((eTr t).map .p)), (2, .box (z13.map .p))] [(.row 4 g 0 t.ins.length, 1, t.ins.length, (cur t i).map Ia)]
  map : MapOk kvs (kA t i)
  wf : WfM kvs c
  five : 5 ≤ H.length
theorem Cx.setAt {H : Heap} {fx : List (Nat × AObj)} {ls : List Ll} {id g n : Nat} {to : List Int} (h : Cx H fx ((.row id g 0 n, 1, n, to.map Ia) :: ls)) (hn : to.length = n) {j : Nat} (hj : j < n) (v : Int) (lo : List Nat) :
    ∃ H', stA 1 (.rptr id g j) (I v) lo H = some H' ∧ Cx H' fx ((.row id g 0 n, 1, n, (to.set j v).map Ia) :: ls) ∧ H'.length = H.length := by
  have ho := (h.hd).at
  refine ⟨H.set id (.row g 1 ((to.map Ia).set j (Ia v))), stA_row ho (by simp [hn, hj]), ?_, by simp⟩
  rw [← List.map_set]
  exact h.setRow [] (by simp)
theorem P29 {nid lid : Nat} {g n k : Nat} {fx : List (Nat × AObj)} {to : List Int} {x : A_TIns} (hk : k ≤ 3) (hd : ∀ q ∈ fx, q.1 ≠ nid) (hne : nid ≠ lid) (hto : to.length = n)
    (ha : ∀ j, j < k → 0 ≤ argI x j ∧ argI x j < n) {v3 v4 v7 v9 v30 v31 v32 : AV} :
    ∀ (c i : Nat) (H : Heap), k - i = c → i ≤ k → Cx H ((nid, .box ((enc_TIns (insK (on to) x i)).map .p)) :: (lid, .box [.ptr nid 1, .ptr nid 2, .ptr nid 3]) :: fx) [(.row 4 g 0 n, 1, n, to.map Ia)] →
    ∃ H', L29_26 [v3, v4, v7, .row 4 g 0 n, v9, .ptr nid 0, .bsl lid 3, v30, v31, v32, I k, I i] [] H = L29_26 [v3, v4, v7, .row 4 g 0 n, v9, .ptr nid 0, .bsl lid 3, v30, v31, v32, I k, I k] [] H' ∧ H'.length = H.length ∧
      Cx H' ((nid, .box ((enc_TIns (insK (on to) x k)).map .p)) :: (lid, .box [.ptr nid 1, .ptr nid 2, .ptr nid 3]) :: fx) [(.row 4 g 0 n, 1, n, to.map Ia)] := by
  intro c
  induction c with
  | zero =>
    intro i H hc hi hC
    have : i = k := by omega
    subst this
    exact ⟨H, rfl, rfl, hC⟩
  | succ c ih =>
    intro i H hc hi hC
    have hlt : (i : Int) < k := by omega
    have h3 : i < 3 := by omega
    obtain ⟨a0, a1⟩ := ha i (by omega)
    have hl := hC.at (id := lid) (o := .box [.ptr nid 1, .ptr nid 2, .ptr nid 3]) (by simp)
    have hx := hC.at (id := nid) (o := .box ((enc_TIns (insK (on to) x i)).map .p)) (by simp)
    have x2 : idxA 1 (.bsl lid 3) (I i) = some (.ptr lid i) := by
      simp only [idxA]
      rw [if_pos ⟨by omega, by omega⟩]
      simp
    have x3 : ld false 1 (.ptr lid i) H = some (.ptr nid (1 + i)) := by
      rw [ld_box hl]
      match i, h3 with
      | 0, _ => rfl
      | 1, _ => rfl
      | 2, _ => rfl
    have x7 : ld false 1 (.ptr nid (1 + i)) H = some (I (argI x i)) := by
      rw [ld_box hx, List.getElem?_map, arg_enc _ h3, argK _ _ h3]; rfl
    have x8 : idxA 1 (.row 4 g 0 n) (I (argI x i)) = some (.rptr 4 g (argI x i).toNat) := by
      simp only [idxA]
      rw [if_pos ⟨a0, a1⟩]
      simp
    have x9 : ld false 1 (.rptr 4 g (argI x i).toNat) H = some (I (on to (argI x i))) := by
      have hj : (argI x i).toNat < to.length := by omega
      rw [ld_row hC.hd.at, List.getElem?_map, List.getElem?_eq_getElem hj]
      have := on_get hj
      rw [show (((argI x i).toNat : Nat) : Int) = argI x i by omega] at this
      rw [this]; rfl
    have st : stA 1 (.ptr nid (1 + i)) (I (on to (argI x i))) [] H = some (H.set nid (.box ((enc_TIns (insK (on to) x (i + 1))).map .p))) := by
      have := stA_box (y := I (on to (argI x i))) (n := 1) (off := 1 + i) (lo := []) hx rfl (by simp only [List.length_map, len_TIns8]; omega) rfl rfl (by simp [len_TIns8])
      rw [this]
      show some (H.set nid (.box (((enc_TIns (insK (on to) x i)).map .p).set (1 + i) (.p (Ia (on to (argI x i))))))) = _
      rw [← List.map_set, insK, put_enc _ _ h3]
    have hC1 := hC.setBox (by
      intro q hq
      rcases List.mem_cons.mp hq with e | e
      · subst e; exact hne.symm
      · exact hd q e) ((enc_TIns (insK (on to) x (i + 1))).map .p)
    have w := wrapN (show i < 2 ^ 63 - 1 by omega)
    obtain ⟨H', k1, k2, k3⟩ := ih (i + 1) _ (by omega) (by omega) hC1
    refine ⟨H', ?_, by rw [k2]; simp, k3⟩
    rw [← k1, L29_26_eq]
    simp only [hlt, x2, x3, nilc, x7, x8, x9, st, w, core]
theorem asks_len (x : A_TIns) : ((asksL x).length : Int) = (vals x.1).toNat := by
  obtain ⟨h1, h2⟩ := asks_le x.1
  rw [asksL, List.length_take, asks_vals]
  rw [asks_vals] at h1 h2
  simp
  omega
theorem G29 (ht : t.Sm) (hA : Asks t.ins) {i : Nat} {H : Heap} {kvs : List (Kv Key)} {c g : Nat} (h : S29 t i H kvs c g) (hi : i < t.ins.length) :
    ∃ H' kvs' c', S29 t (i + 1) H' kvs' c' g ∧ L29_16 [.ptr 1 0, .ptr 2 0, .mp 3, .row 4 g 0 t.ins.length, Rw enc_TIns t.iN t.iT t.ins, I t.ins.length, I (i : Int)] [] H =
      L29_16 [.ptr 1 0, .ptr 2 0, .mp 3, .row 4 g 0 t.ins.length, Rw enc_TIns t.iN t.iT t.ins, I t.ins.length, I ((i + 1 : Nat) : Int)] [] H' := by
  have hs := ht.ins
  have hlt : (i : Int) < t.ins.length := by omega
  obtain ⟨x, hx⟩ : ∃ x, t.ins[i] = x := ⟨_, rfl⟩
  have hx? : t.ins[i]? = some x := by rw [List.getElem?_eq_getElem hi, hx]
  have hC := h.cx
  have h5 := h.five
  have x2 := idxR (enc := enc_TIns) (k := 8) (nl := t.iN) (tg := t.iT) hi
  have x3 : ld true 8 (.fp (t.ins.flatMap enc_TIns) (i * 8)) H = some (tiV x) := by rw [ldR len_TIns8 hi, hx]
  have r4 := box8 H
  have r5 := st8 x [] H
  have hC1 := hC.newBox ((enc_TIns x).map .p)
  have lA : (H ++ [AObj.box ((enc_TIns x).map .p)]).length = H.length + 1 := by simp
  generalize hHA : H ++ [AObj.box ((enc_TIns x).map .p)] = HA at r5 hC1 lA
  have x6 : idxA 1 (.row 4 g 0 t.ins.length) (I i) = some (.rptr 4 g i) := by
    simp only [idxA]
    rw [if_pos ⟨by omega, hlt⟩]
    simp
  obtain ⟨HB, s7, hC2, lB⟩ := Cx.setAt hC1 (cur_len (by omega)) hi (i : Int) []
  have r11 : litB 1 [.ptr H.length 1, .ptr H.length 2, .ptr H.length 3] HB = some (.bsl HB.length 3, HB ++ [.box [.ptr H.length 1, .ptr H.length 2, .ptr H.length 3]]) := rfl
  have hC3 := hC2.newBox [.ptr H.length 1, .ptr H.length 2, .ptr H.length 3]
  have lC : (HB ++ [AObj.box [.ptr H.length 1, .ptr H.length 2, .ptr H.length 3]]).length = H.length + 2 := by simp [lB, lA]
  have lB' : HB.length = H.length + 1 := by rw [lB, lA]
  generalize hHC : HB ++ [AObj.box [.ptr H.length 1, .ptr H.length 2, .ptr H.length 3]] = HC at r11 hC3 lC
  have hxC := hC3.at (id := H.length) (o := .box ((enc_TIns x).map .p)) (by simp)
  have x12 : ld true 8 (.ptr H.length 0) HC = some (tiV x) := by rw [ldAgg_box hxC (by simp [len_TIns8]) (by simp [len_TIns8])]; rfl
  obtain ⟨nl, tg, r13⟩ := call13 x [] HC
  have al := asks_len x
  -- what was put in
  have lto : ((cur t i).set i (i : Int)).length = t.ins.length := by rw [List.length_set]; exact cur_len (by omega)
  have hval : ∀ v : Int, 0 ≤ v → v < i → on ((cur t i).set i (i : Int)) v = on (tA t i) v := by
    intro v h0 h1
    rw [on, on, if_pos h0, if_pos h0, List.getElem?_set_ne (by omega), cur_get (by omega) (by omega)]
  have v3 : (vals x.1).toNat ≤ 3 := by rcases vals_cases x.1 with e | e | e | e <;> rw [e] <;> decide
  have hC4 := hC3.mono (fx' := (H.length, .box ((enc_TIns x).map .p)) :: (HB.length, .box [.ptr H.length 1, .ptr H.length 2, .ptr H.length 3]) :: [(3, mapObj (fun k : Key => aG (kE k)) kvs c), (1, .box ((eTr t).map .p)), (2, .box (z13.map .p))]) (fun q hq => by simp only [List.mem_cons, List.not_mem_nil, or_false] at hq ⊢; rcases hq with h | h | h | h | h <;> simp [h]) (List.Sublist.refl _)
  obtain ⟨HD, k1, lD, hC5⟩ := P29 (x := x) (k := (vals x.1).toNat) (g := g) (n := t.ins.length) (to := (cur t i).set i (i : Int)) v3 (by
      intro q hq
      simp only [List.mem_cons, List.not_mem_nil, or_false] at hq
      rcases hq with h | h | h <;> subst h <;> simp only <;> omega) (by omega) lto (fun j hj => by have := hA i x hx? j hj; omega) (v3 := .ptr 1 0) (v4 := .ptr 2 0) (v7 := .mp 3) (v9 := I i) (v30 := Rw enc_TIns t.iN t.iT t.ins) (v31 := I t.ins.length) (v32 := I i) (vals x.1).toNat 0 HC rfl (Nat.zero_le _) hC4
  have ey : insK (on ((cur t i).set i (i : Int))) x (vals x.1).toNat = insM (on (tA t i)) x := insK_congr x _ fun j hj => by
    obtain ⟨h1, h2⟩ := hA i x hx? j hj
    exact hval _ h1 h2
  rw [ey] at hC5
  obtain ⟨y, hy⟩ : ∃ y, y = insM (on (tA t i)) x := ⟨_, rfl⟩
  rw [← hy] at hC5
  have hxD := hC5.at (id := H.length) (o := .box ((enc_TIns y).map .p)) (by simp)
  have htD := hC5.at (id := 1) (o := .box ((eTr t).map .p)) (by simp)
  have y13 : ld true 8 (.ptr H.length 0) HD = some (tiV y) := by rw [ldAgg_box hxD (by simp [len_TIns8]) (by simp [len_TIns8])]; rfl
  have y15 : ld false 1 (.ptr 1 2) HD = some (I t.loop) := by rw [ld_box htD]; rfl
  have y17 := call64 y (decide ((i : Int) < t.loop)) [] HD
  obtain ⟨ko, hko⟩ : ∃ ko, ko = kOf y (decide ((i : Int) < t.loop)) := ⟨_, rfl⟩
  rw [← hko] at y17
  have b20 := box7 HD
  have s21 := st7 (ko.getD k0) [] HD
  have hC6 := (hC5.mono (fx' := [(3, mapObj (fun k : Key => aG (kE k)) kvs c), (1, .box ((eTr t).map .p)), (2, .box (z13.map .p))]) (fun q hq => List.mem_cons_of_mem _ (List.mem_cons_of_mem _ hq)) (List.Sublist.refl _)).push [.box ((kE (ko.getD k0)).map .p)]
  have l23 := ld7 (ko.getD k0) HD
  have lE : (HD ++ [AObj.box ((kE (ko.getD k0)).map .p)]).length = H.length + 3 := by simp [lD, lC]
  generalize hHE : HD ++ [AObj.box ((kE (ko.getD k0)).map .p)] = HE at s21 hC6 l23 lE
  have w := wrapN (show i < 2 ^ 63 - 1 by omega)
  have ekA : kA t (i + 1) = kA t i ++ [ko] := by
    show (stp t.ins t.loop (i + 1)).2 = _
    rw [stp, hx?, hko, hy]
  have hkl : (kA t i).length = i := (stp_len (by omega)).2
  have hset : ∀ v : Int, v = tvOf (kA t i) i ko → ((cur t i).set i (i : Int)).set i v = cur t (i + 1) := by
    intro v hv
    rw [List.set_set]
    exact cur_set hi hx? (by rw [hv, hko, hy])
  have head : L29_16 [.ptr 1 0, .ptr 2 0, .mp 3, .row 4 g 0 t.ins.length, Rw enc_TIns t.iN t.iT t.ins, I t.ins.length, I (i : Int)] [] H =
      L29_26 [.ptr 1 0, .ptr 2 0, .mp 3, .row 4 g 0 t.ins.length, I i, .ptr H.length 0, .bsl HB.length 3, Rw enc_TIns t.iN t.iT t.ins, I t.ins.length, I i, I (vals x.1).toNat, I (vals x.1).toNat] [] HD := by
    rw [← k1, L29_16_eq]
    simp only [hlt, x2, x3, r4, r5, x6, s7, fldA_ptr, Nat.zero_add, r11, x12, r13, lenA_sl, al, core]
    rfl
  cases hk : ko with
  | none =>
    rw [hk] at y17 s21 l23
    simp only [Option.getD_none, Option.isSome_none] at y17 s21 l23
    refine ⟨HE, kvs, c, ⟨?_, ?_, h.wf, by omega⟩, ?_⟩
    · have := hset (i : Int) (by rw [hk]; rfl)
      rw [List.set_set] at this
      rw [this] at hC6
      exact hC6
    · intro q
      rw [ekA, fi_app, h.map q, hk]
      simp
    · rw [head, L29_26_eq]
      simp only [Int.lt_irrefl, y13, y15, fldA_ptr, Nat.zero_add, y17, b20, s21, core]
      rw [L29_47_eq]
      simp only [w, core]
  | some q =>
    rw [hk] at y17 s21 l23
    simp only [Option.getD_some, Option.isSome_some] at y17 s21 l23
    have hm := hC6.at (id := 3) (o := mapObj (fun k : Key => aG (kE k)) kvs c) (by simp)
    have lk := map_look2 (z := I 0) keyK hm q
    have hag := h.map q
    cases hf : fi (kA t i) q with
    | some j =>
      rw [hf] at hag
      rw [hag] at lk
      simp only [Option.map_some, Option.getD_some, Option.isSome_some] at lk
      obtain ⟨HF, s28, hC7, lF⟩ := Cx.setAt hC6 lto hi (j : Int) []
      refine ⟨HF, kvs, c, ⟨?_, ?_, h.wf, by omega⟩, ?_⟩
      · rw [hset (j : Int) (by rw [hk, tvOf]; simp only [hf])] at hC7
        exact hC7
      · intro q'
        rw [ekA, fi_app, h.map q', hk]
        by_cases e : q = q'
        · subst e; rw [hf]; rfl
        · rw [if_neg (by simpa using e)]; simp
      · rw [head, L29_26_eq]
        simp only [Int.lt_irrefl, y13, y15, fldA_ptr, Nat.zero_add, y17, b20, s21, l23, lk, x6, s28, core]
        rw [L29_47_eq]
        simp only [w, core]
    | none =>
      rw [hf] at hag
      simp only [Option.map_none] at hag
      rw [hag] at lk
      simp only [Option.getD_none, Option.isSome_none] at lk
      obtain ⟨c', HF, p1, p2, p3⟩ := Cx.mapPut keyK hC6 (by
        intro q hq
        simp only [List.mem_cons, List.not_mem_nil, or_false] at hq
        rcases hq with h | h <;> subst h <;> simp only <;> omega) h.wf q (v := I i) (lo := []) rfl
      refine ⟨HF, aput kvs q (I i) c, c', ⟨?_, ?_, p3, by have := getElem?_lt p2.hd.at; omega⟩, ?_⟩
      · have := hset (i : Int) (by rw [hk, tvOf]; simp only [hf])
        rw [List.set_set] at this
        rw [this] at p2
        exact p2
      · intro q'
        rw [aget_put, ekA, fi_app, h.map q', hk]
        by_cases e : q' = q
        · subst e; rw [if_pos rfl, hf, if_pos rfl, hkl]; rfl
        · rw [if_neg e, if_neg (by simpa using fun h => e h.symm)]; simp
      · rw [head, L29_26_eq]
        simp only [Int.lt_irrefl, y13, y15, fldA_ptr, Nat.zero_add, y17, b20, s21, l23, lk, p1, core]
        rw [L29_47_eq]
        simp only [w, core]
end Ir
end Go.Proofs.YtnjfpnoamgipjaaDoor
set_option linter.unusedVariables false
set_option linter.unusedSimpArgs false
set_option linter.unusedSectionVars false
set_option maxRecDepth 100000
namespace Go.Proofs.YtnjfpnoamgipjaaDoor
open Go Go.AM
namespace Ir
def idL (i : Nat) : List Int := (List.range i).map fun j : Nat => (j : Int)
theorem idL_succ (i : Nat) : idL (i + 1) = idL i ++ [(i : Int)] := by simp [idL, List.range_succ]
theorem L65 {n : Nat} (hn : n < 2 ^ 30) {fx : List (Nat × AObj)} : ∀ (c i : Nat) (H : Heap) (th : AV), n - i = c → i ≤ n → Cx H fx [(th, 1, i, (idL i).map Ia)] → Can th i →
    ∃ H' th', L65_8 [th, I n, I i] [] H = some ([th'], H') ∧ Cx H' fx [(th', 1, n, (idL n).map Ia)] ∧ Can th' n := by
  intro c
  induction c with
  | zero =>
    intro i H th hc hi hC hcan
    have : i = n := by omega
    subst this
    refine ⟨H, th, ?_, hC, hcan⟩
    rw [L65_8_eq]
    simp only [Int.lt_irrefl, core]
    rfl
  | succ c ih =>
    intro i H th hc hi hC hcan
    have hlt : (i : Int) < n := by omega
    obtain ⟨o', H1, e, hC1, id, g, rfl⟩ := hC.app (bytes := 8) (y := .p (.sl (some false) true 1 [Ia i])) (k := 1) (new := [Ia i]) [] rfl rfl (by decide) (by unfold room; omega)
    have w := wrapN (show i < 2 ^ 63 - 1 by omega)
    obtain ⟨H', th', k1, k2, k3⟩ := ih (i + 1) H1 (.row id g 0 (i + 1)) (by omega) (by omega) (by rw [idL_succ, List.map_append]; exact hC1) (Can.row (by omega))
    refine ⟨H', th', ?_, k2, k3⟩
    rw [← k1, L65_8_eq]
    simp only [hlt, lit1, e, w, core]
variable {t : TrD}
def curD (t : TrD) (i : Nat) : List Int := tA t i ++ (List.range' i (t.ins.length - i)).map fun j : Nat => (j : Int)
theorem curD_len {i : Nat} (h : i ≤ t.ins.length) : (curD t i).length = t.ins.length := by
  rw [curD, List.length_append, (stp_len h).1, List.length_map, List.length_range']; omega
theorem curD_get {i j : Nat} (h : j < i) (hi : i ≤ t.ins.length) : (curD t i)[j]? = (tA t i)[j]? := List.getElem?_append_left (by rw [(stp_len hi).1]; exact h)
theorem curD_own {i : Nat} (hi : i < t.ins.length) : (curD t i)[i]? = some (i : Int) := by
  have hl := (stp_len (ins := t.ins) (L := t.loop) (i := i) (by omega)).1
  rw [curD, List.getElem?_append_right (by rw [hl]; exact Nat.le_refl _), hl, Nat.sub_self, List.getElem?_map, List.getElem?_range' (by omega)]
  simp
theorem curD_set {i : Nat} (h : i < t.ins.length) {v : Int} {x : A_TIns} (hx : t.ins[i]? = some x) (hv : v = tvOf (kA t i) i (kOf (insM (on (tA t i)) x) (decide ((i : Int) < t.loop)))) : (curD t i).set i v = curD t (i + 1) := by
  have hl := (stp_len (ins := t.ins) (L := t.loop) (i := i) (by omega)).1
  rw [curD, List.set_append_right _ _ (by rw [hl]; exact Nat.le_refl _), hl, Nat.sub_self, show t.ins.length - i = (t.ins.length - (i + 1)) + 1 by omega, List.range'_succ, List.map_cons, List.set_cons_zero, curD]
  show _ = (stp t.ins t.loop (i + 1)).1 ++ _
  rw [stp, hx, hv]
  simp
theorem curD_zero (t : TrD) : curD t 0 = idL t.ins.length := by
  rw [curD, Nat.sub_zero, idL, List.range_eq_range']; rfl
theorem curD_all (t : TrD) : curD t t.ins.length = tA t t.ins.length := by
  rw [curD, Nat.sub_self]; simp
theorem rowRd {H : Heap} {fx : List (Nat × AObj)} {ls : List Ll} {id g n : Nat} {to : List Int} (h : Cx H fx ((.row id g 0 n, 1, n, to.map Ia) :: ls)) {j : Nat} (hj : j < n) {v : Int} (hv : to[j]? = some v) :
    idxA 1 (.row id g 0 n) (I j) = some (.rptr id g j) ∧ ld false 1 (.rptr id g j) H = some (I v) := by
  refine ⟨?_, ?_⟩
  · simp only [idxA]
    rw [if_pos ⟨by omega, by omega⟩]
    simp
  · rw [ld_row h.hd.at, List.getElem?_map, hv]; rfl
structure S31 (t : TrD) (to : List Int) (H : Heap) (th : AV) : Prop where
  cx : Cx H [(0, .box ((eTr t).map .p)), (1, .box (z13.map .p))] [(th, 1, t.ins.length, to.map Ia)]
  can : Can th t.ins.length
  two : 2 ≤ H.length
section
variable (ht : t.Sm) (hA : Asks t.ins)
include ht hA
theorem X31 {i k : Nat} {v : Int} {x : A_TIns} (hi : i < t.ins.length) (hx : t.ins[i]? = some x) (hv : v = tvOf (kA t i) i (kOf (insM (on (tA t i)) x) (decide ((i : Int) < t.loop)))) (hend : k = i ∨ (v ≠ i ∧ k < i)) {H : Heap} {th v5 : AV}
    (h : S31 t ((curD t i).set i v) H th) :
    L31_16 [.ptr 0 0, .ptr 1 0, th, I i, v5, I k, I t.ins.length, I i] [] H = L31_8 [.ptr 0 0, .ptr 1 0, th, I t.ins.length, I ((i + 1 : Nat) : Int)] [] H ∧ S31 t (curD t (i + 1)) H th := by
  have hs := ht.ins
  have w := wrapN (show i < 2 ^ 63 - 1 by omega)
  refine ⟨?_, by rw [← curD_set hi hx hv]; exact h⟩
  have lc : ((curD t i).set i v).length = t.ins.length := by rw [List.length_set]; exact curD_len (by omega)
  obtain ⟨_, id, g, rfl⟩ : 0 < t.ins.length ∧ ∃ id g, th = .row id g 0 t.ins.length := by
    rcases h.can with ⟨e, _⟩ | h
    · omega
    · exact h
  rw [L31_16_eq]
  rcases hend with e | ⟨e, hk⟩
  · subst e
    simp only [Int.lt_irrefl, w, core]
  · obtain ⟨r1, r2⟩ := rowRd h.cx hi (show ((curD t i).set i v)[i]? = some v by rw [List.getElem?_set_self (by rw [curD_len (by omega)]; exact hi)])
    have hlt : (k : Int) < i := by omega
    simp only [hlt, r1, r2, decide_eq_false e, w, core]
theorem I31 {i : Nat} {x : A_TIns} (hi : i < t.ins.length) (hx : t.ins[i]? = some x) {nid : Nat} {th : AV} :
    ∀ (c k : Nat) (H : Heap), i - k = c → k ≤ i → (∀ m, m < k → ∀ q, kOf (insM (on (tA t i)) x) (decide ((i : Int) < t.loop)) = some q → (kA t i)[m]? ≠ some (some q)) →
    S31 t ((curD t i).set i (i : Int)) H th → H[nid]? = some (.box ((enc_TIns (insM (on (tA t i)) x)).map .p)) →
    ∃ H', L31_16 [.ptr 0 0, .ptr 1 0, th, I i, .ptr nid 0, I k, I t.ins.length, I i] [] H = L31_8 [.ptr 0 0, .ptr 1 0, th, I t.ins.length, I ((i + 1 : Nat) : Int)] [] H' ∧ S31 t (curD t (i + 1)) H' th := by
  intro c
  have hs := ht.ins
  have hkl : (kA t i).length = i := (stp_len (by omega)).2
  obtain ⟨y, hy⟩ : ∃ y, y = insM (on (tA t i)) x := ⟨_, rfl⟩
  obtain ⟨ko, hko⟩ : ∃ ko, ko = kOf y (decide ((i : Int) < t.loop)) := ⟨_, rfl⟩
  rw [← hy, ← hko]
  induction c with
  | zero =>
    intro k H hc hk hno h hb
    have : k = i := by omega
    subst this
    refine ⟨H, X31 ht hA hi hx ?_ (.inl rfl) h⟩
    rw [← hy, ← hko]
    cases hk2 : ko with
    | none => rfl
    | some q =>
      simp only [tvOf]
      cases hf : fi (kA t k) q with
      | none => rfl
      | some j =>
        obtain ⟨f1, f2, _⟩ := fi_lt hf
        exact (hno j (by omega) q hk2 f2).elim
  | succ c ih =>
    intro k H hc hk hno h hb
    have hki : k < i := by omega
    have hlt : (k : Int) < i := by omega
    have lc : ((curD t i).set i (i : Int)).length = t.ins.length := by rw [List.length_set]; exact curD_len (by omega)
    obtain ⟨_, id, g, hth⟩ : 0 < t.ins.length ∧ ∃ id g, th = .row id g 0 t.ins.length := by
      rcases h.can with ⟨e, _⟩ | h
      · omega
      · exact h
    have hC := h.cx
    have hl := (hC.hd)
    rw [hth] at hC
    obtain ⟨r1, r2⟩ := rowRd hC hi (show ((curD t i).set i (i : Int))[i]? = some (i : Int) by rw [List.getElem?_set_self (by rw [curD_len (by omega)]; exact hi)])
    have hxk : t.ins[k]? = some t.ins[k] := List.getElem?_eq_getElem (by omega)
    obtain ⟨xk, hxk'⟩ : ∃ xk, t.ins[k]'(by omega) = xk := ⟨_, rfl⟩
    rw [hxk'] at hxk
    obtain ⟨s1, s2⟩ := stp_to (L := t.loop) hki (by omega) hxk
    obtain ⟨tk, htk⟩ : ∃ tk, tk = tvOf (kA t k) k (kOf (insM (on (tA t k)) xk) (decide ((k : Int) < t.loop))) := ⟨_, rfl⟩
    rw [← htk] at s1
    have hgk : ((curD t i).set i (i : Int))[k]? = some tk := by rw [List.getElem?_set_ne (by omega), curD_get hki (by omega)]; exact s1
    obtain ⟨q1, q2⟩ := rowRd hC (show k < t.ins.length by omega) hgk
    have w := wrapN (show k < 2 ^ 63 - 1 by omega)
    have htb := h.cx.at (id := 0) (o := .box ((eTr t).map .p)) (by simp)
    have x12 : ld true 13 (.ptr 0 0) H = some (aG (eTr t)) := by rw [ldAgg_box htb (by simp [eTr13]) (by simp [eTr13])]; rfl
    have x15 : ld true 8 (.ptr nid 0) H = some (tiV y) := by rw [ldAgg_box hb (by simp [len_TIns8]) (by simp [len_TIns8])]; rfl
    have x17 : ld false 1 (.ptr 0 3) H = some (Rw enc_TIns t.iN t.iT t.ins) := by rw [ld_box htb]; rfl
    have x19 := idxR (enc := enc_TIns) (k := 8) (nl := t.iN) (tg := t.iT) (show k < t.ins.length by omega)
    have x20 : ld true 8 (.fp (t.ins.flatMap enc_TIns) (k * 8)) H = some (tiV xk) := by rw [ldR len_TIns8 (by omega), hxk']
    have x22 := call66 (to := (curD t i).set i (i : Int)) (by rw [lc]; exact hl) xk (fun j hj => by rw [lc]; have := hA k xk hxk j hj; omega) []
    have eyk : insM (on ((curD t i).set i (i : Int))) xk = insM (on (tA t k)) xk := insK_congr xk _ fun j hj => by
      obtain ⟨h1, h2⟩ := hA k xk hxk j hj
      have hp := (stp_pre (ins := t.ins) (L := t.loop) (i := k) (n := i) (by omega) (by omega)).1
      have e := congrArg (fun l => l[(argI xk j).toNat]?) hp
      simp only [List.getElem?_take_of_lt (show (argI xk j).toNat < k by omega)] at e
      rw [on, on, if_pos h1, if_pos h1, List.getElem?_set_ne (by omega), curD_get (by omega) (by omega), e]
    rw [eyk] at x22
    have x23 := call67 t i k y (insM (on (tA t k)) xk) [] H
    -- the next place, nothing found here
    have next : (∀ q, ko = some q → (kA t i)[k]? ≠ some (some q)) → ∃ H', L31_19 [.ptr 0 0, .ptr 1 0, th, I i, .ptr nid 0, I k, I t.ins.length, I i] [] H = L31_8 [.ptr 0 0, .ptr 1 0, th, I t.ins.length, I ((i + 1 : Nat) : Int)] [] H' ∧ S31 t (curD t (i + 1)) H' th := by
      intro hn
      obtain ⟨H', k1, k2⟩ := ih (k + 1) H (by omega) (by omega) (fun m hm q hq => by
        by_cases e : m = k
        · subst e; exact hn q hq
        · exact hno m (by omega) q hq) h hb
      refine ⟨H', ?_, k2⟩
      rw [← k1, L31_19_eq]
      simp only [w, core]
    by_cases et : tk = (k : Int)
    case neg =>
      obtain ⟨H', k1, k2⟩ := next (fun q hq hks => by
        have hown := first_own (ins := t.ins) (L := t.loop) hki (by omega) hks (fun m hm => hno m hm q hq)
        rw [s1] at hown
        exact et (Option.some.inj hown))
      refine ⟨H', ?_, k2⟩
      rw [L31_16_eq, ← k1]
      rw [hth]
      simp only [hlt, r1, r2, q1, q2, decide_eq_false et, core]
    cases ha : alk (decide ((i : Int) < t.loop)) (decide ((k : Int) < t.loop)) y (insM (on (tA t k)) xk) with
    | false =>
      rw [ha] at x23
      obtain ⟨H', k1, k2⟩ := next (fun q hq hks => by
        have : alk (decide ((i : Int) < t.loop)) (decide ((k : Int) < t.loop)) y (insM (on (tA t k)) xk) = true := (alk_iff _ _ _ _).mpr ⟨q, by rw [← hko]; exact hq, by
          have := s2.symm.trans hks
          exact Option.some.inj this⟩
        rw [this] at ha
        cases ha)
      refine ⟨H', ?_, k2⟩
      rw [hth] at x22
      rw [L31_16_eq, ← k1, hth]
      simp only [hlt, r1, r2, q1, q2, decide_eq_true et, x12, x15, fldA_ptr, Nat.zero_add, x17, x19, x20, x22, x23, core]
    | true =>
      rw [ha] at x23
      obtain ⟨q, hq1, hq2⟩ := (alk_iff _ _ _ _).mp ha
      have hks : (kA t i)[k]? = some (some q) := by rw [← hq2]; exact s2
      have hf : fi (kA t i) q = some k := fi_of hks (fun m hm => hno m hm q (by rw [hko]; exact hq1))
      obtain ⟨H1, s26, hC1, l1⟩ := Cx.setAt hC lc hi (k : Int) []
      rw [List.set_set] at hC1
      have h1 : S31 t ((curD t i).set i (k : Int)) H1 th := ⟨by rw [hth]; exact hC1, h.can, by rw [l1]; exact h.two⟩
      obtain ⟨k1, k2⟩ := X31 ht hA (k := k + 1) (v5 := .ptr nid 0) hi hx (v := (k : Int)) (by rw [← hy, ← hko, hko, hq1, tvOf]; simp only [hf]) (by
        by_cases e : k + 1 = i
        · exact .inl e
        · exact .inr ⟨by omega, by omega⟩) h1
      refine ⟨H1, ?_, k2⟩
      rw [hth] at x22 k1 ⊢
      rw [L31_16_eq, ← k1]
      simp only [hlt, r1, r2, q1, q2, decide_eq_true et, x12, x15, fldA_ptr, Nat.zero_add, x17, x19, x20, x22, x23, s26, core]
      rw [L31_19_eq]
      simp only [w, core]
theorem G31 {i : Nat} {H : Heap} {th : AV} (h : S31 t (curD t i) H th) (hi : i < t.ins.length) :
    ∃ H', L31_8 [.ptr 0 0, .ptr 1 0, th, I t.ins.length, I (i : Int)] [] H = L31_8 [.ptr 0 0, .ptr 1 0, th, I t.ins.length, I ((i + 1 : Nat) : Int)] [] H' ∧ S31 t (curD t (i + 1)) H' th := by
  have hlt : (i : Int) < t.ins.length := by omega
  obtain ⟨x, hx⟩ : ∃ x, t.ins[i] = x := ⟨_, rfl⟩
  have hx? : t.ins[i]? = some x := by rw [List.getElem?_eq_getElem hi, hx]
  have hC := h.cx
  have lc := curD_len (t := t) (i := i) (by omega)
  have htb := hC.at (id := 0) (o := .box ((eTr t).map .p)) (by simp)
  have x3 : ld false 1 (.ptr 0 3) H = some (Rw enc_TIns t.iN t.iT t.ins) := by rw [ld_box htb]; rfl
  have x4 := idxR (enc := enc_TIns) (k := 8) (nl := t.iN) (tg := t.iT) hi
  have x5 : ld true 8 (.fp (t.ins.flatMap enc_TIns) (i * 8)) H = some (tiV x) := by rw [ldR len_TIns8 hi, hx]
  have r6 := call66 (to := curD t i) (by rw [lc]; exact hC.hd) x (fun j hj => by rw [lc]; have := hA i x hx? j hj; omega) []
  have ey : insM (on (curD t i)) x = insM (on (tA t i)) x := insK_congr x _ fun j hj => by
    obtain ⟨h1, h2⟩ := hA i x hx? j hj
    rw [on, on, if_pos h1, if_pos h1, curD_get (by omega) (by omega)]
  rw [ey] at r6
  have r7 := box8 H
  have r8 := st8 (insM (on (tA t i)) x) [] H
  have hC1 := hC.newBox ((enc_TIns (insM (on (tA t i)) x)).map .p)
  have hb := hC1.at (id := H.length) (o := .box ((enc_TIns (insM (on (tA t i)) x)).map .p)) (by simp)
  have e0 : (curD t i).set i (i : Int) = curD t i := set_same (curD_own hi)
  obtain ⟨H', k1, k2⟩ := I31 ht hA hi hx? (nid := H.length) (th := th) i 0 (H ++ [.box ((enc_TIns (insM (on (tA t i)) x)).map .p)]) rfl (Nat.zero_le _) (fun m hm => by omega)
    ⟨by rw [e0]; exact hC1.bt, h.can, by have := h.two; simp; omega⟩ hb
  refine ⟨H', ?_, k2⟩
  rw [L31_8_eq]
  simp only [hlt, fldA_ptr, Nat.zero_add, x3, x4, x5, r6, r7, r8, core]
  exact k1
theorem R31 {H : Heap} {th : AV} (h : S31 t (curD t 0) H th) : ∀ m, m ≤ t.ins.length → ∃ H', L31_8 [.ptr 0 0, .ptr 1 0, th, I t.ins.length, I ((0 : Nat) : Int)] [] H = L31_8 [.ptr 0 0, .ptr 1 0, th, I t.ins.length, I (m : Int)] [] H' ∧ S31 t (curD t m) H' th := by
  intro m
  induction m with
  | zero => intro _; exact ⟨H, rfl, h⟩
  | succ m ihm =>
    intro hm
    obtain ⟨H1, k1, k2⟩ := ihm (by omega)
    obtain ⟨H2, k3, k4⟩ := G31 ht hA k2 (by omega)
    exact ⟨H2, k1.trans k3, k4⟩
theorem tA_ok : (tA t t.ins.length).length = t.ins.length ∧ okTo (tA t t.ins.length) ∧ ∀ (i : Nat) v, (tA t t.ins.length)[i]? = some v → 0 ≤ v := by
  have hl := (stp_len (ins := t.ins) (L := t.loop) (Nat.le_refl t.ins.length)).1
  have key : ∀ (i : Nat) v, (tA t t.ins.length)[i]? = some v → 0 ≤ v ∧ v ≤ i := by
    intro i v h
    have hi : i < t.ins.length := by rw [← hl]; exact getElem?_lt h
    have := (stp_to (L := t.loop) hi (Nat.le_refl _) (List.getElem?_eq_getElem hi)).1
    rw [h] at this
    rw [Option.some.inj this]
    exact tvOf_le (stp_len (by omega)).2 _
  exact ⟨hl, fun i v h => ⟨by have := (key i v h).1; omega, (key i v h).2⟩, fun i v h => (key i v h).1⟩
theorem ent31 : O.ent 31 [aG (eTr t)] [] [] = some ([aG (eTc (bif cutOk t (tA t t.ins.length) then cutC t (tA t t.ins.length) else zeroC))], []) := by
  have hs := ht.ins
  obtain ⟨o1, o2, _⟩ := tA_ok ht hA
  obtain ⟨H2, hH2⟩ : ∃ H2 : Heap, H2 = [.box ((eTr t).map .p), .box (z13.map .p)] := ⟨_, rfl⟩
  have r2 : boxO [] [(I 0), (I 0), (I 0), (.p nilS), (.p nilS), (I 0), (I 0), (.p nilS), (.p nilS), (I 0), (I 0), (.p nilS), (.p nilS)] [.box ((eTr t).map .p)] = some (.ptr 1 0, H2) := by rw [hH2]; exact boxO_p z13 [_]
  have hC0 : Cx H2 [(0, .box ((eTr t).map .p)), (1, .box (z13.map .p))] [] := by
    rw [hH2]
    refine ⟨fun q hq => ?_, fun q hq => (by cases hq), .nil⟩
    simp only [List.mem_cons, List.not_mem_nil, or_false] at hq
    rcases hq with h | h <;> subst h <;> exact ⟨rfl, rfl⟩
  have x3 : ld true 13 (.ptr 0 0) H2 = some (aG (eTr t)) := by rw [ldAgg_box (hC0.at (id := 0) (o := .box ((eTr t).map .p)) (by simp)) (by simp [eTr13]) (by simp [eTr13])]; rfl
  -- the list of places
  obtain ⟨H3, th, e65, hC3, hcan⟩ : ∃ H3 th, callA cfg O 65 [aG (eTr t)] [] H2 = some (th, H3) ∧ Cx H3 [(0, .box ((eTr t).map .p)), (1, .box (z13.map .p))] [(th, 1, t.ins.length, (idL t.ins.length).map Ia)] ∧ Can th t.ins.length := by
    have hC1 := ((hC0.newBox ((eTr t).map .p)).bt).newNil 1
    obtain ⟨H', th', k1, k2, k3⟩ := L65 ht.ins t.ins.length 0 (H2 ++ [.box ((eTr t).map .p)]) (.p nilS) rfl (Nat.zero_le _) hC1 Can.nil
    refine ⟨H', th', callA_keep (rs := [th']) rfl ?_, k2, k3⟩
    have b1 : boxO [] (AV.cells (aG (eTr t))) H2 = some (.ptr H2.length 0, H2 ++ [.box ((eTr t).map .p)]) := boxAgg _ H2
    have g : ld false 1 (.ptr H2.length 3) (H2 ++ [.box ((eTr t).map .p)]) = some (Rw enc_TIns t.iN t.iT t.ins) := by rw [ldB]; rfl
    rw [f65_eq]
    simp only [b1, fldA_ptr, Nat.zero_add, g, lenA_sl, core]
    exact k1
  have h3 : 2 ≤ H3.length := getElem?_lt (hC3.at (id := 1) (o := .box (z13.map .p)) (by simp))
  obtain ⟨H4, k1, k2⟩ := R31 ht hA (th := th) (H := H3) ⟨by rw [curD_zero]; exact hC3, hcan, h3⟩ t.ins.length (Nat.le_refl _)
  have htb := hC3.at (id := 0) (o := .box ((eTr t).map .p)) (by simp)
  have x6 : ld false 1 (.ptr 0 3) H3 = some (Rw enc_TIns t.iN t.iT t.ins) := by rw [ld_box htb]; rfl
  -- the end
  have hC4 := k2.cx
  rw [curD_all] at hC4
  have ht4 := hC4.at (id := 0) (o := .box ((eTr t).map .p)) (by simp)
  have hz4 := hC4.at (id := 1) (o := .box (z13.map .p)) (by simp)
  have x9 : ld true 13 (.ptr 0 0) H4 = some (aG (eTr t)) := by rw [ldAgg_box ht4 (by simp [eTr13]) (by simp [eTr13])]; rfl
  have hl4 : Lst 1 th H4 (tA t t.ins.length).length ((tA t t.ins.length).map Ia) := by rw [o1]; exact hC4.hd
  obtain ⟨nl, tg, H5, hf, hk5, hlen5⟩ := frz2L (xs := eTr t) hl4
  have c25 := call25g ht o1 o2 [] (nl := nl) (tg := tg) hf
  obtain ⟨b, hb⟩ : ∃ b, cutOk t (tA t t.ins.length) = b := ⟨_, rfl⟩
  obtain ⟨cc, hcc⟩ : ∃ cc, cc = bif b then cutC t (tA t t.ins.length) else zeroC := ⟨_, rfl⟩
  have c25' : callA cfg O 25 [aG (eTr t), th] [] H4 = some (.tup [aG (eTc cc), B b], H5) := by
    rw [c25, hb, hcc]; cases b <;> rfl
  rw [hb, ← hcc]
  have hz5 : H5[1]? = some (.box (z13.map .p)) := hk5.2 1 _ hz4 (fun g n e => by
    obtain ⟨_, ⟨nl, e', _⟩ | ⟨id', g', e', h1⟩⟩ := hl4
    · rw [e'] at e; cases e
    · rw [e'] at e; cases e; rw [hz4] at h1; cases h1)
  have r13 := box13 H5
  have s14 := st13 cc [] H5
  have x15 : ld true 13 (.ptr H5.length 0) (H5 ++ [.box ((eTc cc).map .p)]) = some (aG (eTc cc)) := ldA (by rw [eTc]; rfl) (by decide) H5
  have hz6 : (H5 ++ [AObj.box ((eTc cc).map .p)])[1]? = some (.box (z13.map .p)) := push_get? hz5 _
  have s16 := stEx (n0 := 0) (lo := []) (by simp) (Nat.zero_le _) hz6 rfl (ys := (eTc cc).map .p) (n := 13) (by rw [List.length_map, eTc]; rfl) (by decide) (leaves_p _)
  have hz7 : ((H5 ++ [AObj.box ((eTc cc).map .p)]).set 1 (.box ((eTc cc).map .p)))[1]? = some (.box ((eTc cc).map .p)) := List.getElem?_set_self (getElem?_lt hz6)
  have x18 : ld true 13 (.ptr 1 0) ((H5 ++ [AObj.box ((eTc cc).map .p)]).set 1 (.box ((eTc cc).map .p))) = some (aG (eTc cc)) := by rw [ldAgg_box hz7 (by simp [eTc, eTr13]) (by simp [eTc, eTr13])]; rfl
  have lv : ∀ H, leave 0 [] [aG (eTc cc)] H = some ([aG (eTc cc)], []) := by
    intro H
    have h1 := frz_agg (eTc cc) H
    have hl : AV.ltd 0 (aG (eTc cc)) = true := by
      show ((eTc cc).map AV.p).all (AV.lt 0 5) = true
      simp only [List.all_eq_true, List.mem_map]
      rintro _ ⟨x, _, rfl⟩
      rfl
    simp only [leave, frzAll, h1, obs, oms, List.all_cons, List.all_nil, hl, Bool.and_true, if_true]
  rw [f31_eq]
  simp only [boxAgg0, r2, x3, e65, fldA_ptr, Nat.zero_add, x6, lenA_sl, core]
  refine k1.trans ?_
  rw [L31_8_eq]
  simp only [Int.lt_irrefl, x9, c25', r13, s14, x15, s16, x18, lv, core]
end
end Ir
end Go.Proofs.YtnjfpnoamgipjaaDoor
set_option linter.unusedVariables false
set_option linter.unusedSimpArgs false
set_option linter.unusedSectionVars false
set_option maxRecDepth 100000
namespace Go.Proofs.YtnjfpnoamgipjaaDoor
open Go Go.AM
namespace Ir
structure VdX (n : Nat) (x : ExD) : Prop where
  sets : ∀ s ∈ x.sets, 0 ≤ s.2 ∧ s.2 < n
  cells : ∀ m ∈ x.makes, 0 ≤ m.cell ∧ m.cell < n
  vals : ∀ m ∈ x.makes, ∀ v ∈ m.vals, 0 ≤ v ∧ v < n
structure May2 (t : A_TTrace) : Prop extends May t where
  asks : Asks (trD t).ins
  exits : ∀ x ∈ (trD t).exits, VdX (trD t).ins.length x
  turn : VdX (trD t).ins.length (trD t).turn
  back : VdX (trD t).ins.length (trD t).back
theorem setsR_vals {ins : List A_TIns} {regs at' : Int} : ∀ (l : List A_TSet) (q : Option Int), setsR ins regs at' q l = true → ∀ s ∈ l, 0 ≤ s.2 ∧ s.2 < ins.length
  | [], _, _, s, hs => by cases hs
  | s0 :: r, q, h, s, hs => by
    simp only [setsR, set1, Bool.and_eq_true] at h
    rcases List.mem_cons.mp hs with e | e
    · subst e; exact valR_idx h.1.1.2
    · exact setsR_vals r _ h.2 s e
theorem makesR_all {ins : List A_TIns} {at' : Int} : ∀ (l : List A_TMake) (q : Option Int), makesR ins at' q l = true → ∀ m ∈ l, (0 ≤ m.1 ∧ m.1 < ins.length) ∧ ∀ v ∈ m.2.2.2.2, 0 ≤ v ∧ v < ins.length
  | [], _, _, m, hm => by cases hm
  | m0 :: r, q, h, m, hm => by
    simp only [makesR, make1, Bool.and_eq_true, List.all_eq_true] at h
    rcases List.mem_cons.mp hm with e | e
    · subst e; exact ⟨valR_idx h.1.1.1.1.1.1.1.1, fun v hv => valR_idx (h.1.2 v hv)⟩
    · exact makesR_all r _ h.2 m e
theorem exitR_vd {ins : List A_TIns} {regs clen at' : Int} {x : A_TExit} (h : exitR ins regs clen at' x = true) : VdX ins.length (exD x) := by
  simp only [exitR, Bool.and_eq_true] at h
  obtain ⟨⟨_, hs⟩, hm⟩ := h
  refine ⟨setsR_vals _ _ hs, fun m hm' => ?_, fun m hm' => ?_⟩
  · obtain ⟨m0, h0, rfl⟩ := List.mem_map.mp hm'
    exact (makesR_all _ _ hm m0 h0).1
  · obtain ⟨m0, h0, rfl⟩ := List.mem_map.mp hm'
    exact (makesR_all _ _ hm m0 h0).2
theorem noExit_vd {x : A_TExit} {n : Nat} (h : noExit x = true) : VdX n (exD x) := by
  simp only [noExit, Bool.and_eq_true, decide_eq_true_eq] at h
  have h1 : (exD x).sets = [] := List.length_eq_zero_iff.mp h.1.2
  have h2 : (exD x).makes = [] := by
    rw [show (exD x).makes = x.2.2.2.2.map mkD from rfl, List.length_eq_zero_iff.mp h.2]; rfl
  exact ⟨fun s hs => (by rw [h1] at hs; cases hs), fun m hm => (by rw [h2] at hm; cases hm), fun m hm => (by rw [h2] at hm; cases hm)⟩
theorem may2_of {p : A_Prog} {t : A_TTrace} (h : chkR p t = 0) (hr : ∀ g ∈ p.1.2, g.2.1 ≤ 60) : May2 t := by
  refine { may_of h hr with asks := ?_, exits := ?_, turn := ?_, back := ?_ }
  all_goals
    unfold chkR at h
    split at h
    · cases h
    split at h
    · cases h
    split at h
    · cases h
    obtain ⟨he, hform⟩ := insE_form _ _ h
    unfold endE at he
    split at he
    case isFalse => cases he
    rename_i hE
    simp only [Bool.and_eq_true, List.all_eq_true] at hE
    obtain ⟨⟨⟨_, hb⟩, ht⟩, hx⟩ := hE
  · intro i x hx' j hj
    have := formR_ask (hform i x hx') hj
    simp only [valR, Bool.and_eq_true, decide_eq_true_eq] at this
    have h2 := this.1.1.2
    exact ⟨this.1.1.1, by omega⟩
  · intro x hx'
    obtain ⟨x0, h0, rfl⟩ := List.mem_map.mp hx'
    exact exitR_vd (hx x0 h0)
  · unfold turnOk at ht
    split at ht
    · rw [Bool.and_eq_true] at ht
      exact exitR_vd ht.2
    · exact noExit_vd ht
  · exact exitR_vd hb
theorem callCk {p : A_Prog} {t : A_TTrace} (hp : POk2 p) (ht : TOk t) : ∃ e : Int, (e = 0 → May2 t) ∧ ∀ lo H, callA cfg O 19 [pgV p, trV t] lo H = some (I e, H) := by
  obtain ⟨e, h1, h2⟩ := callChk p hp
  refine ⟨_, fun he => ?_, call19 ht h2 (fun h => (h1 h).2)⟩
  split at he
  · rename_i h0
    exact may2_of he fun g hg => ((h1 h0).2 g hg).2
  · rename_i h0; exact (h0 he).elim
theorem on_nn {to : List Int} (hg : okTo to) (h0 : ∀ (i : Nat) v, to[i]? = some v → 0 ≤ v) : ∀ (c v : Nat), v < c → v < to.length → 0 ≤ on (atN to to.length) v := by
  intro c
  induction c with
  | zero => intro v hv; omega
  | succ c ih =>
    intro v hv hl
    have hto : to[v]? = some to[v] := List.getElem?_eq_getElem hl
    have h1 := h0 v _ hto
    have h2 := (hg v _ hto).2
    by_cases e : to[v] = (v : Int)
    · rw [on_keep hl (by rw [hto, e])]; omega
    · rw [on_step hl hto e h2]
      have := ih to[v].toNat (by omega) (by omega)
      rwa [show ((to[v].toNat : Nat) : Int) = to[v] by omega] at this
theorem cut_ok {t : TrD} {to : List Int} (hn : to.length = t.ins.length) (hg : okTo to) (h0 : ∀ (i : Nat) v, to[i]? = some v → 0 ≤ v) (hA : Asks t.ins) (hx : ∀ x ∈ t.exits, VdX t.ins.length x) (ht : VdX t.ins.length t.turn) (hb : VdX t.ins.length t.back) : cutOk t to = true := by
  have hv : ∀ v : Int, 0 ≤ v ∧ v < t.ins.length → okV (plT t to) v = true := by
    intro v h
    have := on_nn hg h0 _ v.toNat (Nat.lt_succ_self _) (by omega)
    rw [show ((v.toNat : Nat) : Int) = v by omega, hn] at this
    exact decide_eq_true this
  have hX : ∀ x, VdX t.ins.length x → okX (plT t to) x = true := by
    intro x h
    simp only [okX, okM, Bool.and_eq_true, List.all_eq_true]
    exact ⟨fun s hs => hv _ (h.sets s hs), fun m hm => ⟨hv _ (h.cells m hm), fun v hv' => hv _ (h.vals m hm v hv')⟩⟩
  have hL : ∀ i, i ≤ t.ins.length → okL (plT t to) to t.ins i = true := by
    intro i
    induction i with
    | zero => intro _; rfl
    | succ i ih =>
      intro hi
      have hx? : t.ins[i]? = some t.ins[i] := List.getElem?_eq_getElem (by omega)
      rw [okL, ih (by omega), hx?]
      have : okI (plT t to) t.ins[i] = true := by
        unfold okI
        have go : ∀ k, k ≤ (vals t.ins[i].1).toNat → okK (plT t to) t.ins[i] k = true := by
          intro k
          induction k with
          | zero => intro _; rfl
          | succ k ihk =>
            intro hk
            have := hA i _ hx? k (by omega)
            rw [okK, ihk (by omega), hv _ ⟨this.1, by omega⟩]; rfl
        exact go _ (Nat.le_refl _)
      simp [this]
  simp only [cutOk, Bool.and_eq_true, List.all_eq_true]
  exact ⟨⟨⟨hL _ (Nat.le_refl _), fun x h => hX x (hx x h)⟩, hX _ ht⟩, hX _ hb⟩
theorem box13' (c : TrC) (o0 o1 : AObj) : stA 13 (.ptr 2 0) (aG (eTc c)) [] [o0, o1, .box (z13.map .p)] = some [o0, o1, .box ((eTc c).map .p)] := st13 c [] [o0, o1]
theorem lvC (c : TrC) (e : Int) (H : Heap) : leave 0 [] [aG (eTc c), I e] H = some ([aG (eTc c), I e], []) := leave0_ag (frz_agg _ H)
section
variable {p : A_Prog} {t : A_TTrace}
abbrev T (t : A_TTrace) : TrD := trD t
theorem trV_eq (t : A_TTrace) : trV t = aG (eTr (T t)) := by rw [eTr_trD]
theorem cse_ok (h : May2 t) : cutOk (T t) (tA (T t) (T t).ins.length) = true := by
  obtain ⟨o1, o2, o3⟩ := tA_ok h.small h.asks
  exact cut_ok o1 o2 o3 h.asks h.exits h.turn h.back
theorem call29 (hp : POk2 p) (ht : TOk t) {e : Int} (hm : e = 0 → May2 t) (he : ∀ lo H, callA cfg O 19 [pgV p, trV t] lo H = some (I e, H)) (lo : List Nat) (H : Heap) :
    callA cfg O 29 [pgV p, trV t] lo H = some (.tup [aG (eTc (if e = 0 then cutC (T t) (tA (T t) (T t).ins.length) else zeroC)), I e], H) := by
  have key : O.ent 29 [pgV p, trV t] [] [] = some ([aG (eTc (if e = 0 then cutC (T t) (tA (T t) (T t).ins.length) else zeroC)), I e], []) := by
    have x3 : ∀ l : List AObj, ld true 3 (.ptr 0 0) (.box ((enc_Prog p).map .p) :: l) = some (pgV p) := fun l => by rw [ldAgg_box (H := _ :: l) rfl (by simp [len_Prog3]) (by simp [len_Prog3])]; rfl
    have x5 : ∀ (o0 : AObj) (l : List AObj), ld true 13 (.ptr 1 0) (o0 :: .box ((enc_TTrace t).map .p) :: l) = some (trV t) := fun o0 l => ldT13 rfl
    have b3 := box13 [.box ((enc_Prog p).map .p), .box ((enc_TTrace t).map .p)]
    simp only [List.length_cons, List.length_nil, Nat.zero_add, Nat.reduceAdd, List.cons_append, List.nil_append] at b3
    have bu : buildA [(I 0), (I 0), (I 0), (.p nilS), (.p nilS), (I 0), (I 0), (.p nilS), (.p nilS), (I 0), (I 0), (.p nilS), (.p nilS)] [] = some (aG (eTc zeroC)) := rfl
    have l3 : ∀ (c : TrC) (o0 o1 : AObj), ld true 13 (.ptr 2 0) [o0, o1, .box ((eTc c).map .p)] = some (aG (eTc c)) := fun c o0 o1 => ldA (by rw [eTc]; rfl) (by decide) [o0, o1]
    rw [f29_eq]
    by_cases h0 : e = 0
    case neg =>
      rw [if_neg h0]
      simp only [boxAgg0, box12, b3, x3, x5, he, decide_eq_false h0, bu, box13', l3, lvC, core]
    have hM := hm h0
    have hS := hM.small
    have hs : t.2.2.2.1.2.length < 2 ^ 30 := hS.ins
    rw [if_pos h0]
    have f3 : ∀ (o0 : AObj) (l : List AObj), ld false 1 (.ptr 1 3) (o0 :: .box ((enc_TTrace t).map .p) :: l) = some (Rw enc_TIns (T t).iN (T t).iT (T t).ins) := fun o0 l => by rw [ld_box (H := o0 :: _ :: l) rfl]; rfl
    have mr : ∀ o0 o1 o2 o3 : AObj, mkRow 1 8 [(.v (.int .i64 0))] (I (T t).ins.length) (I (T t).ins.length) [o0, o1, o2, o3] = some (.row 4 0 0 (T t).ins.length, [o0, o1, o2, o3, .row 0 1 ((cur (T t) 0).map Ia)]) := by
      intro o0 o1 o2 o3
      have e1 : zerosA (T t).ins.length [(.v (.int .i64 0))] = (cur (T t) 0).map Ia := by
        rw [zeros1, cur]
        show _ = (List.replicate _ (0 : Int)).map Ia
        rw [List.map_replicate]; rfl
      have e2 : (T t).ins.length < 2 ^ 30 := hS.ins
      simp only [mkRow, asI, obs, Int.toNat_natCast, e1]
      rw [if_pos ⟨by omega, by omega, by unfold room; omega⟩]
      rfl
    -- the loop
    have hS0 : S29 (T t) 0 [.box ((enc_Prog p).map .p), .box ((enc_TTrace t).map .p), .box (z13.map .p), .map [] 0, .row 0 1 ((cur (T t) 0).map Ia)] [] 0 0 := by
      refine ⟨⟨fun q hq => ?_, fun q hq => ?_, .cons (fun b hb => (by cases hb)) .nil⟩, fun q => rfl, WfM.nil, by simp⟩
      · simp only [List.mem_cons, List.not_mem_nil, or_false] at hq
        rcases hq with h | h | h <;> subst h
        · exact ⟨rfl, rfl⟩
        · rw [eTr_trD]; exact ⟨rfl, rfl⟩
        · exact ⟨rfl, rfl⟩
      · simp only [List.mem_cons, List.not_mem_nil, or_false] at hq
        subst hq
        exact Lst.row (by simp only [List.length_map, Nat.mul_one]; exact cur_len (Nat.zero_le _)) rfl
    have run : ∀ m, m ≤ (T t).ins.length → ∃ H' kvs c, S29 (T t) m H' kvs c 0 ∧ L29_16 [.ptr 1 0, .ptr 2 0, .mp 3, .row 4 0 0 (T t).ins.length, Rw enc_TIns (T t).iN (T t).iT (T t).ins, I (T t).ins.length, I ((0 : Nat) : Int)] [] [.box ((enc_Prog p).map .p), .box ((enc_TTrace t).map .p), .box (z13.map .p), .map [] 0, .row 0 1 ((cur (T t) 0).map Ia)] =
        L29_16 [.ptr 1 0, .ptr 2 0, .mp 3, .row 4 0 0 (T t).ins.length, Rw enc_TIns (T t).iN (T t).iT (T t).ins, I (T t).ins.length, I (m : Int)] [] H' := by
      intro m
      induction m with
      | zero => intro _; exact ⟨_, _, _, hS0, rfl⟩
      | succ m ih =>
        intro hmm
        obtain ⟨H1, k1, c1, s1, e1⟩ := ih (by omega)
        obtain ⟨H2, k2, c2, s2, e2⟩ := G29 hS hM.asks s1 hmm
        exact ⟨H2, k2, c2, s2, e1.trans e2⟩
    obtain ⟨H', kvs, c, hS', e'⟩ := run _ (Nat.le_refl _)
    have hC := hS'.cx
    obtain ⟨o1, o2, _⟩ := tA_ok hS hM.asks
    have ecur : cur (T t) (T t).ins.length = tA (T t) (T t).ins.length := by rw [cur, Nat.sub_self]; simp
    rw [ecur] at hC
    have ht1 := hC.at (id := 1) (o := .box ((eTr (T t)).map .p)) (by simp)
    have hz1 := hC.at (id := 2) (o := .box (z13.map .p)) (by simp)
    have y15 : ld true 13 (.ptr 1 0) H' = some (aG (eTr (T t))) := by rw [ldAgg_box ht1 (by simp [eTr13]) (by simp [eTr13])]; rfl
    have hl : Lst 1 (.row 4 0 0 (T t).ins.length) H' (tA (T t) (T t).ins.length).length ((tA (T t) (T t).ins.length).map Ia) := by rw [o1]; exact hC.hd
    obtain ⟨nl, tg, H5, hf, hk5, hlen5⟩ := frz2L (xs := eTr (T t)) hl
    have c24 := call24g hS hM.ahead o1 o2 [] (nl := nl) (tg := tg) hf
    rw [cse_ok hM] at c24
    have c24' : callA cfg O 24 [aG (eTr (T t)), .row 4 0 0 (T t).ins.length] [] H' = some (.tup [aG (eTc (cutC (T t) (tA (T t) (T t).ins.length))), I 0], H5) := c24
    have hz5 : H5[2]? = some (.box (z13.map .p)) := hk5.2 2 _ hz1 (fun g n e => by cases e)
    have s19 := stEx (n0 := 0) (lo := []) (by simp) (Nat.zero_le _) hz5 rfl (ys := (eTc (cutC (T t) (tA (T t) (T t).ins.length))).map .p) (n := 13) (by rw [List.length_map, eTc]; rfl) (by decide) (leaves_p _)
    have hz6 : (H5.set 2 (.box ((eTc (cutC (T t) (tA (T t) (T t).ins.length))).map .p)))[2]? = some (.box ((eTc (cutC (T t) (tA (T t) (T t).ins.length))).map .p)) := List.getElem?_set_self (getElem?_lt hz5)
    have x21 : ld true 13 (.ptr 2 0) (H5.set 2 (.box ((eTc (cutC (T t) (tA (T t) (T t).ins.length))).map .p))) = some (aG (eTc (cutC (T t) (tA (T t) (T t).ins.length)))) := by rw [ldAgg_box hz6 (by simp [eTc, eTr13]) (by simp [eTc, eTr13])]; rfl
    have mm : ∀ o0 o1 o2 : AObj, mkMap [o0, o1, o2] = (.mp 3, [o0, o1, o2, .map [] 0]) := fun _ _ _ => rfl
    simp only [boxAgg0, box12, b3, x3, x5, he, decide_eq_true h0, mm, fldA_ptr, Nat.zero_add, f3, lenA_sl, mr, core]
    refine e'.trans ?_
    rw [L29_16_eq, h0]
    simp only [Int.lt_irrefl, y15, c24', s19, x21, lvC, core]
  exact callA_args (rs := [aG (eTc (if e = 0 then cutC (T t) (tA (T t) (T t).ins.length) else zeroC)), I e]) rfl (pureArgsC (pureAgg _ _) (pureArgs1 (pureAgg _ _))) key (by rw [eTc_eq]; rfl)
theorem call30 (hp : POk2 p) (ht : TOk t) {e : Int} (he : ∀ lo H, callA cfg O 19 [pgV p, trV t] lo H = some (I e, H)) {g : FuncId} (hg : cfg.mode g = 0) {c : TrC} (hz : e ≠ 0 → c = zeroC) (hc : (kT c).Sm)
    (hf : e = 0 → O.ent g [trV t] [] [] = some ([aG (eTc c)], [])) (lo : List Nat) (H : Heap) : callA cfg O 30 [pgV p, trV t, aG (eTc c), I e, .fn g [] []] lo H = some (B true, H) := by
  have hcs : ∀ H, callA cfg O 26 [aG (eTc c), aG (eTc c)] [] H = some (B true, H) := call26s (a := kT c) (b := kT c) rfl hc []
  have x3 : ∀ l : List AObj, ld true 3 (.ptr 0 0) (.box ((enc_Prog p).map .p) :: l) = some (pgV p) := fun l => by rw [ldAgg_box (H := _ :: l) rfl (by simp [len_Prog3]) (by simp [len_Prog3])]; rfl
  have x5 : ∀ (o0 : AObj) (l : List AObj), ld true 13 (.ptr 1 0) (o0 :: .box ((enc_TTrace t).map .p) :: l) = some (trV t) := fun o0 l => ldT13 rfl
  have b3 : boxO [] (AV.cells (aG (eTc c))) [.box ((enc_Prog p).map .p), .box ((enc_TTrace t).map .p)] = some (.ptr 2 0, [.box ((enc_Prog p).map .p), .box ((enc_TTrace t).map .p), .box ((eTc c).map .p)]) := boxAgg _ [_, _]
  have l3 : ∀ (o0 o1 : AObj), ld true 13 (.ptr 2 0) [o0, o1, .box ((eTc c).map .p)] = some (aG (eTc c)) := fun o0 o1 => ldA (by rw [eTc]; rfl) (by decide) [o0, o1]
  have bu : buildA [(I 0), (I 0), (I 0), (.p nilS), (.p nilS), (I 0), (I 0), (.p nilS), (.p nilS), (I 0), (I 0), (.p nilS), (.p nilS)] [] = some (aG (eTc zeroC)) := rfl
  refine callA_args (H' := []) (rs := [B true]) rfl (pureArgsC (pureAgg _ _) (pureArgsC (pureAgg _ _) (pureArgsC (pureAgg _ _) (pureArgsC (pureP _ _) (pureArgs1 rfl))))) ?_ rfl
  rw [f30_eq]
  by_cases h0 : e = 0
  · have cg : ∀ H, callC cfg O (some .same) (.fn g [] []) [trV t] [] H = some (aG (eTc c), H) := by
      intro H
      have hcl : closV cfg (some .same) (.fn g [] []) = true := by simp only [closV, hg]; rfl
      refine (callC_10 hcl).trans ?_
      exact callA_args (rs := [aG (eTc c)]) hg (pureArgs1 (pureAgg _ _)) (hf h0) (by rw [eTc_eq]; rfl)
    simp only [boxAgg0, box12, b3, x3, x5, he, decide_eq_true h0, call18, l3, cg, hcs, decide_true, leave0_B, core]
  · have := hz h0
    subst this
    simp only [boxAgg0, box12, b3, x3, x5, he, decide_eq_false h0, call18, l3, bu, hcs, decide_true, leave0_B, core]
theorem ent7 (hp' : ok_Prog p) (ht' : ok_TTrace t) : O.ent 7 [pgV p, trV t] [] [] = some ([B true], []) := by
  have ht := tok_of ht'
  have hp := pok_of hp'
  obtain ⟨e, hm, he⟩ := callCk hp ht
  have c29 := call29 hp ht hm he []
  obtain ⟨c, hc⟩ : ∃ c, c = if e = 0 then cutC (T t) (tA (T t) (T t).ins.length) else zeroC := ⟨_, rfl⟩
  rw [← hc] at c29
  have hcS : (kT c).Sm := by
    by_cases h0 : e = 0
    · rw [hc, if_pos h0]; exact cut_small (hm h0).small _
    · rw [hc, if_neg h0]; exact zero_small
  have c30 := call30 (g := 31) (c := c) hp ht he rfl (fun h => by rw [hc, if_neg h]) hcS (fun h => by
    have hM := hm h
    rw [trV_eq, ent31 hM.small hM.asks, cse_ok hM, hc, if_pos h]; rfl) []
  have x3 : ∀ l : List AObj, ld true 3 (.ptr 0 0) (.box ((enc_Prog p).map .p) :: l) = some (pgV p) := fun l => by rw [ldAgg_box (H := _ :: l) rfl (by simp [len_Prog3]) (by simp [len_Prog3])]; rfl
  have x5 : ∀ (o0 : AObj) (l : List AObj), ld true 13 (.ptr 1 0) (o0 :: .box ((enc_TTrace t).map .p) :: l) = some (trV t) := fun o0 l => ldT13 rfl
  have b3 := box13 [.box ((enc_Prog p).map .p), .box ((enc_TTrace t).map .p)]
  simp only [List.length_cons, List.length_nil, Nat.zero_add, Nat.reduceAdd, List.cons_append, List.nil_append] at b3
  have l3 : ∀ (o0 o1 : AObj), ld true 13 (.ptr 2 0) [o0, o1, .box ((eTc c).map .p)] = some (aG (eTc c)) := fun o0 o1 => ldA (by rw [eTc]; rfl) (by decide) [o0, o1]
  rw [f7_eq]
  simp only [boxAgg0, box12, x3, x5, c29, b3, box13', l3, c30, leave0_B, core]
end
end Ir
end Go.Proofs.YtnjfpnoamgipjaaDoor

