/-
What an abstract value stands for in memory; how that lasts while the call goes on.
-/
import Derived.Test.YtfdnamedmjhcfaaDoorAm1
import Derived.Below
set_option linter.unusedVariables false
set_option linter.unusedSectionVars false
namespace Go.AM

abbrev Beta := Nat → Option (Nat × Nat × Nat)
abbrev Frz := Nat → Nat → Prop

/-- A pure value: its slices lie in frozen cells. -/
inductive RP (F : Frz) (w : World) : Value → PV → Prop
  | v {x : Value} (h : leafyV x = true) : RP F w x (.v x)
  | nil {nl : Option Bool} {t : Bool} (h : nl ≠ some false) : RP F w (.slice none 0 0) (.sl nl t 0 [])
  | emp {A : Addr} {nl : Option Bool} {t : Bool} (h : nl ≠ some true) : RP F w (.slice (some A) 0 0) (.sl nl t 0 [])
  | sl {b s n cap : Nat} {nl : Option Bool} {t : Bool} {xs : List PV} (c : Nat → Value) (h1 : nl ≠ some true) (h2 : n ≤ cap) (h3 : t = true → cap = n)
      (h4 : ∀ i, i < xs.length → F b (s + i) ∧ w.cell? ⟨b, s + i, none⟩ = some (c i))
      (h5 : ∀ i (h : i < xs.length), RP F w (c i) xs[i]) : RP F w (.slice (some ⟨b, s, none⟩) n cap) (.sl nl t n xs)

/-- Where a row of the call's own begins, and how far it may grow in place. -/
def RowAt (β : Beta) (id sz len off n : Nat) (v : Value) : Prop :=
  match β id with
  | none => n = 0 ∧ off = 0 ∧ len = 0 ∧ ∃ a, v = .slice a 0 0 ∧ True
  | some (b, s, t) => ∃ A cap, v = .slice (some A) n cap ∧ (A = ⟨b, s + off, none⟩ ∨ (n = 0 ∧ cap = 0 ∧ True)) ∧ n ≤ cap ∧ s + off + cap * sz ≤ t ∧ off + n * sz ≤ len ∧ cap ≤ 9223372036854775807

inductive RA (H : Heap) (β : Beta) (F : Frz) (w : World) : Value → AV → Prop
  | any (v : Value) : RA H β F w v .any
  | p {v : Value} {x : PV} (h : RP F w v x) : RA H β F w v (.p x)
  | agg {cs : Array Value} {xs : List AV} (h : cs.size = xs.length) (h' : ∀ i (hi : i < xs.length), RA H β F w (cs.getD i undef) xs[i]) : RA H β F w (.agg cs) (.agg xs)
  | tup {cs : Array Value} {xs : List AV} (h : cs.size = xs.length) (h' : ∀ i (hi : i < xs.length), RA H β F w (cs.getD i undef) xs[i]) : RA H β F w (.tuple cs) (.tup xs)
  | fp {b s off : Nat} {xs : List PV} (c : Nat → Value) (h4 : ∀ i, i < xs.length → F b (s + i) ∧ w.cell? ⟨b, s + i, none⟩ = some (c i))
      (h5 : ∀ i (h : i < xs.length), RP F w (c i) xs[i]) : RA H β F w (.pointer (some ⟨b, s + off, none⟩)) (.fp xs off)
  | row {v : Value} {id g off n g' sz : Nat} {xs : List PV} (hl : ∃ a c, v = .slice a n c ∧ n ≤ c ∧ (a = none → n = 0)) (ho : H[id]? = some (.row g' sz xs)) (hg : g ≤ g') (h : g = g' → RowAt β id sz xs.length off n v) : RA H β F w v (.row id g off n)
  | ptr {v : Value} {id off : Nat} {xs : List AV} (hl : ∃ a, v = .pointer (some a)) (ho : H[id]? = some (.box xs)) (h : 0 < xs.length → ∃ b s t, β id = some (b, s, t) ∧ v = .pointer (some ⟨b, s + off, none⟩)) : RA H β F w v (.ptr id off)
  | bsl {v : Value} {id n : Nat} {xs : List AV} (hl : ∃ a c, v = .slice (some a) n c ∧ n ≤ c) (ho : H[id]? = some (.box xs)) (h : 0 < xs.length → ∃ b s t c, β id = some (b, s, t) ∧ v = .slice (some ⟨b, s, none⟩) n c) : RA H β F w v (.bsl id n)
  | rptr {v : Value} {id g off g' sz : Nat} {xs : List PV} (hl : ∃ a, v = .pointer (some a)) (ho : H[id]? = some (.row g' sz xs)) (hg : g ≤ g')
      (h : g = g' → ∃ b s t, β id = some (b, s, t) ∧ v = .pointer (some ⟨b, s + off, none⟩)) : RA H β F w v (.rptr id g off)
  | mp {id b s t : Nat} {es : List Ent} {c : Nat} (ho : H[id]? = some (.map es c)) (h : β id = some (b, s, t)) : RA H β F w (.map (some b)) (.mp id)
  | it {id b s t m since last : Nat} {seen : List Nat} (ho : H[id]? = some (.iter m since seen last)) (h : β id = some (b, s, t)) : RA H β F w (.pointer (some ⟨b, 0, none⟩)) (.it id)
  | fn {f : FuncId} {fs cs : Array Value} {xs ys : List AV} (h1 : fs.size = xs.length) (h2 : cs.size = ys.length)
      (h1' : ∀ i (hi : i < xs.length), RA H β F w (fs.getD i undef) xs[i]) (h2' : ∀ i (hi : i < ys.length), RA H β F w (cs.getD i undef) ys[i]) :
      RA H β F w (.func (.func f) fs cs) (.fn f xs ys)

theorem RP.leafy {F : Frz} {w : World} {v : Value} {x : PV} (h : RP F w v x) : leafyV v = true := by
  cases h with
  | v h => exact h
  | nil => rfl
  | emp => rfl
  | sl => rfl

theorem RA.leafy {H : Heap} {β : Beta} {F : Frz} {w : World} {v : Value} {x : AV} (h : RA H β F w v x) (hx : x.leaf = true) : leafyV v = true := by
  cases h with
  | any => cases hx
  | p h => exact h.leafy
  | agg => cases hx
  | tup => cases hx
  | fp => rfl
  | row hl => obtain ⟨a, c, rfl, _⟩ := hl; rfl
  | ptr hl => obtain ⟨a, rfl⟩ := hl; rfl
  | bsl hl => obtain ⟨a, c, rfl, _⟩ := hl; rfl
  | rptr hl => obtain ⟨a, rfl⟩ := hl; rfl
  | mp => rfl
  | it => rfl
  | fn => rfl

theorem leafy_cells {v : Value} (h : leafyV v = true) : v.cells = #[v] := by
  cases v <;> first | rfl | cases h

/-! ### Lasting -/
theorem RP.mono {F F' : Frz} {w w' : World} (hF : ∀ b j, F b j → F' b j) (hw : ∀ b j, F b j → w'.cell? ⟨b, j, none⟩ = w.cell? ⟨b, j, none⟩)
    {v : Value} {x : PV} (h : RP F w v x) : RP F' w' v x := by
  induction h with
  | v h => exact .v h
  | nil h => exact .nil h
  | emp h => exact .emp h
  | sl c h1 h2 h3 h4 h5 ih => exact .sl c h1 h2 h3 (fun i hi => ⟨hF _ _ (h4 i hi).1, (hw _ _ (h4 i hi).1).trans (h4 i hi).2⟩) ih

def GrowO (β β' : Beta) (id : Nat) : AObj → AObj → Prop
  | .box xs, .box xs' => 0 < xs'.length → xs'.length = xs.length ∧ β' id = β id
  | .row g sz xs, .row g' sz' xs' => sz' = sz ∧ g ≤ g' ∧ (g = g' → xs'.length = xs.length ∧ β' id = β id)
  | .map _ _, .map _ _ => β' id = β id
  | .iter m _ _ _, .iter m' _ _ _ => m' = m ∧ β' id = β id
  | .hole, _ => True
  | _, _ => False

def Grow (H : Heap) (β : Beta) (H' : Heap) (β' : Beta) : Prop := ∀ (id : Nat) o, H[id]? = some o → ∃ o', H'[id]? = some o' ∧ GrowO β β' id o o'

theorem GrowO.refl (β : Beta) (id : Nat) (o : AObj) : GrowO β β id o o := by
  cases o
  · exact fun _ => ⟨rfl, rfl⟩
  · exact ⟨rfl, Nat.le_refl _, fun _ => ⟨rfl, rfl⟩⟩
  · exact rfl
  · exact ⟨rfl, rfl⟩
  · exact trivial

theorem Grow.refl (H : Heap) (β : Beta) : Grow H β H β := fun id o h => ⟨o, h, GrowO.refl _ _ _⟩

theorem GrowO.trans {β₁ β₂ β₃ : Beta} {id : Nat} {a b c : AObj} (h : GrowO β₁ β₂ id a b) (k : GrowO β₂ β₃ id b c) : GrowO β₁ β₃ id a c := by
  cases a
  case hole => cases c <;> exact trivial
  all_goals cases b <;> first | exact h.elim | skip
  all_goals cases c <;> first | exact k.elim | skip
  · exact fun e => have k := k e; have h := h (by omega); ⟨k.1.trans h.1, k.2.trans h.2⟩
  · exact ⟨k.1.trans h.1, Nat.le_trans h.2.1 k.2.1, fun e => by
      have e1 := Nat.le_antisymm h.2.1 (e ▸ k.2.1)
      have e2 := e1 ▸ e
      exact ⟨(k.2.2 e2).1.trans (h.2.2 e1).1, (k.2.2 e2).2.trans (h.2.2 e1).2⟩⟩
  · exact Eq.trans k h
  · exact ⟨k.1.trans h.1, k.2.trans h.2⟩

theorem Grow.trans {H₁ H₂ H₃ : Heap} {β₁ β₂ β₃ : Beta} (h : Grow H₁ β₁ H₂ β₂) (k : Grow H₂ β₂ H₃ β₃) : Grow H₁ β₁ H₃ β₃ := fun id o ho =>
  let ⟨o', h', g⟩ := h id o ho
  let ⟨o'', h'', g'⟩ := k id o' h'
  ⟨o'', h'', g.trans g'⟩

theorem RowAt.same {β β' : Beta} {id sz len len' off n : Nat} {v : Value} (hβ : β' id = β id) (hl : len' = len) (h : RowAt β id sz len off n v) : RowAt β' id sz len' off n v := by
  unfold RowAt at *
  rw [hβ, hl]
  exact h

theorem RA.mono {H H' : Heap} {β β' : Beta} {F F' : Frz} {w w' : World} (hG : Grow H β H' β') (hF : ∀ b j, F b j → F' b j)
    (hw : ∀ b j, F b j → w'.cell? ⟨b, j, none⟩ = w.cell? ⟨b, j, none⟩) {v : Value} {x : AV} (h : RA H β F w v x) : RA H' β' F' w' v x := by
  induction h with
  | any v => exact .any v
  | p h => exact .p (h.mono hF hw)
  | agg h _ ih => exact .agg h ih
  | tup h _ ih => exact .tup h ih
  | fp c h4 h5 => exact .fp c (fun i hi => ⟨hF _ _ (h4 i hi).1, (hw _ _ (h4 i hi).1).trans (h4 i hi).2⟩) (fun i hi => (h5 i hi).mono hF hw)
  | @row v id g off n g' sz xs hl ho hg h =>
    obtain ⟨o', ho', k⟩ := hG id _ ho
    cases o' <;> first | exact k.elim | skip
    rename_i g'' sz' xs'
    obtain ⟨rfl, k2, k3⟩ := k
    refine .row hl ho' (Nat.le_trans hg k2) fun e => ?_
    have e1 : g' = g'' := by omega
    exact (h (by omega)).same (k3 e1).2 (k3 e1).1
  | @ptr v id off xs hl ho h =>
    obtain ⟨o', ho', k⟩ := hG id _ ho
    cases o' <;> first | exact k.elim | skip
    refine .ptr hl ho' fun e => ?_
    have k := k e
    obtain ⟨b, s, t, h1, h2⟩ := h (by omega)
    exact ⟨b, s, t, k.2.trans h1, h2⟩
  | @bsl v id n xs hl ho h =>
    obtain ⟨o', ho', k⟩ := hG id _ ho
    cases o' <;> first | exact k.elim | skip
    refine .bsl hl ho' fun e => ?_
    have k := k e
    obtain ⟨b, s, t, c, h1, h2⟩ := h (by omega)
    exact ⟨b, s, t, c, k.2.trans h1, h2⟩
  | @rptr v id g off g' sz xs hl ho hg h =>
    obtain ⟨o', ho', k⟩ := hG id _ ho
    cases o' <;> first | exact k.elim | skip
    rename_i g'' sz' xs'
    obtain ⟨rfl, k2, k3⟩ := k
    refine .rptr hl ho' (Nat.le_trans hg k2) fun e => ?_
    have e1 : g' = g'' := by omega
    obtain ⟨b, s, t, h1, h2⟩ := h (by omega)
    exact ⟨b, s, t, (k3 e1).2.trans h1, h2⟩
  | @mp id b s t es _ ho h =>
    obtain ⟨o', ho', k⟩ := hG id _ ho
    cases o' <;> first | exact k.elim | skip
    exact .mp ho' (Eq.trans k h)
  | @it id b s t m since last seen ho h =>
    obtain ⟨o', ho', k⟩ := hG id _ ho
    cases o' <;> first | exact k.elim | skip
    exact .it ho' (k.2.trans h)
  | fn h1 h2 _ _ ih1 ih2 => exact .fn h1 h2 ih1 ih2

/-! ### References below a level -/
inductive Lt (b : Nat) : AV → Prop
  | any : Lt b .any
  | p (x : PV) : Lt b (.p x)
  | fp (xs : List PV) (off : Nat) : Lt b (.fp xs off)
  | agg {xs : List AV} (h : ∀ x ∈ xs, Lt b x) : Lt b (.agg xs)
  | tup {xs : List AV} (h : ∀ x ∈ xs, Lt b x) : Lt b (.tup xs)
  | row {id g off n : Nat} (h : id < b) : Lt b (.row id g off n)
  | ptr {id off : Nat} (h : id < b) : Lt b (.ptr id off)
  | bsl {id n : Nat} (h : id < b) : Lt b (.bsl id n)
  | rptr {id g off : Nat} (h : id < b) : Lt b (.rptr id g off)
  | mp {id : Nat} (h : id < b) : Lt b (.mp id)
  | it {id : Nat} (h : id < b) : Lt b (.it id)
  | fn {f : FuncId} {xs ys : List AV} (h : ∀ x ∈ xs, Lt b x) (h' : ∀ x ∈ ys, Lt b x) : Lt b (.fn f xs ys)

theorem lt_sound (b : Nat) : ∀ (d : Nat) (x : AV), AV.lt b d x = true → Lt b x := by
  intro d
  induction d with
  | zero => intro x h; simp [AV.lt] at h
  | succ d ih =>
    intro x h
    cases x with
    | any => exact .any
    | p => exact .p _
    | fp => exact .fp _ _
    | agg xs => exact .agg fun x hx => ih x (List.all_eq_true.mp (by simpa [AV.lt] using h) x hx)
    | tup xs => exact .tup fun x hx => ih x (List.all_eq_true.mp (by simpa [AV.lt] using h) x hx)
    | row => exact .row (by simpa [AV.lt] using h)
    | ptr => exact .ptr (by simpa [AV.lt] using h)
    | bsl => exact .bsl (by simpa [AV.lt] using h)
    | rptr => exact .rptr (by simpa [AV.lt] using h)
    | mp => exact .mp (by simpa [AV.lt] using h)
    | it => exact .it (by simpa [AV.lt] using h)
    | fn f xs ys =>
      have h' : (xs.all (AV.lt b d) && ys.all (AV.lt b d)) = true := by simpa only [AV.lt] using h
      rw [Bool.and_eq_true] at h'
      exact .fn (fun x hx => ih x (List.all_eq_true.mp h'.1 x hx)) (fun x hx => ih x (List.all_eq_true.mp h'.2 x hx))

theorem getElem?_lt {α : Type} {l : List α} {i : Nat} {x : α} (h : l[i]? = some x) : i < l.length := by
  rcases Nat.lt_or_ge i l.length with h' | h'
  · exact h'
  · rw [List.getElem?_eq_none h'] at h; cases h

theorem forall_mem_of_getElem {α : Type} {l : List α} {Q : α → Prop} (h : ∀ i (hi : i < l.length), Q l[i]) : ∀ x ∈ l, Q x := by
  intro x hx
  obtain ⟨i, hi, rfl⟩ := List.getElem_of_mem hx
  exact h i hi

theorem RA.closed {H : Heap} {β : Beta} {F : Frz} {w : World} {v : Value} {x : AV} (h : RA H β F w v x) : Lt H.length x := by
  induction h with
  | any => exact .any
  | p => exact .p _
  | agg _ _ ih => exact .agg (forall_mem_of_getElem ih)
  | tup _ _ ih => exact .tup (forall_mem_of_getElem ih)
  | fp => exact .fp _ _
  | row _ ho => exact .row (getElem?_lt ho)
  | ptr _ ho => exact .ptr (getElem?_lt ho)
  | bsl _ ho => exact .bsl (getElem?_lt ho)
  | rptr _ ho => exact .rptr (getElem?_lt ho)
  | mp ho => exact .mp (getElem?_lt ho)
  | it ho => exact .it (getElem?_lt ho)
  | fn _ _ _ _ ih1 ih2 => exact .fn (forall_mem_of_getElem ih1) (forall_mem_of_getElem ih2)

def cutB (l : Nat) (β : Beta) : Beta := fun id => if id < l then β id else none

theorem cutB_lt {l id : Nat} {β : Beta} (h : id < l) : cutB l β id = β id := by simp [cutB, h]

theorem take_get {α : Type} {l : List α} {n i : Nat} (h : i < n) : (l.take n)[i]? = l[i]? := by
  rw [List.getElem?_take, if_pos h]

theorem RA.cut {H : Heap} {β : Beta} {F : Frz} {w : World} {l : Nat} {v : Value} {x : AV} (h : RA H β F w v x) (hl : Lt l x) : RA (H.take l) (cutB l β) F w v x := by
  induction h with
  | any => exact .any _
  | p h => exact .p h
  | agg h _ ih => cases hl with | agg hl => exact .agg h fun i hi => ih i hi (hl _ (List.getElem_mem hi))
  | tup h _ ih => cases hl with | tup hl => exact .tup h fun i hi => ih i hi (hl _ (List.getElem_mem hi))
  | fp c h4 h5 => exact .fp c h4 h5
  | row hv ho hg h => cases hl with | row hl => exact .row hv ((take_get hl).trans ho) hg fun e => (h e).same (cutB_lt hl) rfl
  | ptr hv ho h =>
    cases hl with
    | ptr hl =>
      refine .ptr hv ((take_get hl).trans ho) fun e => ?_
      obtain ⟨b, s, t, h1, h2⟩ := h e
      exact ⟨b, s, t, (cutB_lt hl).trans h1, h2⟩
  | bsl hv ho h =>
    cases hl with
    | bsl hl =>
      refine .bsl hv ((take_get hl).trans ho) fun e => ?_
      obtain ⟨b, s, t, c, h1, h2⟩ := h e
      exact ⟨b, s, t, c, (cutB_lt hl).trans h1, h2⟩
  | rptr hv ho hg h =>
    cases hl with
    | rptr hl =>
      refine .rptr hv ((take_get hl).trans ho) hg fun e => ?_
      obtain ⟨b, s, t, h1, h2⟩ := h e
      exact ⟨b, s, t, (cutB_lt hl).trans h1, h2⟩
  | mp ho h => cases hl with | mp hl => exact .mp ((take_get hl).trans ho) ((cutB_lt hl).trans h)
  | it ho h => cases hl with | it hl => exact .it ((take_get hl).trans ho) ((cutB_lt hl).trans h)
  | fn h1 h2 _ _ ih1 ih2 => cases hl with | fn hx hy => exact .fn h1 h2 (fun i hi => ih1 i hi (hx _ (List.getElem_mem hi))) (fun i hi => ih2 i hi (hy _ (List.getElem_mem hi)))

/-- What leads nowhere stands for the same over every heap. -/
theorem RA.pure {H H' : Heap} {β β' : Beta} {F : Frz} {w : World} {v : Value} {x : AV} (h : RA H β F w v x) (hl : Lt 0 x) : RA H' β' F w v x := by
  induction h with
  | any => exact .any _
  | p h => exact .p h
  | agg h _ ih => cases hl with | agg hl => exact .agg h fun i hi => ih i hi (hl _ (List.getElem_mem hi))
  | tup h _ ih => cases hl with | tup hl => exact .tup h fun i hi => ih i hi (hl _ (List.getElem_mem hi))
  | fp c h4 h5 => exact .fp c h4 h5
  | row => cases hl with | row hl => omega
  | ptr => cases hl with | ptr hl => omega
  | bsl => cases hl with | bsl hl => omega
  | rptr => cases hl with | rptr hl => omega
  | mp => cases hl with | mp hl => omega
  | it => cases hl with | it hl => omega
  | fn h1 h2 _ _ ih1 ih2 => cases hl with | fn hx hy => exact .fn h1 h2 (fun i hi => ih1 i hi (hx _ (List.getElem_mem hi))) (fun i hi => ih2 i hi (hy _ (List.getElem_mem hi)))

/-! ### The whole -/
def ObjOk (H : Heap) (β : Beta) (F : Frz) (w : World) (id : Nat) : AObj → Prop
  | .box xs => (xs = [] ∧ β id = none) ∨ ∃ b c e, β id = some (b, 0, xs.length) ∧ w.heap[b]? = some (.cells c e (0, 0)) ∧ c.size = xs.length ∧ ∀ i (h : i < xs.length), RA H β F w (c.getD i undef) xs[i] ∧ xs[i].leaf = true
  | .row _ _ xs => (xs = [] ∧ β id = none) ∨ ∃ b s t c e, β id = some (b, s, t) ∧ w.heap[b]? = some (.cells c e (0, 0)) ∧ c.size = t ∧ s + xs.length ≤ t ∧ ∀ i (h : i < xs.length), RP F w (c.getD (s + i) undef) xs[i]
  | .map es c => ∃ b en, β id = some (b, 0, 0) ∧ w.heap[b]? = some (.map en c) ∧ en.size = es.length ∧ ∀ i (h : i < es.length), ∃ e, en[i]? = some e ∧ RA H β F w e.key es[i].1 ∧ RA H β F w e.val es[i].2.1 ∧ e.born = es[i].2.2
  | .iter m since seen last => m < id ∧ ∃ b bm s t es c, β id = some (b, 0, 0) ∧ H[m]? = some (.map es c) ∧ β m = some (bm, s, t) ∧ w.heap[b]? = some (.mapIter (some bm) since seen.toArray last) ∧ since ≤ last
  | .hole => β id = none

/-- What is known of cells that stand outside all that a call makes: package variables. -/
class Know where
  cell : Nat → Nat → Option Value

instance (priority := low) noKnow : Know := ⟨fun _ _ => none⟩

variable [Know]
structure Inv (H : Heap) (β : Beta) (F : Frz) (w : World) : Prop where
  obj : ∀ (id : Nat) o, H[id]? = some o → ObjOk H β F w id o
  inj : ∀ i j b s t s' t', i ≠ j → β i = some (b, s, t) → β j = some (b, s', t') → False
  dom : ∀ id, H.length ≤ id → β id = none
  fz : ∀ b j, F b j → ∃ v, w.cell? ⟨b, j, none⟩ = some v
  own : ∀ id b s t j, β id = some (b, s, t) → ¬ F b j
  kn : ∀ b j v, Know.cell b j = some v → F b j ∧ w.cell? ⟨b, j, none⟩ = some v

structure Ext (H : Heap) (β : Beta) (F : Frz) (w : World) (H' : Heap) (β' : Beta) (F' : Frz) (w' : World) : Prop where
  os : w'.os = w.os
  tape : w'.tape = w.tape
  output : w'.output = w.output
  size : w.heap.size ≤ w'.heap.size
  drawn : w.drawn ≤ w'.drawn
  block : ∀ b, b < w.heap.size → (∀ id s t, β id ≠ some (b, s, t)) → w'.heap[b]? = w.heap[b]?
  fz : ∀ b j, F b j → F' b j
  fn : ∀ b j, F' b j → F b j ∨ w.heap.size ≤ b ∨ ∃ id s t, β id = some (b, s, t)
  own : ∀ id b s t, β' id = some (b, s, t) → w.heap.size ≤ b ∨ ∃ id' s' t', β id' = some (b, s', t')
  grow : Grow H β H' β'

theorem Ext.refl (H : Heap) (β : Beta) (F : Frz) (w : World) : Ext H β F w H β F w :=
  ⟨rfl, rfl, rfl, Nat.le_refl _, Nat.le_refl _, fun _ _ _ => rfl, fun _ _ h => h, fun _ _ h => .inl h, fun id b s t h => .inr ⟨id, s, t, h⟩, Grow.refl _ _⟩

theorem Ext.trans {H₁ H₂ H₃ : Heap} {β₁ β₂ β₃ : Beta} {F₁ F₂ F₃ : Frz} {w₁ w₂ w₃ : World} (h : Ext H₁ β₁ F₁ w₁ H₂ β₂ F₂ w₂) (k : Ext H₂ β₂ F₂ w₂ H₃ β₃ F₃ w₃) : Ext H₁ β₁ F₁ w₁ H₃ β₃ F₃ w₃ where
  os := k.os.trans h.os
  tape := k.tape.trans h.tape
  output := k.output.trans h.output
  size := Nat.le_trans h.size k.size
  drawn := Nat.le_trans h.drawn k.drawn
  block := fun b hb hn => (k.block b (Nat.lt_of_lt_of_le hb h.size) (fun id s t e => by
    rcases h.own id b s t e with h1 | ⟨id', s', t', h1⟩
    · omega
    · exact hn _ _ _ h1)).trans (h.block b hb hn)
  fz := fun b j hj => k.fz _ _ (h.fz _ _ hj)
  fn := fun b j hj => by
    rcases k.fn b j hj with h1 | h1 | ⟨id, s, t, h1⟩
    · exact h.fn b j h1
    · exact .inr (.inl (Nat.le_trans h.size h1))
    · rcases h.own id b s t h1 with h2 | h2
      · exact .inr (.inl h2)
      · exact .inr (.inr h2)
  own := fun id b s t e => by
    rcases k.own id b s t e with h1 | ⟨id', s', t', h1⟩
    · exact .inl (Nat.le_trans h.size h1)
    · exact h.own _ _ _ _ h1
  grow := h.grow.trans k.grow

theorem Inv.lt {H : Heap} {β : Beta} {F : Frz} {w : World} (h : Inv H β F w) {b j : Nat} (hj : F b j) : b < w.heap.size := by
  obtain ⟨v, hv⟩ := h.fz b j hj
  exact World.block_lt_of_cell? w ⟨b, j, none⟩ hv

theorem Ext.cell {H H' : Heap} {β β' : Beta} {F F' : Frz} {w w' : World} (hI : Inv H β F w) (h : Ext H β F w H' β' F' w') {b j : Nat} (hj : F b j) :
    w'.cell? ⟨b, j, none⟩ = w.cell? ⟨b, j, none⟩ :=
  World.cell?_of_block (w := w) (h.block b (hI.lt hj) (fun id s t e => hI.own _ _ _ _ _ e hj))

theorem RA.ext {H H' : Heap} {β β' : Beta} {F F' : Frz} {w w' : World} (hI : Inv H β F w) (h : Ext H β F w H' β' F' w') {v : Value} {x : AV} (hx : RA H β F w v x) : RA H' β' F' w' v x :=
  hx.mono h.grow h.fz fun _ _ hj => Ext.cell hI h hj

theorem RP.ext {H H' : Heap} {β β' : Beta} {F F' : Frz} {w w' : World} (hI : Inv H β F w) (h : Ext H β F w H' β' F' w') {v : Value} {x : PV} (hx : RP F w v x) : RP F' w' v x :=
  hx.mono h.fz fun _ _ hj => Ext.cell hI h hj

end Go.AM
