/-
The abstract operations that touch no memory, or only read it: what they answer the program's own operations answer.
-/
import Derived.Test.YtfdnamedmjhcfaaDoorAm2
import Derived.Laws.Cells
import Derived.Laws.StructEq
import Derived.ChangeKeysEq
import Derived.Laws.Append
set_option linter.unusedVariables false
set_option linter.unusedSimpArgs false
set_option linter.unusedSectionVars false
namespace Go.AM
variable [Know]

section
variable {P : Program} {H : Heap} {β : Beta} {F : Frz} {w : World}

theorem RA.v_inv {v x : Value} (h : RA H β F w v (.p (.v x))) : v = x ∧ leafyV x = true := by
  cases h with
  | p h => cases h with | v h => exact ⟨rfl, h⟩

theorem RA.of_leafy {x : Value} (h : leafyV x = true) : RA H β F w x (.p (.v x)) := .p (.v h)

theorem truth_inv {x : AV} {b : Bool} (h : truth x = some b) : x = B b := by
  unfold truth at h
  split at h
  · cases h; rfl
  · cases h

theorem asI_inv {x : AV} {n : Int} (h : asI x = some n) : ∃ k, x = .p (.v (.int k n)) := by
  unfold asI at h
  split at h
  · cases h; exact ⟨_, rfl⟩
  · cases h

theorem pvOf_sound (v : Value) (h : leafyV v = true) : RP F w v (pvOf v) := by
  unfold pvOf
  split
  · exact .nil (by simp)
  · exact .v h

theorem leafOf_sound (v : Value) : RA H β F w v (leafOf v) := by
  unfold leafOf
  split
  · exact .any _
  · exact .any _
  · rename_i h1 h2
    exact .p (pvOf_sound v (by cases v <;> first | rfl | exact (h1 _ rfl).elim | exact (h2 _ rfl).elim))

theorem ofValue_sound (v : Value) : RA H β F w v (ofValue v) := by
  unfold ofValue
  split
  · rename_i cs
    refine .agg (by simp) fun i hi => ?_
    have h' : i < cs.size := by simpa using hi
    simp only [List.getElem_map, Array.getElem_toList]
    rw [show cs.getD i undef = cs[i] by simp [Array.getD, h']]
    exact leafOf_sound _
  · exact leafOf_sound v

/-- The slots. -/
def RS (H : Heap) (β : Beta) (F : Frz) (w : World) (a : Act) (s : Slots) : Prop := ∀ i, RA H β F w (a.tmps.getD i undef) (s i)

theorem ev_sound {a : Act} {s : Slots} (h : RS H β F w a s) (x : Operand) : RA H β F w (a.eval x) (ev s x) := by
  cases x with
  | tmp t => exact h t
  | const v => exact ofValue_sound v
  | global g => exact .of_leafy rfl
  | func f => exact .fn (by simp) (by simp) (fun i hi => by simp at hi) (fun i hi => by simp at hi)

theorem RS.put {a : Act} {s : Slots} {d : Option Tmp} {v : Value} {x : AV} (h : RS H β F w a s) (hx : RA H β F w v x) (hd : ∀ t, d = some t → t < a.tmps.size) : RS H β F w (a.put d v) (setDst d x s) := by
  cases d with
  | none => exact h
  | some t =>
    have ht := hd t rfl
    intro i
    simp only [Act.put, setDst, upd]
    by_cases e : i = t
    · subst e
      simpa [Array.getD, ht] using hx
    · have e' : Nat.beq i t = false := by
        cases hb : Nat.beq i t with
        | false => rfl
        | true => exact (e (Nat.eq_of_beq_eq_true hb)).elim
      rw [e']
      have h2 := h i
      simp only [cond_false]
      rw [Array.getD_eq_getD_getElem?] at h2 ⊢
      rwa [Array.getElem?_setIfInBounds_ne (Ne.symm e)]

theorem size_put (a : Act) (d : Option Tmp) (v : Value) : (a.put d v).tmps.size = a.tmps.size := by
  cases d <;> simp [Act.put]

theorem RS.ext {H' : Heap} {β' : Beta} {F' : Frz} {w' : World} (hI : Inv H β F w) (hE : Ext H β F w H' β' F' w') {a : Act} {s : Slots} (h : RS H β F w a s) : RS H' β' F' w' a s := fun i => (h i).ext hI hE

/-! ### Scalars -/
theorem intOp_sound {op : BinOp} {k k' : IntKind} {x y : Int} {r : Value} (t : TypeId) (hk : isShift op = true ∨ k = k') (h : intOp op k x y = some r) :
    (binOp op t (.int k x) (.int k' y)).run P w = .ok r w ∧ leafyV r = true := by
  cases op <;> simp only [intOp, Option.some.injEq] at h
  case quo =>
    split at h <;> simp at h
    rename_i hy
    subst h
    have hk' : k = k' := by simpa [isShift] using hk
    subst hk'
    simp [binOp, Op.intDiv, hy, leafyV]
  case rem =>
    split at h <;> simp at h
    rename_i hy
    subst h
    have hk' : k = k' := by simpa [isShift] using hk
    subst hk'
    simp [binOp, Op.intDiv, hy, leafyV]
  case shl =>
    split at h <;> simp at h
    rename_i hy
    subst h
    simp [binOp, Op.shift, hy, leafyV]
  case shr =>
    split at h <;> simp at h
    rename_i hy
    subst h
    simp [binOp, Op.shift, hy, leafyV]
  all_goals
    subst h
    have hk' : k = k' := by simpa [isShift] using hk
    subst hk'
    simp [binOp, Op.intArith, Op.intBits, Op.intCmp, leafyV]

theorem strOp_sound {op : BinOp} {x y : ByteArray} {r : Value} (t : TypeId) (h : strOp op x y = some r) : (binOp op t (.string x) (.string y)).run P w = .ok r w ∧ leafyV r = true := by
  cases op <;> simp only [strOp, Option.some.injEq, reduceCtorEq] at h
  case add =>
    split at h <;> simp at h
    rename_i hy
    subst h
    have h2 : ¬ ((x.size + y.size : Nat) : Int) > IntKind.i64.max := by
      have : IntKind.i64.max = 9223372036854775807 := rfl
      omega
    simp only [binOp, Op.stringOp, if_neg h2, Sem.run_pure, leafyV, and_self]
  all_goals
    subst h
    simp [binOp, Op.stringOp, leafyV]

theorem eqGuard_idle {op : BinOp} {t : TypeId} {ox oy : Operand} {a b : Value} (h : (a ≠ .nilIface ∨ b ≠ .nilIface) ∧ (∀ x y, ¬ (a = .agg x ∧ b = .agg y))) : (eqGuard op t ox oy a b).run P w = .ok () w := by
  cases op <;> first | rfl | skip
  all_goals
    simp only [eqGuard, Bool.not_true, Bool.false_eq_true, if_false, pure_bind]
    split
    · simp at h
    · rename_i x y
      exact (h.2 x y ⟨rfl, rfl⟩).elim
    · rfl

theorem eqRes_inv {op : BinOp} {b : Bool} {x : AV} (h : eqRes op b = some x) : (op = .eql ∧ x = B b) ∨ (op = .neq ∧ x = B !b) := by
  cases op <;> simp [eqRes] at h
  · exact .inl ⟨rfl, h.symm⟩
  · exact .inr ⟨rfl, h.symm⟩

end
end Go.AM

namespace Go.AM
variable [Know]
section
variable {P : Program} {H : Heap} {β : Beta} {F : Frz} {w : World}

theorem leafEq_sound {k : Ty} {a b : AV} {r : Bool} {x y : Value} {t : TypeId} (d : Nat) (h : leafEq k a b = some r) (hx : RA H β F w x a) (hy : RA H β F w y b)
    (hk : (k = .int ∧ ∃ q, P.underlying t = some (.int q)) ∨ (k = .bool ∧ P.underlying t = some .bool) ∨ (k = .str ∧ P.underlying t = some .string)) :
    (Op.equalIn (d + 1) t x y).run P w = .ok r w := by
  unfold leafEq at h
  split at h
  · split at h <;> simp at h
    rename_i hkk
    subst h hkk
    cases hx.v_inv.1
    cases hy.v_inv.1
    rcases hk with ⟨_, q, hq⟩ | ⟨h1, _⟩ | ⟨h1, _⟩
    · exact run_equalIn_int w d t _ q _ _ hq
    · cases h1
    · cases h1
  · simp at h
    subst h
    cases hx.v_inv.1
    cases hy.v_inv.1
    rcases hk with ⟨h1, _⟩ | ⟨_, hq⟩ | ⟨h1, _⟩
    · cases h1
    · exact run_equalIn_bool w d t _ _ hq
    · cases h1
  · simp at h
    subst h
    cases hx.v_inv.1
    cases hy.v_inv.1
    rcases hk with ⟨h1, _⟩ | ⟨h1, _⟩ | ⟨_, hq⟩
    · cases h1
    · cases h1
    · exact run_equalIn_string w d t _ _ hq
  · cases h

theorem leavesEq_append {xs ys : List AV} : ∀ {p q : List (Nat × Ty)} {r : Bool}, leavesEq xs ys (p ++ q) = some r → ∃ b c, leavesEq xs ys p = some b ∧ leavesEq xs ys q = some c ∧ r = (b && c) := by
  intro p
  induction p with
  | nil => intro q r h; exact ⟨true, r, rfl, h, by simp⟩
  | cons x p ih =>
    intro q r h
    obtain ⟨o, k⟩ := x
    simp only [List.cons_append, leavesEq] at h ⊢
    split at h
    · rename_i a b ha hb
      rw [Option.bind_eq_some_iff] at h
      obtain ⟨b1, h1, h⟩ := h
      rw [Option.bind_eq_some_iff] at h
      obtain ⟨c1, h2, h⟩ := h
      simp only [Option.some.injEq] at h
      obtain ⟨b2, c2, h3, h4, rfl⟩ := ih h2
      refine ⟨b1 && b2, c2, ?_, h4, ?_⟩
      · simp only [ha, hb, h1, Option.bind_some, h3]
      · rw [← h, Bool.and_assoc]
    · cases h

/-- The value of type t that begins at cell off. -/
def Sub (P : Program) (t : TypeId) (cs : Array Value) (off : Nat) (x : Value) : Prop :=
  (isAggT P t = true ∧ ∃ cx : Array Value, x = .agg cx ∧ cx.size = P.cellsOf t ∧ ∀ j, j < cx.size → cx[j]? = cs[off + j]?) ∨ (isAggT P t = false ∧ cs[off]? = some x)

theorem run_isAgg {t : TypeId} {d : TypeDesc} (h : P.underlying t = some d) : (isAgg t).run P w = .ok (isAggT P t) w := by
  unfold isAgg isAggT
  simp only [Sem.run_bind, run_underlying h, Result.andThen_ok, h]
  cases d <;> rfl

theorem run_sizeOf {t : TypeId} {d : TypeDesc} (h : P.underlying t = some d) : (sizeOf t).run P w = .ok (P.cellsOf t) w := by
  unfold sizeOf typeInfo Program.cellsOf
  unfold Program.underlying at h
  cases hi : P.info? t with
  | none => rw [hi] at h; cases h
  | some i => simp [hi]

theorem run_part {t : TypeId} {d : TypeDesc} (h : P.underlying t = some d) {cx : Array Value} {o : Nat} {cs : Array Value} {off : Nat}
    (hs : ∀ j, j < cx.size → cx[j]? = cs[off + j]?) (ho : o + P.cellsOf t ≤ cx.size) (h1 : isAggT P t = false → o < cx.size) :
    ∃ x, (part t cx o).run P w = .ok x w ∧ Sub P t cs (off + o) x := by
  unfold part
  simp only [Sem.run_bind, run_isAgg h, Result.andThen_ok]
  cases ha : isAggT P t with
  | true =>
    refine ⟨.agg (cx.extract o (o + P.cellsOf t)), by simp [run_sizeOf h], .inl ⟨ha, _, rfl, by simp; omega, fun j hj => ?_⟩⟩
    have hj' : j < P.cellsOf t := by simp at hj; omega
    rw [Array.getElem?_extract]
    rw [if_pos (by omega), hs _ (by omega)]
    congr 1
    omega
  | false =>
    have ho' := h1 ha
    refine ⟨cx[o], by simp [ho'], .inr ⟨ha, ?_⟩⟩
    rw [← hs o ho', Array.getElem?_eq_getElem ho']


def RowA (H : Heap) (β : Beta) (F : Frz) (w : World) (cs : Array Value) (xs : List AV) : Prop := cs.size = xs.length ∧ ∀ i (h : i < xs.length), RA H β F w (cs.getD i undef) xs[i]

theorem RowA.at_ {cs : Array Value} {xs : List AV} (h : RowA H β F w cs xs) {i : Nat} {x : AV} (hx : xs[i]? = some x) : ∃ v, cs[i]? = some v ∧ RA H β F w v x := by
  have hi := getElem?_lt hx
  have hi' : i < cs.size := by rw [h.1]; exact hi
  refine ⟨cs[i], Array.getElem?_eq_getElem hi', ?_⟩
  have h2 := h.2 i hi
  rw [List.getElem?_eq_getElem hi] at hx
  cases hx
  simpa [Array.getD, hi'] using h2

theorem eqFields_sound {xs ys : List AV} {cs ds cx cy : Array Value} (hcs : RowA H β F w cs xs) (hds : RowA H β F w ds ys) {sz off m : Nat} {g : TypeId → Nat → Option (List (Nat × Ty))}
    (hg : ∀ t off plan, g t off = some plan → (∃ d, P.underlying t = some d) ∧ (isAggT P t = false → 0 < P.cellsOf t) ∧ ∀ x y b, Sub P t cs off x → Sub P t ds off y → leavesEq xs ys plan = some b → (Op.equalIn m t x y).run P w = .ok b w)
    (hx : ∀ j, j < cx.size → cx[j]? = cs[off + j]?) (hy : ∀ j, j < cy.size → cy[j]? = ds[off + j]?) (hxs : cx.size = sz) (hys : cy.size = sz) :
    ∀ (fs : List Field) plan b, eqPlanFs P g sz off fs = some plan → leavesEq xs ys plan = some b → (Op.eqFields m cx cy fs).run P w = .ok b w := by
  intro fs
  induction fs with
  | nil =>
    intro plan b hp hb
    simp only [eqPlanFs, Option.some.injEq] at hp
    subst hp
    simp only [leavesEq, Option.some.injEq] at hb
    subst hb
    simp [Op.eqFields]
  | cons f fs ih =>
    intro plan b hp hb
    simp only [eqPlanFs] at hp
    split at hp
    · cases hp
    · rename_i hn
      rw [Option.bind_eq_some_iff] at hp
      obtain ⟨p1, hp1, hp⟩ := hp
      rw [Option.bind_eq_some_iff] at hp
      obtain ⟨q1, hq1, hp⟩ := hp
      simp only [Option.some.injEq] at hp
      subst hp
      obtain ⟨b1, c1, hb1, hc1, rfl⟩ := leavesEq_append hb
      obtain ⟨⟨dd, hd⟩, hpos, hg'⟩ := hg _ _ _ hp1
      have hle : f.offset + P.cellsOf f.type ≤ sz := by omega
      obtain ⟨x, rx, sx⟩ := run_part (w := w) hd hx (o := f.offset) (by omega) (fun e => by have := hpos e; omega)
      obtain ⟨y, ry, sy⟩ := run_part (w := w) hd hy (o := f.offset) (by omega) (fun e => by have := hpos e; omega)
      have he := hg' x y b1 sx sy hb1
      simp only [Op.eqFields]
      rw [if_pos (by simpa using fun e => hn (.inl e))]
      simp only [Sem.run_bind, rx, ry, he, Result.andThen_ok]
      cases b1 with
      | true => simpa using ih q1 c1 hq1 hc1
      | false => simp

def aggD : TypeDesc → Bool
  | .struct _ | .array .. => true
  | _ => false

theorem isAggT_of {t : TypeId} {d : TypeDesc} (h : P.underlying t = some d) : isAggT P t = aggD d := by
  unfold isAggT
  rw [h]
  cases d <;> rfl

theorem eqPlan_sound {xs ys : List AV} {cs ds : Array Value} (hcs : RowA H β F w cs xs) (hds : RowA H β F w ds ys) :
    ∀ (d : Nat) (t : TypeId) (off : Nat) plan, eqPlan P d t off = some plan →
      (∃ dd, P.underlying t = some dd) ∧ (isAggT P t = false → 0 < P.cellsOf t) ∧ ∀ x y b, Sub P t cs off x → Sub P t ds off y → leavesEq xs ys plan = some b → ∀ m, (Op.equalIn (d + m) t x y).run P w = .ok b w := by
  intro d
  induction d with
  | zero => intro t off plan h; simp [eqPlan] at h
  | succ d ih =>
    intro t off plan h
    have leaf : ∀ (k : Ty), plan = [(off, k)] → ((k = .int ∧ ∃ q, P.underlying t = some (.int q)) ∨ (k = .bool ∧ P.underlying t = some .bool) ∨ (k = .str ∧ P.underlying t = some .string)) → isAggT P t = false →
        (∃ dd, P.underlying t = some dd) → (isAggT P t = false → 0 < P.cellsOf t) → (∃ dd, P.underlying t = some dd) ∧ (isAggT P t = false → 0 < P.cellsOf t) ∧ ∀ x y b, Sub P t cs off x → Sub P t ds off y → leavesEq xs ys plan = some b → ∀ m, (Op.equalIn (d + 1 + m) t x y).run P w = .ok b w := by
      intro k hp hk ha hd hpos
      refine ⟨hd, hpos, fun x y b hx hy hb m => ?_⟩
      subst hp
      simp only [leavesEq] at hb
      split at hb
      · rename_i a a' h1 h2
        rw [Option.bind_eq_some_iff] at hb
        obtain ⟨b1, hb1, hb⟩ := hb
        simp only [Option.bind_some, Option.some.injEq, Bool.and_true] at hb
        subst hb
        obtain ⟨v, hv, rv⟩ := hcs.at_ h1
        obtain ⟨v', hv', rv'⟩ := hds.at_ h2
        rcases hx with ⟨e, _⟩ | ⟨_, hx⟩
        · rw [ha] at e; cases e
        rcases hy with ⟨e, _⟩ | ⟨_, hy⟩
        · rw [ha] at e; cases e
        rw [hv] at hx
        rw [hv'] at hy
        cases hx
        cases hy
        have := leafEq_sound (P := P) (t := t) (d + m) hb1 rv rv' hk
        rwa [show d + 1 + m = d + m + 1 by omega]
      · cases hb
    simp only [eqPlan] at h
    split at h
    · rename_i hu
      split at h <;> simp at h
      rename_i h1
      exact leaf .bool h.symm (.inr (.inl ⟨rfl, hu⟩)) (isAggT_of hu) ⟨_, hu⟩ (fun _ => by omega)
    · rename_i k hu
      split at h <;> simp at h
      rename_i h1
      exact leaf .int h.symm (.inl ⟨rfl, k, hu⟩) (isAggT_of hu) ⟨_, hu⟩ (fun _ => by omega)
    · rename_i hu
      split at h <;> simp at h
      rename_i h1
      exact leaf .str h.symm (.inr (.inr ⟨rfl, hu⟩)) (isAggT_of hu) ⟨_, hu⟩ (fun _ => by omega)
    · rename_i fs hu
      split at h
      · cases h
      · rename_i hst
        have ha : isAggT P t = true := isAggT_of hu
        refine ⟨⟨_, hu⟩, fun e => by (rw [ha] at e; cases e), fun x y b hx hy hb m => ?_⟩
        rcases hx with ⟨_, cx, rfl, hxs, hx⟩ | ⟨e, _⟩
        · rcases hy with ⟨_, cy, rfl, hys, hy⟩ | ⟨e, _⟩
          · have hf : P.fieldsOf t = fs := by unfold Program.fieldsOf; rw [hu]
            rw [show d + 1 + m = d + m + 1 by omega, run_equalIn_struct w (d + m) t cx cy (by rw [hf]; exact hu) (by simpa using hst), hf]
            exact eqFields_sound hcs hds (fun t' off' plan' hp' => by
              obtain ⟨h1, h2, h3⟩ := ih t' off' plan' hp'
              exact ⟨h1, h2, fun x y b hx hy hb => h3 x y b hx hy hb m⟩) hx hy hxs hys fs.toList plan b h hb
          · rw [ha] at e; cases e
        · rw [ha] at e; cases e
    · cases h


theorem eqItems_sound {xs ys : List AV} {cs ds : Array Value} {e : TypeId} {c m : Nat}
    (hg : ∀ off plan, eqPlan P 20 e off = some plan → (∃ d, P.underlying e = some d) ∧ (isAggT P e = false → 0 < P.cellsOf e) ∧ ∀ x y b, Sub P e cs off x → Sub P e ds off y → leavesEq xs ys plan = some b → (Op.equalIn m e x y).run P w = .ok b w) (hc : c = P.cellsOf e) {k : Nat} (hcs : cs.size = k * c) (hds : ds.size = k * c) :
    ∀ (is : List Nat) plan b, (∀ i ∈ is, i < k) → arrPlan (eqPlan P 20 e) c is = some plan → leavesEq xs ys plan = some b → (Op.eqItems m e c cs ds is).run P w = .ok b w := by
  intro is
  induction is with
  | nil =>
    intro plan b _ hp hb
    simp only [arrPlan, Option.some.injEq] at hp
    subst hp
    simp only [leavesEq, Option.some.injEq] at hb
    subst hb
    simp [Op.eqItems]
  | cons i is ih =>
    intro plan b hi hp hb
    simp only [arrPlan] at hp
    rw [Option.bind_eq_some_iff] at hp
    obtain ⟨p1, hp1, hp⟩ := hp
    rw [Option.bind_eq_some_iff] at hp
    obtain ⟨q1, hq1, hp⟩ := hp
    simp only [Option.some.injEq] at hp
    subst hp
    obtain ⟨b1, c1, hb1, hc1, rfl⟩ := leavesEq_append hb
    obtain ⟨⟨dd, hd⟩, hpos, hg'⟩ := hg _ _ hp1
    have hik := hi i (by simp)
    have hle : i * c + c ≤ k * c := by
      have : (i + 1) * c ≤ k * c := Nat.mul_le_mul_right _ hik
      rw [Nat.add_mul] at this
      omega
    obtain ⟨x, rx, sx⟩ := run_part (w := w) hd (cx := cs) (cs := cs) (off := 0) (o := i * c) (fun j _ => by simp) (by rw [hcs]; omega) (fun e => by have := hpos e; rw [hcs]; omega)
    obtain ⟨y, ry, sy⟩ := run_part (w := w) hd (cx := ds) (cs := ds) (off := 0) (o := i * c) (fun j _ => by simp) (by rw [hds]; omega) (fun e => by have := hpos e; rw [hds]; omega)
    rw [Nat.zero_add] at sx sy
    have he := hg' x y b1 sx sy hb1
    simp only [Op.eqItems, Sem.run_bind, rx, ry, he, Result.andThen_ok]
    cases b1 with
    | true => simpa using ih q1 c1 (fun j hj => hi j (List.mem_cons_of_mem _ hj)) hq1 hc1
    | false => simp

theorem tyOf_cases (t : TypeId) :
    (match tyOf P t with
     | .bool => P.underlying t = some .bool
     | .int => ∃ k, P.underlying t = some (.int k)
     | .str => P.underlying t = some .string
     | .slice => ∃ e, P.underlying t = some (.slice e)
     | .ptr => ∃ e, P.underlying t = some (.pointer e)
     | .map => ∃ k e, P.underlying t = some (.map k e)
     | .fn => ∃ a b c, P.underlying t = some (.func a b c)
     | .iface => ∃ m, P.underlying t = some (.interface m)
     | .agg n p => (∃ fs, P.underlying t = some (.struct fs)) ∧ eqPlan P 20 t 0 = some p ∧ P.eqGuardType P.depth t = false ∧ n = P.cellsOf t
     | .arr n p => ∃ k e i, P.underlying t = some (.array k e) ∧ P.info? e = some i ∧ arrPlan (eqPlan P 20 e) (P.cellsOf e) (List.range k) = some p ∧ P.eqGuardType P.depth t = false ∧ n = P.cellsOf t ∧ P.cellsOf t = k * P.cellsOf e
     | .other | .float => True) := by
  unfold tyOf
  cases hu : P.underlying t with
  | none => trivial
  | some d =>
    cases d with
    | struct fs =>
      cases h1 : eqPlan P 20 t 0 with
      | none => simp
      | some q =>
        cases h2 : P.eqGuardType P.depth t with
        | true => simp
        | false => simp
    | array k e =>
      cases h1 : arrPlan (eqPlan P 20 e) (P.cellsOf e) (List.range k) with
      | none => simp [h1]
      | some q =>
        cases h2 : P.eqGuardType P.depth t with
        | true => simp [h1]
        | false =>
          cases h3 : (Nat.beq (P.cellsOf t) (k * P.cellsOf e) && (P.info? e).isSome) with
          | false => simp [h1, h3]
          | true =>
            have h4 := h3
            rw [Bool.and_eq_true] at h4
            obtain ⟨i, hi⟩ := Option.isSome_iff_exists.mp h4.2
            simp only [h1, h3, if_true]
            exact ⟨k, e, i, rfl, hi, h1, trivial, trivial, Nat.eq_of_beq_eq_true h4.1⟩
    | _ => simp

/-- The two values of a comparison with nil, and what it comes to. -/
theorem nilEq_sound {ty : Ty} {t : TypeId} {a b : AV} {va vb : Value} {r : Bool} (h : nilEq ty a b = some r) (ha : RA H β F w va a) (hb : RA H β F w vb b)
    (ht : (ty = .slice ∧ ∃ e, P.underlying t = some (.slice e)) ∨ (ty = .ptr ∧ ∃ e, P.underlying t = some (.pointer e)) ∨ (ty = .map ∧ ∃ k e, P.underlying t = some (.map k e)) ∨
      (ty = .fn ∧ ∃ x y z, P.underlying t = some (.func x y z)) ∨ (ty = .iface ∧ r = false ∧ ∃ m, P.underlying t = some (.interface m))) :
    (∀ d, (Op.equalIn (d + 1) t va vb).run P w = .ok r w) ∧ (∀ k n, va ≠ .int k n) ∧ (∀ s, va ≠ .string s) ∧ (∀ k n, va ≠ .float k n) ∧ (∀ k n m, va ≠ .complex k n m) ∧ (∀ cs, va ≠ .agg cs) ∧ (va ≠ .nilIface ∨ vb ≠ .nilIface) := by
  have sl : ∀ {x : AV} {v : Value} {q : Bool}, isNilA .slice x = some q → RA H β F w v x → (q = true ∧ v = .slice none 0 0) ∨ (q = false ∧ ∃ a n c, v = .slice (some a) n c) := by
    intro x v q hx hv
    cases x with
    | p y =>
      cases y with
      | v z => simp only [isNilA, reduceCtorEq] at hx
      | sl nl t n xs =>
        simp only [isNilA] at hx
        cases hv with
        | p hv =>
          cases hv with
          | nil h1 => cases q with | true => exact .inl ⟨rfl, rfl⟩ | false => exact (h1 hx).elim
          | emp h1 => cases q with | true => exact (h1 hx).elim | false => exact .inr ⟨rfl, _, _, _, rfl⟩
          | sl c h1 => cases q with | true => exact (h1 hx).elim | false => exact .inr ⟨rfl, _, _, _, rfl⟩
    | row id g off n =>
      simp only [isNilA] at hx
      split at hx
      · rename_i hn
        cases hx
        cases hv with
        | row hl _ _ _ =>
          obtain ⟨a, c, rfl, _, ha⟩ := hl
          cases a with
          | none => have := ha rfl; omega
          | some a => exact .inr ⟨rfl, a, n, c, rfl⟩
      · cases hx
    | bsl id n =>
      simp only [isNilA] at hx
      cases hx
      cases hv with
      | bsl hl _ _ =>
        obtain ⟨a, c, rfl, _⟩ := hl
        exact .inr ⟨rfl, a, n, c, rfl⟩
    | _ => simp only [isNilA, reduceCtorEq] at hx
  have pt : ∀ {x : AV} {v : Value} {q : Bool}, isNilA .ptr x = some q → RA H β F w v x → (q = true ∧ v = .pointer none) ∨ (q = false ∧ ∃ a, v = .pointer (some a)) := by
    intro x v q hx hv
    unfold isNilA at hx
    split at hx <;> first | (rename_i h1; cases h1; done) | skip
    · cases hx; cases hv.v_inv.1; exact .inl ⟨rfl, rfl⟩
    · cases hx; cases hv; exact .inr ⟨rfl, _, rfl⟩
    · cases hx; cases hv with | ptr hl => obtain ⟨a, rfl⟩ := hl; exact .inr ⟨rfl, _, rfl⟩
    · cases hx
  have mp : ∀ {x : AV} {v : Value} {q : Bool}, isNilA .map x = some q → RA H β F w v x → (q = true ∧ v = .map none) ∨ (q = false ∧ ∃ a, v = .map (some a)) := by
    intro x v q hx hv
    unfold isNilA at hx
    split at hx <;> first | (rename_i h1; cases h1; done) | skip
    · cases hx; cases hv.v_inv.1; exact .inl ⟨rfl, rfl⟩
    · cases hx; cases hv; exact .inr ⟨rfl, _, rfl⟩
    · cases hx
  have fn : ∀ {x : AV} {v : Value} {q : Bool}, isNilA .fn x = some q → RA H β F w v x → (q = true ∧ v = .nilFunc) ∨ (q = false ∧ ∃ f x y, v = .func f x y) := by
    intro x v q hx hv
    unfold isNilA at hx
    split at hx <;> first | (rename_i h1; cases h1; done) | skip
    · cases hx; cases hv.v_inv.1; exact .inl ⟨rfl, rfl⟩
    · cases hx; cases hv; exact .inr ⟨rfl, _, _, _, rfl⟩
    · cases hx
  have fc : ∀ {x : AV} {v : Value} {q : Bool}, isNilA .iface x = some q → RA H β F w v x → (q = true ∧ v = .nilIface) ∨ (q = false ∧ ∃ t x, v = .iface t x) := by
    intro x v q hx hv
    unfold isNilA at hx
    split at hx <;> first | (rename_i h1; cases h1; done) | skip
    · cases hx; cases hv.v_inv.1; exact .inl ⟨rfl, rfl⟩
    · cases hx; cases hv.v_inv.1; exact .inr ⟨rfl, _, _, rfl⟩
    · cases hx
  have two : ∃ q1 q2, isNilA ty a = some q1 ∧ isNilA ty b = some q2 ∧ ((q1 = true ∧ r = q2) ∨ (q1 = false ∧ q2 = true ∧ r = false)) := by
    unfold nilEq at h
    split at h <;> simp at h
    · rename_i h1 h2; exact ⟨_, _, h1, h2, .inl ⟨rfl, h.symm⟩⟩
    · rename_i h1 h2; exact ⟨_, _, h1, h2, .inr ⟨rfl, rfl, h⟩⟩
  obtain ⟨q1, q2, h1, h2, hq⟩ := two
  rcases ht with ⟨rfl, e, hu⟩ | ⟨rfl, e, hu⟩ | ⟨rfl, k, e, hu⟩ | ⟨rfl, x, y, z, hu⟩ | ⟨rfl, hr, m, hu⟩
  · rcases sl h1 ha with ⟨rfl, rfl⟩ | ⟨rfl, a1, n1, c1, rfl⟩ <;> rcases sl h2 hb with ⟨rfl, rfl⟩ | ⟨rfl, a2, n2, c2, rfl⟩ <;> simp at hq <;> subst hq <;> simp [Op.equalIn, run_underlying hu]
  · rcases pt h1 ha with ⟨rfl, rfl⟩ | ⟨rfl, a1, rfl⟩ <;> rcases pt h2 hb with ⟨rfl, rfl⟩ | ⟨rfl, a2, rfl⟩ <;> simp at hq <;> subst hq <;> simp [Op.equalIn, run_underlying hu]
  · rcases mp h1 ha with ⟨rfl, rfl⟩ | ⟨rfl, a1, rfl⟩ <;> rcases mp h2 hb with ⟨rfl, rfl⟩ | ⟨rfl, a2, rfl⟩ <;> simp at hq <;> subst hq <;> simp [Op.equalIn, run_underlying hu]
  · rcases fn h1 ha with ⟨rfl, rfl⟩ | ⟨rfl, f1, x1, y1, rfl⟩ <;> rcases fn h2 hb with ⟨rfl, rfl⟩ | ⟨rfl, f2, x2, y2, rfl⟩ <;> simp at hq <;> subst hq <;> simp [Op.equalIn, run_underlying hu]
  · subst hr
    rcases fc h1 ha with ⟨rfl, rfl⟩ | ⟨rfl, t1, x1, rfl⟩ <;> rcases fc h2 hb with ⟨rfl, rfl⟩ | ⟨rfl, t2, x2, rfl⟩ <;> simp at hq <;> simp [Op.equalIn, run_underlying hu]

theorem bind_run {α β' : Type} {x : Sem α} {f : α → Sem β'} {a : α} {w w' : World} {r : Result β'} (h : x.run P w = .ok a w') (h' : (f a).run P w' = r) : (x >>= f).run P w = r := by
  rw [Sem.run_bind, h, Result.andThen_ok, h']

theorem eql_run {op : BinOp} {t : TypeId} {a b : Value} {r : Bool} {C : AV} (hC : eqRes op r = some C) (h : (Op.equal t a b).run P w = .ok r w)
    (h1 : ∀ k n, a ≠ .int k n) (h2 : ∀ s, a ≠ .string s) (h3 : ∀ k n, a ≠ .float k n) (h4 : ∀ k n m, a ≠ .complex k n m) : ∃ v, (binOp op t a b).run P w = .ok v w ∧ RA H β F w v C := by
  rcases eqRes_inv hC with ⟨rfl, rfl⟩ | ⟨rfl, rfl⟩
  · refine ⟨.bool r, ?_, .of_leafy rfl⟩
    cases a <;> first | exact (h1 _ _ rfl).elim | exact (h2 _ rfl).elim | exact (h3 _ _ rfl).elim | exact (h4 _ _ _ rfl).elim | skip
    all_goals (simp only [binOp]; simp [h])
  · refine ⟨.bool !r, ?_, .of_leafy rfl⟩
    cases a <;> first | exact (h1 _ _ rfl).elim | exact (h2 _ rfl).elim | exact (h3 _ _ rfl).elim | exact (h4 _ _ _ rfl).elim | skip
    all_goals (simp only [binOp]; simp [h])

theorem fltOp_sound {op : BinOp} {x y : Nat} {r : Value} (t : TypeId) (h : fltOp op x y = some r) : (binOp op t (.float .f64 x) (.float .f64 y)).run P w = .ok r w ∧ leafyV r = true := by
  cases op <;> simp only [fltOp, Option.some.injEq, reduceCtorEq] at h
  all_goals
    subst h
    simp [binOp, Op.floatCmp, leafyV]

theorem bin_sound {op : BinOp} {t : TypeId} {A B C : AV} {va vb : Value} (h : bin op (tyOf P t) A B = some C) (ha : RA H β F w va A) (hb : RA H β F w vb B) (ox oy : Operand) :
    ∃ r, (do eqGuard op t ox oy va vb; binOp op t va vb : Sem Value).run P w = .ok r w ∧ RA H β F w r C := by
  have ht := tyOf_cases (P := P) t
  unfold bin at h
  split at h
  · split at h
    · rename_i x y
      cases ha.v_inv.1
      cases hb.v_inv.1
      rw [Option.map_eq_some_iff] at h
      obtain ⟨r, hr, rfl⟩ := h
      obtain ⟨h1, h2⟩ := fltOp_sound (P := P) (w := w) t hr
      exact ⟨r, bind_run (eqGuard_idle ⟨.inl (by simp), by simp⟩) h1, .of_leafy h2⟩
    · cases h
  · split at h
    · rename_i k x k' y
      cases ha.v_inv.1
      cases hb.v_inv.1
      split at h
      · rename_i hk
        rw [Option.map_eq_some_iff] at h
        obtain ⟨r, hr, rfl⟩ := h
        obtain ⟨h1, h2⟩ := intOp_sound (P := P) (w := w) (k' := k') t (by simpa using hk) hr
        exact ⟨r, bind_run (eqGuard_idle ⟨.inl (by simp), by simp⟩) h1, .of_leafy h2⟩
      · cases h
    · cases h
  · split at h
    · cases ha.v_inv.1
      cases hb.v_inv.1
      rw [Option.map_eq_some_iff] at h
      obtain ⟨r, hr, rfl⟩ := h
      obtain ⟨h1, h2⟩ := strOp_sound (P := P) (w := w) t hr
      exact ⟨r, bind_run (eqGuard_idle ⟨.inl (by simp), by simp⟩) h1, .of_leafy h2⟩
    · cases h
  · rename_i hty
    rw [hty] at ht
    split at h
    · cases ha.v_inv.1
      cases hb.v_inv.1
      obtain ⟨v, h1, h2⟩ := eql_run (P := P) (H := H) (β := β) (F := F) (w := w) (t := t) h (run_equal_bool w t _ _ ht) (by simp) (by simp) (by simp) (by simp)
      exact ⟨v, bind_run (eqGuard_idle ⟨.inl (by simp), by simp⟩) h1, h2⟩
    · cases h
  · rename_i n plan hty
    rw [hty] at ht
    obtain ⟨⟨fs, hfs⟩, hplan, hgd, rfl⟩ := ht
    split at h
    · rename_i xs ys
      split at h
      · rename_i hn
        have hagg : isAggT P t = true := isAggT_of hfs
        rw [Option.bind_eq_some_iff] at h
        obtain ⟨r, hr, h⟩ := h
        cases ha with
        | agg ha1 ha2 =>
          cases hb with
          | agg hb1 hb2 =>
            rename_i cs ds
            have he := (eqPlan_sound (P := P) ⟨ha1, ha2⟩ ⟨hb1, hb2⟩ 20 t 0 plan hplan).2.2 (.agg cs) (.agg ds) r
              (.inl ⟨hagg, cs, rfl, by omega, fun j _ => by simp⟩) (.inl ⟨hagg, ds, rfl, by omega, fun j _ => by simp⟩) hr 9980
            obtain ⟨v, h1, h2⟩ := eql_run (P := P) (H := H) (β := β) (F := F) (w := w) (t := t) (a := .agg cs) (b := .agg ds) h he (by simp) (by simp) (by simp) (by simp)
            exact ⟨v, bind_run (run_eqGuard_agg w op t ox oy cs ds hgd) h1, h2⟩
      · cases h
    · cases h
  · rename_i n plan hty
    rw [hty] at ht
    obtain ⟨k, e, i, hu, hi, hplan, hgd, rfl, hck⟩ := ht
    split at h
    · rename_i xs ys
      split at h
      · rename_i hn
        have hagg : isAggT P t = true := isAggT_of hu
        rw [Option.bind_eq_some_iff] at h
        obtain ⟨r, hr, h⟩ := h
        cases ha with
        | agg ha1 ha2 =>
          cases hb with
          | agg hb1 hb2 =>
            rename_i cs ds
            have he : (Op.equalIn 10000 t (.agg cs) (.agg ds)).run P w = .ok r w := by
              rw [run_equalIn_array w 9999 cs ds hu hi]
              exact eqItems_sound (P := P) (w := w) (xs := xs) (ys := ys) (c := P.cellsOf e) (k := k) (fun off plan' hp' => by
                obtain ⟨g1, g2, g3⟩ := eqPlan_sound (P := P) ⟨ha1, ha2⟩ ⟨hb1, hb2⟩ 20 e off plan' hp'
                exact ⟨g1, g2, fun x y b hx hy hb => g3 x y b hx hy hb 9979⟩) rfl (by omega) (by omega) (List.range k) plan r (fun j hj => List.mem_range.mp hj) hplan hr
            obtain ⟨v, h1, h2⟩ := eql_run (P := P) (H := H) (β := β) (F := F) (w := w) (t := t) (a := .agg cs) (b := .agg ds) h he (by simp) (by simp) (by simp) (by simp)
            exact ⟨v, bind_run (run_eqGuard_agg w op t ox oy cs ds hgd) h1, h2⟩
      · cases h
    · cases h
  · rename_i hty
    rw [hty] at ht
    rw [Option.bind_eq_some_iff] at h
    obtain ⟨r, hr, h⟩ := h
    obtain ⟨e, k1, k2, k3, k4, k5, k6⟩ := nilEq_sound (P := P) (t := t) hr ha hb (.inl ⟨rfl, ht⟩)
    obtain ⟨v, h1, h2⟩ := eql_run (P := P) (H := H) (β := β) (F := F) (w := w) (t := t) h (e 9999) k1 k2 k3 k4
    exact ⟨v, bind_run (eqGuard_idle ⟨k6, fun x y e => k5 x e.1⟩) h1, h2⟩
  · rename_i hty
    rw [hty] at ht
    rw [Option.bind_eq_some_iff] at h
    obtain ⟨r, hr, h⟩ := h
    obtain ⟨e, k1, k2, k3, k4, k5, k6⟩ := nilEq_sound (P := P) (t := t) hr ha hb (.inr (.inl ⟨rfl, ht⟩))
    obtain ⟨v, h1, h2⟩ := eql_run (P := P) (H := H) (β := β) (F := F) (w := w) (t := t) h (e 9999) k1 k2 k3 k4
    exact ⟨v, bind_run (eqGuard_idle ⟨k6, fun x y e => k5 x e.1⟩) h1, h2⟩
  · rename_i hty
    rw [hty] at ht
    rw [Option.bind_eq_some_iff] at h
    obtain ⟨r, hr, h⟩ := h
    obtain ⟨e, k1, k2, k3, k4, k5, k6⟩ := nilEq_sound (P := P) (t := t) hr ha hb (.inr (.inr (.inl ⟨rfl, ht⟩)))
    obtain ⟨v, h1, h2⟩ := eql_run (P := P) (H := H) (β := β) (F := F) (w := w) (t := t) h (e 9999) k1 k2 k3 k4
    exact ⟨v, bind_run (eqGuard_idle ⟨k6, fun x y e => k5 x e.1⟩) h1, h2⟩
  · rename_i hty
    rw [hty] at ht
    rw [Option.bind_eq_some_iff] at h
    obtain ⟨r, hr, h⟩ := h
    obtain ⟨e, k1, k2, k3, k4, k5, k6⟩ := nilEq_sound (P := P) (t := t) hr ha hb (.inr (.inr (.inr (.inl ⟨rfl, ht⟩))))
    obtain ⟨v, h1, h2⟩ := eql_run (P := P) (H := H) (β := β) (F := F) (w := w) (t := t) h (e 9999) k1 k2 k3 k4
    exact ⟨v, bind_run (eqGuard_idle ⟨k6, fun x y e => k5 x e.1⟩) h1, h2⟩
  · rename_i hty
    rw [hty] at ht
    split at h
    · rename_i hr
      obtain ⟨e, k1, k2, k3, k4, k5, k6⟩ := nilEq_sound (P := P) (t := t) hr ha hb (.inr (.inr (.inr (.inr ⟨rfl, rfl, ht⟩))))
      obtain ⟨v, h1, h2⟩ := eql_run (P := P) (H := H) (β := β) (F := F) (w := w) (t := t) h (e 9999) k1 k2 k3 k4
      exact ⟨v, bind_run (eqGuard_idle ⟨k6, fun x y e => k5 x e.1⟩) h1, h2⟩
    · cases h
  · cases h

end
end Go.AM
