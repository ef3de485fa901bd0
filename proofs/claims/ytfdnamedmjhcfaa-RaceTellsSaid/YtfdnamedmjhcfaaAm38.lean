/-
Steps through slices.Backward's function: what its contract is shown with.
-/
import Derived.Test.YtfdnamedmjhcfaaAm18
import Derived.CallsIn
set_option linter.unusedVariables false
set_option linter.unusedSectionVars false
set_option linter.unusedSimpArgs false
namespace Go.AM

theorem getD_put (a : Act) {d : Nat} (v : Value) (t : Nat) (h : d < a.tmps.size) : (a.put (some d) v).tmps.getD t undef = if t = d then v else a.tmps.getD t undef := by
  by_cases e : t = d
  · subst e
    simp [Act.put, Array.getD, h]
  · rw [if_neg e]
    simp only [Act.put, Array.getD_eq_getD_getElem?]
    rw [Array.getElem?_setIfInBounds_ne (Ne.symm e)]

section
variable {P : Program} {ops : Array Oper} {Q : Exit → Act → World → Prop} {i : Nat} {rest : List Nat} {a : Act} {w : World} {o : Oper}

theorem put_facts (a : Act) {d : Nat} (v : Value) (h : d < a.tmps.size) : (a.put (some d) v).tmps.size = a.tmps.size ∧ (a.put (some d) v).defers = a.defers ∧ (a.put (some d) v).eval (.tmp d) = v ∧ ∀ t, t ≠ d → (a.put (some d) v).eval (.tmp t) = a.eval (.tmp t) := by
  refine ⟨size_put .., defers_put .., ?_, fun t ht => ?_⟩
  · show (a.put (some d) v).tmps.getD d undef = v
    rw [getD_put a v d h, if_pos rfl]
  · show (a.put (some d) v).tmps.getD t undef = a.tmps.getD t undef
    rw [getD_put a v t h, if_neg ht]

theorem stepV {v : Value} {d n : Nat} (ho : ops[i]? = some o) (hg : o.guard = none) (hd : notDefer o = true) (hds : o.dst = some d) (hn : a.tmps.size = n) (hdn : d < n) (he : (execOp a.eval o).run P w = .ok (.value v) w)
    (h : ∀ a' : Act, a'.tmps.size = n → a'.defers = a.defers → a'.eval (.tmp d) = v → (∀ t, t ≠ d → a'.eval (.tmp t) = a.eval (.tmp t)) → wpOpsIn (FR none) 0 P ops Q rest a' w) : wpOpsIn (FR none) 0 P ops Q (i :: rest) a w := by
  simp only [wpOpsIn, ho]
  rw [if_pos (by simp [Region.wanted, hg])]
  refine wpIn_of hd ?_
  rw [he]
  show wpOpsIn (FR none) 0 P ops Q rest (a.put o.dst v) w
  rw [hds]
  obtain ⟨q1, q2, q3, q4⟩ := put_facts a v (hn ▸ hdn)
  exact h _ (q1.trans hn) q2 q3 q4

theorem exec_load {t : TypeId} {x : Operand} {u v : Value} (hop : o.op = .load t x) (hx : a.eval x = u) (h : (Instr.loadAt t u).run P w = .ok v w) : (execOp a.eval o).run P w = .ok (.value v) w := by
  have : execOp a.eval o = (do pure (Next.value (← Instr.loadAt t (a.eval x)))) := by simp only [execOp, hop]
  rw [this, hx, Sem.run_bind, h]
  rfl
theorem exec_index {t : TypeId} {x y : Operand} {u1 u2 v : Value} (hop : o.op = .indexAddr t x y) (hx : a.eval x = u1) (hy : a.eval y = u2) (h : (Instr.indexAt t u1 u2).run P w = .ok v w) : (execOp a.eval o).run P w = .ok (.value v) w := by
  have : execOp a.eval o = (do pure (Next.value (← Instr.indexAt t (a.eval x) (a.eval y)))) := by simp only [execOp, hop]
  rw [this, hx, hy, Sem.run_bind, h]
  rfl
theorem exec_move {x : Operand} {v : Value} (hop : o.op = .move x) (hx : a.eval x = v) : (execOp a.eval o).run P w = .ok (.value v) w := by
  have : execOp a.eval o = pure (Next.value (a.eval x)) := by simp only [execOp, hop]
  rw [this, hx]
  rfl
theorem exec_assign {x : Operand} {v : Value} (hop : o.op = .assign x) (hx : a.eval x = v) : (execOp a.eval o).run P w = .ok (.value v) w := by
  have : execOp a.eval o = pure (Next.value (a.eval x)) := by simp only [execOp, hop]
  rw [this, hx]
  rfl
theorem exec_bin {p : BinOp} {t t' : TypeId} {x y : Operand} {u1 u2 v : Value} (hop : o.op = .binOp p t x y t') (hx : a.eval x = u1) (hy : a.eval y = u2) (h1 : leafyV u1 = true) (h2 : leafyV u2 = true) (h : bin p (tyOf P t) (.p (.v u1)) (.p (.v u2)) = some (.p (.v v))) : (execOp a.eval o).run P w = .ok (.value v) w := by
  obtain ⟨r, r1, r2⟩ := bin_sound (P := P) (H := []) (β := fun _ => none) (F := fun _ _ => False) (w := w) h (.p (.v h1)) (.p (.v h2)) x y
  rw [r2.v_inv.1] at r1
  have : execOp a.eval o = (do pure (Next.value (← (do eqGuard p t x y (a.eval x) (a.eval y); binOp p t (a.eval x) (a.eval y) : Sem Value)))) := by simp only [execOp, hop]
  rw [this, hx, hy, Sem.run_bind, r1]
  rfl
theorem exec_len {c : Call} {x : Operand} {t : TypeId} {u v : Value} (hop : o.op = .call c) (hc : c.callee = .builtin .len) (hx : c.args = #[x]) (ht : c.argTypes = #[t]) (hu : a.eval x = u) (h : ∀ ty, (Builtin.len_ #[t] ty #[u]).run P w = .ok v w) : (execOp a.eval o).run P w = .ok (.value v) w := by
  have he : ∀ (z : Sem Value), builtin .len c.argTypes o.type (c.args.map fun | .const _ => true | _ => false) (c.args.map a.eval) = (do pure (Next.value (← z))) → execOp a.eval o = (do pure (Next.value (← z))) := by
    intro z hz
    simp only [execOp, hop, resolve, hc, pure_bind, invoke]
    exact hz
  have e1 : (#[x] : Array Operand).map a.eval = #[u] := by rw [← hu]; simp
  rw [he _ rfl, Sem.run_bind, hx, ht, e1, h]
  rfl
theorem exec_not {t : TypeId} {x : Operand} {b : Bool} (hop : o.op = .unOp .not t x) (hx : a.eval x = .bool b) : (execOp a.eval o).run P w = .ok (.value (.bool !b)) w := by
  obtain ⟨r, r1, r2⟩ := un_sound (P := P) (H := []) (β := fun _ => none) (F := fun _ _ => False) (w := w) (op := .not) (A := B b) (C := B !b) (va := .bool b) (_root_.id rfl) (.p (.v rfl))
  rw [r2.v_inv.1] at r1
  have : execOp a.eval o = (do pure (Next.value (← Op.unary .not (a.eval x)))) := by simp only [execOp, hop]
  rw [this, hx, Sem.run_bind, r1]
  rfl

theorem stepY {l d n : Nat} {c : Call} {f : Operand} {args : Array Value} {R : Ending → World → Prop} (ho : ops[i]? = some o) (hg : o.guard = none) (hop : o.op = .call c) (hc : c.callee = .value f) (hds : o.dst = some d) (hn : a.tmps.size = n) (hdn : d < n) (hf : a.eval f = .func (.yield l) #[] #[])
    (ha : c.args.map a.eval = args) (hy : YieldAt (FR none) 0 P l args w R) (h : ∀ e w', R e w' → ∃ v, e = .returned v ∧ ∀ a' : Act, a'.tmps.size = n → a'.defers = a.defers → a'.eval (.tmp d) = v → (∀ t, t ≠ d → a'.eval (.tmp t) = a.eval (.tmp t)) → wpOpsIn (FR none) 0 P ops Q rest a' w') :
    wpOpsIn (FR none) 0 P ops Q (i :: rest) a w := by
  obtain ⟨fn, tmps, assign, body, h1, h2⟩ := hy
  simp only [wpOpsIn, ho]
  rw [if_pos (by simp [Region.wanted, hg])]
  refine wpIn_of (by unfold notDefer; rw [hop]) ?_
  have he : (execOp a.eval o).run P w = .ok (.round l fn tmps assign body) w := by
    have : execOp a.eval o = (do let d ← resolve a.eval c o.type; invoke d.target d.args) := by simp only [execOp, hop]
    rw [this]
    simp only [resolve, hc, hf, Deferred.ofValue, Sem.run_bind, Sem.run_pure, Result.andThen_ok, invoke]
    rw [ha]
    simpa using h1
  rw [he, Oper.uponIn_round]
  refine ⟨fun h => (by simp [FR, Fence.wide] at h), h2.mono fun e w' hr => ?_⟩
  obtain ⟨v, rfl, hv⟩ := h e w' hr
  rw [hds]
  obtain ⟨q1, q2, q3, q4⟩ := put_facts a v (hn ▸ hdn)
  exact hv _ (q1.trans hn) q2 q3 q4
theorem map_two {ρ : Operand → Value} {x y : Operand} {u v : Value} (hx : ρ x = u) (hy : ρ y = v) : (#[x, y] : Array Operand).map ρ = #[u, v] := by rw [← hx, ← hy]; simp
end

theorem results_no {P : Program} {fn : Func} {tmps : Array Value} {w : World} (h : fn.results = #[]) : (results fn tmps).run P w = .ok (.tuple #[]) w := by
  have := results_run (P := P) (fn := fn) (tmps := tmps) (w := w) (vs := []) (by rw [h]; simp)
  simpa using this

theorem act_args (y p : Value) {n : Nat} (h : 2 ≤ n) : ∃ a0 : Act, a0 = { tmps := #[y] ++ #[p] ++ Array.replicate (n - (#[y] ++ #[p]).size) undef, defers := [] } ∧ a0.tmps.size = n ∧ a0.defers = [] ∧ a0.eval (.tmp 0) = y ∧ a0.eval (.tmp 1) = p := by
  refine ⟨_, rfl, ?_, rfl, ?_, ?_⟩
  · simp; omega
  · simp [Act.eval, Array.getD_eq_getD_getElem?, Array.getElem?_append]
  · simp [Act.eval, Array.getD_eq_getD_getElem?, Array.getElem?_append]

/-- Where the function stands: what it calls, where the list lies, which place. -/
def bkMu (a : Act) : Nat := match a.eval (.tmp 3) with | .int _ k => (k + 1).toNat | _ => 0
theorem bkMu_eq {a : Act} {k : Int} (h : a.eval (.tmp 3) = .int .i64 k) : bkMu a = (k + 1).toNat := by unfold bkMu; rw [h]
structure Bk (n : Nat) (y p : Value) (k : Int) (a : Act) : Prop where
  sz : a.tmps.size = n
  df : a.defers = []
  h0 : a.eval (.tmp 0) = y
  h1 : a.eval (.tmp 1) = p
  h3 : a.eval (.tmp 3) = .int .i64 k

theorem wrap_down {k : Int} (hk : 0 ≤ k) : IntKind.i64.wrap (k - 1) + 1 ≤ k := by
  by_cases h : k < 9223372036854775808
  · rw [wrap_id (by omega)]; omega
  · have : IntKind.i64.wrap (k - 1) < 9223372036854775808 := by
      simp only [IntKind.wrap, IntKind.bits, IntKind.signed]
      simp
      omega
    omega

theorem look_mem {α : Type} {k : Nat} : ∀ {l : List (Nat × α)} {x : α}, AM.look k l = some x → (k, x) ∈ l := by
  intro l
  induction l with
  | nil => intro x h; cases h
  | cons p l ih =>
    intro x h
    obtain ⟨i, y⟩ := p
    simp only [AM.look] at h
    cases e : Nat.beq i k with
    | true =>
      rw [e] at h
      have h : some y = some x := h
      cases h
      rw [Nat.eq_of_beq_eq_true e]
      exact List.mem_cons_self ..
    | false =>
      rw [e] at h
      exact List.mem_cons_of_mem _ (ih h)

end Go.AM
