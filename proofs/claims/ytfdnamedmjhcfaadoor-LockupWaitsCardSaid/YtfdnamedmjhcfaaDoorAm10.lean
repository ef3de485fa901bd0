/-
One operation of the program, by the abstract machine.
-/
import Derived.Test.YtfdnamedmjhcfaaDoorAm9b
import Derived.OrdersIn
import Derived.RangeFuncOwn
set_option linter.unusedVariables false
set_option linter.unusedSimpArgs false
set_option linter.unnecessarySimpa false
set_option linter.unusedSectionVars false
namespace Go.AM
variable [Know]

/-- No fence: frames of functions, and of rounds. -/
def FR (ro : Option Nat) : Fence := { Fence.wide with round := ro }

theorem wpIn_of {P : Program} {ro : Option Nat} {o : Oper} {a : Act} {w : World} {next : Act → World → Prop} {Q : Exit → Act → World → Prop} (hd : notDefer o = true)
    (h : o.uponIn (FR ro) 0 P a next Q ((execOp a.eval o).run P w)) : o.wpIn (FR ro) 0 P a w next Q := by
  refine ⟨fun _ _ => trivial, ?_⟩
  rw [Oper.semAt_eq]
  · exact h
  · intro c hc
    unfold notDefer at hd
    rw [hc] at hd
    cases hd

theorem callsFR {P : Program} {ro : Option Nat} {n : Nat} {f : FuncId} {args : Array Value} {w : World} {R : Ending → World → Prop} (h : Calls P f args w R) : CallsIn (FR ro) n P f args w R := by
  have := (callsIn_wide (n := n)).2 h
  exact this

/-- What an operation's outcome gives. -/
def Out.gets (out : Out) (H : Heap) (x : AV) (H' : Heap) : Prop :=
  match out with
  | .val y => x = y ∧ H' = H
  | .opt y => y = some x ∧ H' = H
  | .heap y => y = some (x, H')
  | .no => False

/-- An operation comes to a value over a heap, wherever it goes on. -/
def OpDoes (P : Program) (H : Heap) (β : Beta) (F : Frz) (o : Oper) (a : Act) (w : World) (x : AV) (H' : Heap) : Prop :=
  ∀ (next : Act → World → Prop) (Q : Exit → Act → World → Prop),
    (∀ v w' β' F', RA H' β' F' w' v x → Inv H' β' F' w' → Ext H β F w H' β' F' w' → next (a.put o.dst v) w') → ∀ ro, notDefer o = true → o.wpIn (FR ro) 0 P a w next Q

section
variable {P : Program} {H : Heap} {β : Beta} {F : Frz} {w : World}

theorem OpDoes.of_runs {o : Oper} {a : Act} {s : Sem Value} {x : AV} {H' : Heap} (he : execOp a.eval o = (do pure (Next.value (← s)))) (h : Runs P H β F w s x H') : OpDoes P H β F o a w x H' := by
  intro next Q hn ro hnd
  obtain ⟨r, w', β', F', hr, h1, h2, h3⟩ := h
  refine wpIn_of hnd ?_
  rw [he, Sem.run_bind, hr]
  exact hn r w' β' F' h1 h2 h3

theorem OpDoes.of_same {o : Oper} {a : Act} {s : Sem Value} {x : AV} (hI : Inv H β F w) (he : execOp a.eval o = (do pure (Next.value (← s)))) (h : ∃ r, s.run P w = .ok r w ∧ RA H β F w r x) : OpDoes P H β F o a w x H :=
  let ⟨r, h1, h2⟩ := h
  .of_runs he (.of_same hI h1 h2)

theorem okT_inv {t : TypeId} (h : okT P t = true) : ∃ d, P.underlying t = some d := Option.isSome_iff_exists.mp h

theorem arrOf_inv {t e : TypeId} {n : Nat} (h : arrOf P t = some (n, e)) : P.underlying t = some (.array n e) := by
  unfold arrOf at h
  split at h
  · rename_i hu; cases h; exact hu
  · cases h

theorem sliceElem_inv {t e : TypeId} (h : sliceElem P t = some e) : P.underlying t = some (.slice e) := by
  unfold sliceElem at h
  split at h
  · cases h; assumption
  · cases h

theorem ev_list {a : Act} {s : Slots} (hs : RS H β F w a s) (l : List Operand) : RAs H β F w (l.map a.eval) (l.map (ev s)) := by
  induction l with
  | nil => exact .nil
  | cons x l ih => exact .cons (ev_sound hs x) ih

theorem ev_opt {a : Act} {s : Slots} (hs : RS H β F w a s) (x : Option Operand) : OptRA H β F w (x.map a.eval) (x.map (ev s)) := by
  cases x with
  | none => trivial
  | some x => exact ev_sound hs x

theorem call_run {o : Oper} {a : Act} {c : Call} {f : Operand} {g : FuncId} {fs cs : Array Value} (hop : o.op = .call c) (hc : c.callee = .value f) (hf : a.eval f = .func (.func g) fs cs)
    (hfn : ∃ fn, P.funcs[g]? = some fn ∧ fn.body.isSome = true ∧ (fn.name == "runtime.NumGoroutine") = false) : (execOp a.eval o).run P w = .ok (.enter g (fs ++ c.args.map a.eval ++ cs)) w := by
  obtain ⟨fn, h1, h2, h3⟩ := hfn
  have h2' : fn.body.isNone = false := by
    cases hb : fn.body with
    | none => rw [hb] at h2; cases h2
    | some b => rfl
  simp only [execOp, hop, resolve, hc, hf, Deferred.ofValue, Sem.run_bind, Sem.run_pure, Result.andThen_ok, invoke, callFunc, run_program, h1, h3, h2', Bool.false_eq_true, if_false]

theorem OpDoes.of_calls {o : Oper} {a : Act} {x : AV} {H' : Heap} {g : FuncId} {vs : Array Value} (he : (execOp a.eval o).run P w = .ok (.enter g vs) w)
    (h : Calls P g vs w (fun e w' => ∃ v β' F', e = .returned v ∧ RA H' β' F' w' v x ∧ Inv H' β' F' w' ∧ Ext H β F w H' β' F' w')) : OpDoes P H β F o a w x H' := by
  intro next Q hn ro hnd
  refine wpIn_of hnd ?_
  rw [he, Oper.uponIn_enter]
  refine ⟨fun h => (by simp [FR, Fence.wide] at h), callsFR (h.mono fun e w' hr => ?_)⟩
  obtain ⟨v, β', F', rfl, h1, h2, h3⟩ := hr
  exact hn v w' β' F' h1 h2 h3

theorem call_prim {o : Oper} {a : Act} {c : Call} {f : Operand} {g : FuncId} {fs cs : Array Value} {v : Value} (hop : o.op = .call c) (hc : c.callee = .value f) (hf : a.eval f = .func (.func g) fs cs)
    (he : (callFunc g (fs ++ c.args.map a.eval ++ cs)).run P w = .ok (.value v) w) : (execOp a.eval o).run P w = .ok (.value v) w := by
  simp only [execOp, hop, resolve, hc, hf, Deferred.ofValue, Sem.run_bind, Sem.run_pure, Result.andThen_ok, invoke, he]

/-- A call comes to a value. -/
theorem OpDoes.of_callOk {o : Oper} {a : Act} {c : Call} {f : Operand} {g : FuncId} {fs cs : Array Value} {x : AV} {H' : Heap} (hop : o.op = .call c) (hc : c.callee = .value f) (hf : a.eval f = .func (.func g) fs cs)
    (h : CallOk P g (fs ++ c.args.map a.eval ++ cs) w (fun v w' => ∃ β' F', RA H' β' F' w' v x ∧ Inv H' β' F' w' ∧ Ext H β F w H' β' F' w')) : OpDoes P H β F o a w x H' := by
  rcases h with ⟨h1, h2⟩ | ⟨v, h1, ⟨β', F', h2, h3, h4⟩, _⟩
  · exact .of_calls (call_run hop hc hf h1) (h2.mono fun e w' ⟨v, e1, β', F', e2⟩ => ⟨v, β', F', e1, e2⟩)
  · intro next Q hn ro hnd
    refine wpIn_of hnd ?_
    rw [call_prim hop hc hf h1]
    exact hn v w β' F' h2 h3 h4

theorem inOrder_inv : ∀ (l : List (Nat × Operand)) (j : Nat) (ρ : Operand → Value), inOrder j l = true → inOrd j (l.map fun p => (p.1, ρ p.2)) := by
  intro l
  induction l with
  | nil => intro j ρ _; trivial
  | cons p l ih =>
    intro j ρ h
    obtain ⟨i, x⟩ := p
    simp only [inOrder, Bool.and_eq_true] at h
    exact ⟨Nat.eq_of_beq_eq_true h.1, ih _ _ h.2⟩

theorem pvCells_toPVs {H : Heap} : ∀ (l : List AV) (cs : List PV), pvCells l = some cs → toPVs H l = some (cs, H) := by
  intro l
  induction l with
  | nil => intro cs h; cases h; rfl
  | cons x l ih =>
    intro cs h
    cases x with
    | p y =>
      simp only [pvCells, Option.map_eq_some_iff] at h
      obtain ⟨r, h1, rfl⟩ := h
      simp [toPVs, toPV, ih _ h1]
    | _ => cases h

theorem litP_litA {sz : Nat} {ps : List AV} {H H' : Heap} {x : AV} (h : litP sz ps = some x) (e : H' = H) : litA false sz ps H = some (x, H') := by
  unfold litP at h
  split at h
  · rename_i hc
    simp only [Option.map_eq_some_iff] at h
    obtain ⟨cs, h1, rfl⟩ := h
    simp [litA, hc, pvCells_toPVs _ _ h1, e]
  · cases h

theorem append_types {ts : Array TypeId} {t0 t1 ty : TypeId} {args : Array Value} (h0 : ts[0]? = some t0) (h1 : ts[1]? = some t1) : Builtin.append_ ts ty args = Builtin.append_ #[t0, t1] ty args := by
  unfold Builtin.append_
  rw [h0, h1]
  rfl

theorem app_types {ts : Array TypeId} {t0 t1 ty : TypeId} {args : Array Value} {C : AV} {H' : Heap} (h0 : ts[0]? = some t0) (h1 : ts[1]? = some t1) (h : Runs P H β F w (Builtin.append_ #[t0, t1] ty args) C H') : Runs P H β F w (Builtin.append_ ts ty args) C H' := by
  rw [append_types h0 h1]
  exact h

set_option maxHeartbeats 1000000 in
theorem exec1_sound {cfg : Cfg} {O : Oracle} (hO : EntOk P O) (hI : Inv H β F w) {a : Act} {s : Slots} (hs : RS H β F w a s) {f : FuncId} {lo : List Nat} (hlo : LowAll lo H) {o : Oper} {x : AV} {H' : Heap}
    (h : (exec1 P cfg O f lo o s H).gets H x H') : OpDoes P H β F o a w x H' ∧ LowAll lo H' := by
  unfold exec1 at h
  cases hop : o.op with
  | move y =>
    rw [hop] at h
    obtain ⟨rfl, rfl⟩ := h
    exact ⟨.of_same (s := pure (a.eval y)) hI (by simp [execOp, hop]) ⟨_, rfl, ev_sound hs y⟩, hlo⟩
  | assign y =>
    rw [hop] at h
    obtain ⟨rfl, rfl⟩ := h
    exact ⟨.of_same (s := pure (a.eval y)) hI (by simp [execOp, hop]) ⟨_, rfl, ev_sound hs y⟩, hlo⟩
  | pick c y z =>
    rw [hop] at h
    obtain ⟨h, rfl⟩ := h
    exact ⟨.of_same hI (s := do pure (if ← asBool (a.eval c) then a.eval y else a.eval z)) (by simp [execOp, hop]) (pick_sound h (ev_sound hs c) (ev_sound hs y) (ev_sound hs z)), hlo⟩
  | binOp op t y z t' =>
    rw [hop] at h
    obtain ⟨h, rfl⟩ := h
    exact ⟨.of_same hI (by simp only [execOp, hop]) (bin_sound h (ev_sound hs y) (ev_sound hs z) y z), hlo⟩
  | unOp op t y =>
    rw [hop] at h
    obtain ⟨h, rfl⟩ := h
    exact ⟨.of_same hI (by simp only [execOp, hop]) (un_sound h (ev_sound hs y)), hlo⟩
  | convert b c y =>
    rw [hop] at h
    obtain ⟨h, rfl⟩ := h
    exact ⟨.of_runs (by simp only [execOp, hop]) (conv_sound hI h (ev_sound hs y)), hlo⟩
  | extract t j =>
    rw [hop] at h
    obtain ⟨h, rfl⟩ := h
    exact ⟨.of_same hI (by simp only [execOp, hop]) (extract_sound h (ev_sound hs t)), hlo⟩
  | nilCheck y =>
    rw [hop] at h
    obtain ⟨h, rfl⟩ := h
    obtain ⟨rfl, hv⟩ := nilCheck_sound h (ev_sound hs y)
    refine ⟨.of_same hI (s := pure (a.eval y)) ?_ ⟨_, rfl, ev_sound hs y⟩, hlo⟩
    rcases hv with ⟨b, hv⟩ | ⟨g, p, q, hv⟩ <;> simp [execOp, hop, hv]
  | makeFunc fn first cap =>
    rw [hop] at h
    cases fn with
    | func g =>
      obtain ⟨rfl, rfl⟩ := h
      refine ⟨.of_same hI (s := Instr.makeFunc (.func g) (first.map a.eval) (cap.map a.eval)) (by simp only [execOp, hop]) ⟨.func (.func g) (first.map a.eval) (cap.map a.eval), rfl, ?_⟩, hlo⟩
      have r1 := (ev_list hs first.toList)
      have r2 := (ev_list hs cap.toList)
      rw [← Array.toList_map] at r1 r2
      exact .fn r1.row.1 r2.row.1 r1.row.2 r2.row.2
    | _ => exact h.elim
  | makeInterface t y =>
    rw [hop] at h
    simp only at h
    cases ht : P.underlying t with
    | none => rw [ht] at h; exact h.elim
    | some d =>
      rw [ht] at h
      have hy := ev_sound (x := y) hs
      generalize ev s y = ay at h hy
      by_cases hif : ∃ m, d = .interface m
      · obtain ⟨m, rfl⟩ := hif
        exact h.elim
      · cases ay with
        | p z =>
          cases z with
          | v v =>
            cases d <;> first | exact (hif ⟨_, rfl⟩).elim | skip
            all_goals
              obtain ⟨rfl, rfl⟩ := h
              exact ⟨.of_same hI (s := Instr.makeInterface t (a.eval y)) (by simp only [execOp, hop]) ⟨.iface t v, by rw [hy.v_inv.1]; simp [Instr.makeInterface, run_underlying ht], .of_leafy rfl⟩, hlo⟩
          | sl => cases d <;> exact h.elim
        | _ => cases d <;> exact h.elim
  | field t y j =>
    rw [hop] at h
    simp only at h
    split at h
    · rename_i fields ht
      split at h
      · rename_i fd hfd
        split at h
        · rename_i hok
          obtain ⟨h, rfl⟩ := h
          obtain ⟨d, hd⟩ := okT_inv hok
          exact ⟨.of_same hI (by simp only [execOp, hop]) (field_sound ht hfd hd h (ev_sound hs y)), hlo⟩
        · exact h.elim
      · exact h.elim
    · exact h.elim
  | build t parts =>
    rw [hop] at h
    simp only at h
    split at h
    · rename_i fields z ht hz
      split at h
      · rename_i hc
        rw [Bool.and_eq_true] at hc
        split at h
        · rename_i q hq
          obtain ⟨h, rfl⟩ := h
          exact ⟨.of_same hI (by simp only [execOp, hop]) (build_sound hI hs ht hz hc.1 hc.2 hq h), hlo⟩
        · exact h.elim
      · exact h.elim
    · rename_i n e z ht hz
      split at h
      · rename_i hc
        rw [Bool.and_eq_true] at hc
        obtain ⟨h, rfl⟩ := h
        obtain ⟨d, hd⟩ := okT_inv hc.1
        exact ⟨.of_same hI (by simp only [execOp, hop]) (buildArr_sound hI hs ht hd hz hc.2 h), hlo⟩
      · exact h.elim
    · exact h.elim
  | load t y =>
    rw [hop] at h
    simp only at h
    split at h
    · rename_i hok
      obtain ⟨h, rfl⟩ := h
      obtain ⟨d, hd⟩ := okT_inv hok
      exact ⟨.of_same hI (by simp only [execOp, hop]) (ld_sound hI hd (ldB_ld h) (ev_sound hs y)), hlo⟩
    · exact h.elim
  | store t y z =>
    rw [hop] at h
    simp only at h
    split at h
    · rename_i hok
      obtain ⟨d, hd⟩ := okT_inv hok
      simp only [Out.gets, Option.map_eq_some_iff] at h
      obtain ⟨H1, h1, h⟩ := h
      cases h
      refine ⟨?_, stA_low hlo h1⟩
      have hy := ev_sound (x := y) hs
      have hz := ev_sound (x := z) hs
      have key : ∃ w' β' F', (Instr.storeAt t (a.eval y) (a.eval z)).run P w = .ok () w' ∧ Inv H' β' F' w' ∧ Ext H β F w H' β' F' w' := by
        generalize ev s y = p at h1 hy
        cases p with
        | ptr id off => exact stA_box_sound hI hd h1 hy hz
        | rptr id g off => exact stA_row_sound hI hd h1 hy hz
        | _ => simp [stA] at h1
      obtain ⟨w', β', F', r1, r2, r3⟩ := key
      intro next Q hn ro hnd
      refine wpIn_of hnd ?_
      have he : execOp a.eval o = (do Instr.storeAt t (a.eval y) (a.eval z); pure Next.skip) := by simp only [execOp, hop]
      rw [he, Sem.run_bind, r1]
      exact hn undef w' β' F' (.tup rfl fun i hi => by simp at hi) r2 r3
    · exact h.elim
  | fieldAddr t y j =>
    rw [hop] at h
    simp only at h
    split at h
    · rename_i fields ht
      split at h
      · rename_i fd hfd
        split at h
        · rename_i hok
          rw [Bool.and_eq_true] at hok
          obtain ⟨h, rfl⟩ := h
          obtain ⟨d, hd⟩ := okT_inv hok.1
          have hz : P.cellsOf fd.type ≠ 0 := fun e => by have := hok.2; rw [e] at this; cases this
          exact ⟨.of_same hI (by simp only [execOp, hop]) (fld_sound ht hfd hd hz h (ev_sound hs y)), hlo⟩
        · exact h.elim
      · exact h.elim
    · exact h.elim
  | indexAddr t y i =>
    rw [hop] at h
    simp only at h
    split at h
    · rename_i e he
      split at h
      · rename_i hok
        obtain ⟨h, rfl⟩ := h
        obtain ⟨d, hd⟩ := okT_inv hok
        exact ⟨.of_same hI (by simp only [execOp, hop]) (idx_sound (sliceElem_inv he) hd h (ev_sound hs y) (ev_sound hs i)), hlo⟩
      · exact h.elim
    · split at h
      · rename_i q hq
        split at h
        · rename_i hok
          obtain ⟨h, rfl⟩ := h
          obtain ⟨d, hd⟩ := okT_inv hok
          obtain ⟨n, e⟩ := q
          exact ⟨.of_same hI (by simp only [execOp, hop]) (idxArr_sound (arrOf_inv hq) hd h (ev_sound hs y) (ev_sound hs i)), hlo⟩
        · exact h.elim
      · exact h.elim
  | index t y i =>
    rw [hop] at h
    simp only at h
    split at h
    · rename_i hty
      obtain ⟨h, rfl⟩ := h
      have ht := tyOf_cases (P := P) t
      rw [hty] at ht
      exact ⟨.of_same hI (by simp only [execOp, hop]) (strAt_sound ht h (ev_sound hs y) (ev_sound hs i)), hlo⟩
    · split at h
      · rename_i q hq
        split at h
        · rename_i hok
          obtain ⟨h, rfl⟩ := h
          obtain ⟨d, hd⟩ := okT_inv hok
          obtain ⟨n, e⟩ := q
          exact ⟨.of_same hI (by simp only [execOp, hop]) (arrAt_sound (arrOf_inv hq) hd h (ev_sound hs y) (ev_sound hs i)), hlo⟩
        · exact h.elim
      · exact h.elim
  | slice t y l k m =>
    rw [hop] at h
    simp only at h
    split at h
    · rename_i e he
      split at h
      · rename_i hok
        obtain ⟨h, rfl⟩ := h
        obtain ⟨d, hd⟩ := okT_inv hok
        exact ⟨.of_same hI (by simp only [execOp, hop]) (cutA_sound (sliceElem_inv he) hd h (ev_sound hs y) (ev_opt hs l) (ev_opt hs k) (ev_opt hs _)), hlo⟩
      · exact h.elim
    · rename_i hty
      obtain ⟨h, rfl⟩ := h
      have ht := tyOf_cases (P := P) t
      rw [hty] at ht
      exact ⟨.of_same hI (by simp only [execOp, hop, Option.map_none]) (cutStr_sound ht h (ev_sound hs y) (ev_opt hs l) (ev_opt hs k)), hlo⟩
    · split at h
      · rename_i q hq
        split at h
        · rename_i hok
          obtain ⟨h, rfl⟩ := h
          obtain ⟨d, hd⟩ := okT_inv hok
          obtain ⟨n, e⟩ := q
          exact ⟨.of_same hI (by simp only [execOp, hop, Option.map_none]) (cutArr_sound hI (arrOf_inv hq) hd h (ev_sound hs y) (ev_opt hs l) (ev_opt hs k)), hlo⟩
        · exact h.elim
      · exact h.elim
    · exact h.elim
  | alloc t =>
    rw [hop] at h
    simp only at h
    split at h
    · rename_i z hz
      split at h
      · rename_i q hq
        split at h
        · rename_i cs hc
          simp only [Out.gets, Option.some.injEq] at h
          have := allocArr_sound (P := P) (sz := P.cellsOf q.2) hI hz hc
          rw [h] at this
          refine ⟨.of_runs (by simp only [execOp, hop]) this, ?_⟩
          have e : H' = H ++ [.row 0 (P.cellsOf q.2) cs] := by
            have := congrArg Prod.snd h
            exact this.symm
          rw [e]
          exact hlo.push _
        · exact h.elim
      · split at h
        · exact ⟨.of_runs (by simp only [execOp, hop]) (fillA_sound hI hz h), fillA_low hlo h⟩
        · exact ⟨.of_runs (by simp only [execOp, hop]) (alloc_sound hI hz h), boxO_low hlo h⟩
    · exact h.elim
  | box t y =>
    rw [hop] at h
    simp only [Out.gets] at h
    exact ⟨.of_runs (by simp only [execOp, hop]) (box_sound (e := t) hI h (ev_sound hs y)), boxO_low hlo h⟩
  | makeSlice t l c =>
    rw [hop] at h
    simp only at h
    split at h
    · rename_i e he
      split at h
      · rename_i hok
        split at h
        · rename_i z hz
          split at h
          · exact ⟨.of_runs (by simp only [execOp, hop]) (mkBsl_sound hI (sliceElem_inv he) hok hz h (ev_sound hs l) (ev_sound hs c)), mkBsl_low hlo h⟩
          · exact ⟨.of_runs (by simp only [execOp, hop]) (mkRow_sound hI (sliceElem_inv he) hok hz h (ev_sound hs l) (ev_sound hs c)), mkRow_low hlo h⟩
        · exact h.elim
      · exact h.elim
    · exact h.elim
  | buildSlice t n parts =>
    rw [hop] at h
    simp only at h
    split at h
    · rename_i e he
      split at h
      · rename_i hc
        simp only [Bool.and_eq_true] at hc
        obtain ⟨⟨⟨c1, c2⟩, c3⟩, c4⟩ := hc
        have hn : n = (parts.toList.map fun p => (p.1, a.eval p.2)).length := by simpa using Nat.eq_of_beq_eq_true c2
        have hr : RAs H β F w ((parts.toList.map fun p => (p.1, a.eval p.2)).map (·.2)) (parts.toList.map fun x => ev s x.2) := by
          have := ev_list hs (parts.toList.map (·.2))
          simpa [List.map_map, Function.comp_def] using this
        have h : (∃ own, litA own (P.cellsOf e) (parts.toList.map fun x => ev s x.2) H = some (x, H')) ∨ litB (P.cellsOf e) (parts.toList.map fun x => ev s x.2) H = some (x, H') := by
          cases hf : cfg.flat f (dstNo o) with
          | false =>
            rw [hf] at h
            simp only [cond_false] at h
            split at h
            · exact .inl ⟨_, h⟩
            · exact .inr h
          | true => rw [hf] at h; exact .inl ⟨false, litP_litA h.1 h.2⟩
        rcases h with ⟨own, h⟩ | h
        rotate_left
        · have := litB_sound (P := P) hI (sliceElem_inv he) c3 hn (Nat.le_of_ble_eq_true c4) (inOrder_inv _ _ a.eval c1) h hr
          refine ⟨.of_runs ?_ this, litB_low hlo h⟩
          simp only [execOp, hop]
          congr 2
          apply Array.ext'
          simp
        have := lit_sound (P := P) hI (sliceElem_inv he) c3 hn (Nat.le_of_ble_eq_true c4) (inOrder_inv _ _ a.eval c1) h hr
        refine ⟨.of_runs ?_ this, litA_low hlo h⟩
        simp only [execOp, hop]
        congr 2
        apply Array.ext'
        simp
      · exact h.elim
    · exact h.elim
  | makeMap t r =>
    rw [hop] at h
    simp only at h
    have ht := tyOf_cases (P := P) t
    split at h
    · rename_i hty
      rw [hty] at ht
      obtain ⟨kt, et, hu⟩ := ht
      obtain ⟨h, rfl⟩ := h
      have := mkMap_sound (P := P) hI hu (r := none) (fun v e => by cases e)
      refine ⟨.of_runs (by simp only [execOp, hop, Option.map_none]) this, ?_⟩
      exact hlo.push _
    · rename_i n hty
      rw [hty] at ht
      obtain ⟨kt, et, hu⟩ := ht
      simp only [Out.gets, Option.map_eq_some_iff] at h
      obtain ⟨m, hm, h⟩ := h
      cases h
      obtain ⟨k, hk⟩ := asI_inv hm
      have hn := ev_sound (x := n) hs
      rw [hk] at hn
      have := mkMap_sound (P := P) hI hu (r := some (a.eval n)) (fun v e => by cases e; exact ⟨k, m, hn.v_inv.1⟩)
      refine ⟨.of_runs (by simp only [execOp, hop, Option.map_some]) this, ?_⟩
      exact hlo.push _
    · exact h.elim
  | range t y =>
    rw [hop] at h
    simp only at h
    have ht := tyOf_cases (P := P) t
    split at h
    · rename_i hty
      rw [hty] at ht
      obtain ⟨kt, et, hu⟩ := ht
      simp only [Out.gets] at h
      exact ⟨.of_runs (by simp only [execOp, hop]) (range_sound hI hu h (ev_sound hs y)), rangeA_low hlo h⟩
    · exact h.elim
  | entry y =>
    rw [hop] at h
    simp only at h
    obtain ⟨h, rfl⟩ := h
    exact ⟨.of_same hI (by simp only [execOp, hop]) (entry_sound hI h (ev_sound hs y)), hlo⟩
  | lookup t y i ok2 =>
    rw [hop] at h
    simp only at h
    split at h
    · rename_i kt et hmo
      split at h
      · rename_i z hz
        obtain ⟨h, rfl⟩ := h
        exact ⟨.of_same hI (by simp only [execOp, hop]) (look_sound hI hmo hz h (ev_sound hs y) (ev_sound hs i)), hlo⟩
      · exact h.elim
    · exact h.elim
  | mapUpdate t m k v =>
    rw [hop] at h
    simp only at h
    split at h
    · rename_i kt et hmo
      simp only [Out.gets, Option.map_eq_some_iff] at h
      obtain ⟨H1, h1, h⟩ := h
      cases h
      refine ⟨?_, mapUpdA_low hlo h1⟩
      obtain ⟨w', β', F', r1, r2, r3⟩ := mapUpd_sound hI hmo h1 (ev_sound hs m) (ev_sound hs k) (ev_sound hs v)
      intro next Q hn ro hnd
      refine wpIn_of hnd ?_
      have he : execOp a.eval o = (do Instr.mapUpdate t (a.eval m) (a.eval k) (a.eval v); pure Next.skip) := by simp only [execOp, hop]
      rw [he, Sem.run_bind, r1]
      exact hn undef w' β' F' (.tup rfl fun i hi => by simp at hi) r2 r3
    · exact h.elim
  | mapEntry t m k =>
    rw [hop] at h
    simp only at h
    split at h
    · rename_i kt et hmo
      split at h
      · rename_i z hz
        exact ⟨.of_runs (by simp only [execOp, hop]) (mapEnt_sound hI hmo hz h (ev_sound hs m) (ev_sound hs k)), mapEntA_low hlo h⟩
      · exact h.elim
    · exact h.elim
  | entryStore t m st v =>
    rw [hop] at h
    simp only [Out.gets, Option.map_eq_some_iff] at h
    obtain ⟨H1, h1, h⟩ := h
    cases h
    refine ⟨?_, entStA_low hlo h1⟩
    obtain ⟨w', β', F', r1, r2, r3⟩ := entSt_sound (P := P) (t := t) hI h1 (ev_sound hs m) (ev_sound hs st) (ev_sound hs v)
    intro next Q hn ro hnd
    refine wpIn_of hnd ?_
    have he : execOp a.eval o = (do Instr.entryStore t (a.eval m) (a.eval st) (a.eval v); pure Next.skip) := by simp only [execOp, hop]
    rw [he, Sem.run_bind, r1]
    exact hn undef w' β' F' (.tup rfl fun i hi => by simp at hi) r2 r3
  | call c =>
    rw [hop] at h
    simp only at h
    split at h
    · rename_i b hc
      have he : ∀ (z : Sem Value), builtin b c.argTypes o.type (c.args.map fun | .const _ => true | _ => false) (c.args.map a.eval) = (do pure (Next.value (← z))) → execOp a.eval o = (do pure (Next.value (← z))) := by
        intro z hz
        simp only [execOp, hop, resolve, hc, pure_bind, invoke]
        exact hz
      have args1 : ∀ y, c.args.toList = [y] → c.args.map a.eval = #[a.eval y] := fun y h => by
        apply Array.ext'; rw [Array.toList_map, h]; rfl
      have args2 : ∀ y z, c.args.toList = [y, z] → c.args.map a.eval = #[a.eval y, a.eval z] := fun y z h => by
        apply Array.ext'; rw [Array.toList_map, h]; rfl
      have tys1 : ∀ t, c.argTypes.toList = [t] → c.argTypes = #[t] := fun t h => by apply Array.ext'; rw [h]
      split at h
      · rename_i y hargs
        split at h
        · rename_i t ht
          obtain ⟨h, rfl⟩ := h
          have := len_sound (ty := o.type) hI h (ev_sound hs y)
          rw [← args1 y hargs, ← tys1 t ht] at this
          exact ⟨.of_same hI (he _ rfl) this, hlo⟩
        · exact h.elim
      · rename_i y hargs
        split at h
        · rename_i t ht
          split at h
          · rename_i hty
            obtain ⟨h, rfl⟩ := h
            have := cap_sound (ty := o.type) hty h (ev_sound hs y)
            rw [← args1 y hargs, ← tys1 t ht] at this
            exact ⟨.of_same hI (he _ rfl) this, hlo⟩
          · exact h.elim
        · exact h.elim
      · rename_i y ys hargs
        obtain ⟨h, rfl⟩ := h
        obtain ⟨r, r1, r2⟩ := bests_sound (P := P) (w := w) (gt := true) _ _ _ _ _ h (ev_sound hs y) (ev_list hs ys)
        refine ⟨.of_same hI (he _ rfl) ⟨r, ?_, r2⟩, hlo⟩
        simp only [Builtin.max_, Array.toList_map, hargs, List.map_cons]
        simpa using r1
      · rename_i y ys hargs
        obtain ⟨h, rfl⟩ := h
        obtain ⟨r, r1, r2⟩ := bests_sound (P := P) (w := w) (gt := false) _ _ _ _ _ h (ev_sound hs y) (ev_list hs ys)
        refine ⟨.of_same hI (he _ rfl) ⟨r, ?_, r2⟩, hlo⟩
        simp only [Builtin.min_, Array.toList_map, hargs, List.map_cons]
        simpa using r1
      · rename_i y z hargs
        split at h
        · rename_i e he0 he1
          split at h
          · rename_i hok
            rw [Option.bind_eq_some_iff] at he0
            obtain ⟨t0, ht0, he0⟩ := he0
            rw [Option.map_eq_some_iff] at he1
            obtain ⟨t1, ht1, he1⟩ := he1
            have ht := tyOf_cases (P := P) t1
            rw [he1] at ht
            obtain ⟨e', he'⟩ := ht
            have := appA_sound (P := P) (ty := o.type) hI (sliceElem_inv he0) hok he' (.inl ⟨e', rfl⟩) h (ev_sound hs y) (ev_sound hs z)
            rw [← args2 y z hargs] at this
            exact ⟨.of_runs (he _ rfl) (app_types ht0 ht1 this), appA_low hlo h⟩
          · exact h.elim
        · rename_i e he0 he1
          split at h
          · rename_i hok
            rw [Option.bind_eq_some_iff] at he0
            obtain ⟨t0, ht0, he0⟩ := he0
            rw [Option.map_eq_some_iff] at he1
            obtain ⟨t1, ht1, he1⟩ := he1
            have ht := tyOf_cases (P := P) t1
            rw [he1] at ht
            have := appA_sound (P := P) (ty := o.type) hI (sliceElem_inv he0) hok ht (.inr rfl) h (ev_sound hs y) (ev_sound hs z)
            rw [← args2 y z hargs] at this
            exact ⟨.of_runs (he _ rfl) (app_types ht0 ht1 this), appA_low hlo h⟩
          · exact h.elim
        · rename_i e he0 he1
          split at h
          · rename_i hok
            split at h
            · rename_i q hq
              rw [Option.bind_eq_some_iff] at he0
              obtain ⟨t0, ht0, he0⟩ := he0
              rw [Option.map_eq_some_iff] at he1
              obtain ⟨t1, ht1, he1⟩ := he1
              have ht := tyOf_cases (P := P) t1
              rw [he1] at ht
              obtain ⟨k1, hk1⟩ := ht
              have := appZ_sound (P := P) (ty := o.type) hI (sliceElem_inv he0) hok hk1 hq h (ev_sound hs y) (ev_sound hs z)
              rw [← args2 y z hargs] at this
              exact ⟨.of_runs (he _ rfl) (app_types ht0 ht1 this), appZ_low hlo h⟩
            · exact h.elim
          · exact h.elim
        · exact h.elim
      · rename_i y hargs
        split at h
        · rename_i e he0
          split at h
          · rename_i hok
            split at h
            · rename_i q hq
              rw [Option.bind_eq_some_iff] at he0
              obtain ⟨t0, ht0, he0⟩ := he0
              simp only [Out.gets, Option.map_eq_some_iff] at h
              obtain ⟨H1, h1, h⟩ := h
              cases h
              have := clear_sound (P := P) (ty := o.type) hI ht0 (sliceElem_inv he0) hok hq h1 (ev_sound hs y)
              rw [← args1 y hargs] at this
              exact ⟨.of_runs (he _ rfl) this, clearA_low hlo h1⟩
            · exact h.elim
          · exact h.elim
        · exact h.elim
      · rename_i y z hargs
        split at h
        · rename_i kt et hmo
          simp only [Out.gets, Option.map_eq_some_iff] at h
          obtain ⟨H1, h1, h⟩ := h
          cases h
          have := del_sound (P := P) (ty := o.type) hI hmo h1 (ev_sound hs y) (ev_sound hs z)
          rw [← args2 y z hargs] at this
          exact ⟨.of_runs (he _ rfl) this, delA_low hlo h1⟩
        · exact h.elim
      · rename_i y z hargs
        split at h
        · rename_i e he0
          split at h
          · rename_i hok
            rw [Option.bind_eq_some_iff] at he0
            obtain ⟨t0, ht0, he0⟩ := he0
            obtain ⟨d, _, _, hd, _⟩ := elemOk_inv hok
            have := copyA_sound (P := P) (ty := o.type) hI ht0 (sliceElem_inv he0) hd h (ev_sound hs y) (ev_sound hs z)
            rw [← args2 y z hargs] at this
            exact ⟨.of_runs (he _ rfl) this, copyA_low hlo h⟩
          · exact h.elim
        · exact h.elim
      · exact h.elim
    · rename_i g hc
      split at h
      · rename_i g'
        have r := ev_list hs c.args.toList
        rw [← Array.toList_map] at r
        obtain ⟨k2, k3⟩ := callA_sound (P := P) (cfg := cfg) hO hI h r hlo
        refine ⟨.of_callOk (g := g') (fs := #[]) (cs := #[]) hop hc rfl ?_, k3⟩
        simpa using k2
      · have hg := ev_sound (x := g) hs
        simp only [Out.gets] at h
        unfold callC at h
        split at h
        case isFalse => cases h
        generalize ev s g = ag at h hg
        cases ag with
        | fn g' first cap =>
          simp only [callV] at h
          have r := ev_list hs c.args.toList
          rw [← Array.toList_map] at r
          generalize hgv : a.eval g = gv at hg
          cases hg with
          | @fn _ fs cs _ _ k1 k2 k3 k4 =>
            have rf : RAs H β F w fs.toList first := RowA.list ⟨k1, k3⟩
            have rc : RAs H β F w cs.toList cap := RowA.list ⟨k2, k4⟩
            have rall : RAs H β F w (fs ++ c.args.map a.eval ++ cs).toList (first ++ c.args.toList.map (ev s) ++ cap) := by
              rw [Array.toList_append, Array.toList_append]
              exact (rf.append r).append rc
            obtain ⟨q2, q3⟩ := callA_sound (P := P) (cfg := cfg) hO hI h rall hlo
            exact ⟨.of_callOk hop hc hgv q2, q3⟩
        | _ => simp [callV] at h
    · exact h.elim
  | _ => rw [hop] at h; exact h.elim

theorem ldX_ld {agg : Bool} {n : Nat} {p v : AV} {H : Heap} (h : ldX agg n p H = some v) : ld agg n p H = some v := by
  unfold ldX at h
  split at h
  · split at h
    · cases h
    · exact h
  · exact h
theorem ldN_ld {agg : Bool} {n : Nat} {p v : AV} {H : Heap} (h : ldN agg n p H = some v) : ld agg n p H = some v := by
  unfold ldN at h
  rw [Option.bind_eq_some_iff] at h
  obtain ⟨w, h1, h2⟩ := h
  split at h2
  · cases h2
    unfold ldS at h1
    split at h1
    · cases h1
    · exact h1
  · cases h2
theorem stX_stA {n : Nat} {p y : AV} {lo : List Nat} {H H' : Heap} (h : stX n p y lo H = some H') : stA n p y lo H = some H' ∧ ∃ id off, p = .ptr id off ∧ id + 1 = H.length := by
  unfold stX at h
  split at h
  · split at h
    · rename_i e
      exact ⟨h, _, _, rfl, e⟩
    · cases h
  · cases h
theorem ldZ_ld {agg : Bool} {n : Nat} {p v : AV} {H : Heap} (h : ldZ agg n p H = some v) : ld agg n p H = some v := by
  unfold ldZ at h
  split at h
  · exact h
  · cases h
theorem stZ_stA {n : Nat} {p y : AV} {lo : List Nat} {H H' : Heap} (h : stZ n p y lo H = some H') : stA n p y lo H = some H' ∧ ∃ id off, p = .ptr (id + 1) off := by
  unfold stZ at h
  split at h
  · exact ⟨h, _, _, rfl⟩
  · cases h
theorem lenA_nil {ty : Ty} {x v : AV} {H : Heap} (h : lenA ty x [] = some v) : lenA ty x H = some v := by
  unfold lenA at h ⊢
  split at h <;> first | exact h | simp at h
theorem spOf_op {cfg : Cfg} {f : FuncId} {o : Oper} {k : Sp} (h : spOf cfg f o = some k) (hk : k ≠ .ldx) : o.guard = none := by
  unfold spOf at h
  split at h
  · assumption
  · assumption
  · assumption
  · split at h
    · cases h; exact (hk rfl).elim
    · cases h
  · assumption
  · cases h

theorem exec2_sound {cfg : Cfg} {O : Oracle} (hO : EntOk P O) (hI : Inv H β F w) {a : Act} {s : Slots} (hs : RS H β F w a s) {f : FuncId} {lo : List Nat} (hlo : LowAll lo H) {o : Oper} {x : AV} {H' : Heap}
    (h : (exec2 P cfg O f lo o s H).gets H x H') : OpDoes P H β F o a w x H' ∧ LowAll lo H' := by
  unfold exec2 at h
  split at h
  · exact exec1_sound hO hI hs hlo h
  · unfold spRun at h
    split at h
    · rename_i t y hop _
      split at h
      · rename_i hok
        obtain ⟨h, rfl⟩ := h
        obtain ⟨d, hd⟩ := okT_inv hok
        exact ⟨.of_same hI (by simp only [execOp, hop]) (ld_sound hI hd (ldX_ld h) (ev_sound hs y)), hlo⟩
      · exact h.elim
    · rename_i t y hop _
      split at h
      · rename_i hok
        obtain ⟨h, rfl⟩ := h
        obtain ⟨d, hd⟩ := okT_inv hok
        exact ⟨.of_same hI (by simp only [execOp, hop]) (ld_sound hI hd (ldN_ld h) (ev_sound hs y)), hlo⟩
      · exact h.elim
    · rename_i t y z hop _
      split at h
      · rename_i hok
        obtain ⟨d, hd⟩ := okT_inv hok
        simp only [Out.gets, Option.map_eq_some_iff] at h
        obtain ⟨H1, h1, h⟩ := h
        cases h
        refine ⟨?_, stX_low hlo h1⟩
        have hy := ev_sound (x := y) hs
        have hz := ev_sound (x := z) hs
        obtain ⟨h1, id, off, hp, _⟩ := stX_stA h1
        have key : ∃ w' β' F', (Instr.storeAt t (a.eval y) (a.eval z)).run P w = .ok () w' ∧ Inv H' β' F' w' ∧ Ext H β F w H' β' F' w' := by
          rw [hp] at h1 hy
          exact stA_box_sound hI hd h1 hy hz
        obtain ⟨w', β', F', r1, r2, r3⟩ := key
        intro next Q hn ro hnd
        refine wpIn_of hnd ?_
        have he : execOp a.eval o = (do Instr.storeAt t (a.eval y) (a.eval z); pure Next.skip) := by simp only [execOp, hop]
        rw [he, Sem.run_bind, r1]
        exact hn undef w' β' F' (.tup rfl fun i hi => by simp at hi) r2 r3
      · exact h.elim
    · rename_i t y hop _
      split at h
      · rename_i hok
        obtain ⟨h, rfl⟩ := h
        obtain ⟨d, hd⟩ := okT_inv hok
        exact ⟨.of_same hI (by simp only [execOp, hop]) (ld_sound hI hd (ldZ_ld h) (ev_sound hs y)), hlo⟩
      · exact h.elim
    · rename_i t y z hop _
      split at h
      · rename_i hok
        obtain ⟨d, hd⟩ := okT_inv hok
        simp only [Out.gets, Option.map_eq_some_iff] at h
        obtain ⟨H1, h1, h⟩ := h
        cases h
        refine ⟨?_, stZ_low hlo h1⟩
        have hy := ev_sound (x := y) hs
        have hz := ev_sound (x := z) hs
        obtain ⟨h1, id, off, hp⟩ := stZ_stA h1
        have key : ∃ w' β' F', (Instr.storeAt t (a.eval y) (a.eval z)).run P w = .ok () w' ∧ Inv H' β' F' w' ∧ Ext H β F w H' β' F' w' := by
          rw [hp] at h1 hy
          exact stA_box_sound hI hd h1 hy hz
        obtain ⟨w', β', F', r1, r2, r3⟩ := key
        intro next Q hn ro hnd
        refine wpIn_of hnd ?_
        have he : execOp a.eval o = (do Instr.storeAt t (a.eval y) (a.eval z); pure Next.skip) := by simp only [execOp, hop]
        rw [he, Sem.run_bind, r1]
        exact hn undef w' β' F' (.tup rfl fun i hi => by simp at hi) r2 r3
      · exact h.elim
    · rename_i m r t l c hop _
      split at h
      · rename_i e he
        split at h
        · rename_i hok
          split at h
          · rename_i z hz
            exact ⟨.of_runs (by simp only [execOp, hop]) (fillRow_sound hI (sliceElem_inv he) hok hz h (ev_sound hs l) (ev_sound hs c)), fillRow_low hlo h⟩
          · exact h.elim
        · exact h.elim
      · exact h.elim
    · rename_i c hop _
      split at h
      · rename_i g' hc
        simp only [Out.gets, Option.map_eq_some_iff] at h
        obtain ⟨v, h1, h⟩ := h
        cases h
        have r := ev_list hs c.args.toList
        rw [← Array.toList_map] at r
        have k2 := callP_sound (P := P) hO hI h1 r
        refine ⟨.of_callOk (g := g') (fs := #[]) (cs := #[]) hop hc rfl ?_, hlo⟩
        simpa using k2
      · rename_i hc
        split at h
        · rename_i x t hx ht
          obtain ⟨h, rfl⟩ := h
          have := len_sound (ty := o.type) hI (lenA_nil h) (ev_sound hs x)
          have e1 : c.args.map a.eval = #[a.eval x] := by apply Array.ext'; rw [Array.toList_map, hx]; rfl
          have e2 : c.argTypes = #[t] := by apply Array.ext'; rw [ht]
          rw [← e1, ← e2] at this
          have he : ∀ (z : Sem Value), builtin .len c.argTypes o.type (c.args.map fun | .const _ => true | _ => false) (c.args.map a.eval) = (do pure (Next.value (← z))) → execOp a.eval o = (do pure (Next.value (← z))) := by
            intro z hz
            simp only [execOp, hop, resolve, hc, pure_bind, invoke]
            exact hz
          exact ⟨.of_same hI (he _ rfl) this, hlo⟩
        · exact h.elim
      · exact h.elim
    · rename_i m r k c hop _
      split at h
      · rename_i g' hc
        have r := ev_list hs c.args.toList
        rw [← Array.toList_map] at r
        have k2 := fillC_sound (P := P) hO hI h r
        refine ⟨.of_callOk (g := g') (fs := #[]) (cs := #[]) hop hc rfl ?_, fillC_low hlo h⟩
        simpa using k2
      · exact h.elim
    · exact h.elim

end
end Go.AM
