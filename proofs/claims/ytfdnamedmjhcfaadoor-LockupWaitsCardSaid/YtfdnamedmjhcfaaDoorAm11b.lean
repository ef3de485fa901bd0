/-
Regions whose order is drawn: where the order is idle, they do what they do in the text's order.
-/
import Derived.Test.YtfdnamedmjhcfaaDoorAm11
set_option linter.unusedVariables false
set_option linter.unusedSimpArgs false
set_option linter.unnecessarySimpa false
set_option linter.unusedSectionVars false
namespace Go.AM
variable [Know]
section
variable {P : Program} {cfg : Cfg} {O : Oracle} {f : FuncId} {lo : List Nat}

theorem partsOf_congr {s s' : Slots} {fields : Array Field} : ∀ (l : List (Nat × Operand)), (∀ x ∈ l, ev s x.2 = ev s' x.2) → partsOf P s fields l = partsOf P s' fields l := by
  intro l
  induction l with
  | nil => intro _; rfl
  | cons p l ih =>
    intro h
    obtain ⟨i, x⟩ := p
    simp only [partsOf]
    rw [ih fun x hx => h x (by simp [hx]), h (i, x) (by simp)]

theorem evs_congr {s s' : Slots} (l : List Operand) (h : ∀ x ∈ l, ev s x = ev s' x) : l.map (ev s) = l.map (ev s') := List.map_congr_left h

theorem exec1_congr {o : Oper} {s s' : Slots} {H : Heap} (h : ∀ x ∈ o.op.operands, ev s x = ev s' x) : exec1 P cfg O f lo o s H = exec1 P cfg O f lo o s' H := by
  obtain ⟨dst, op, type, pos, after, guard⟩ := o
  cases op <;> simp only [Op.operands] at h
  case build t ps =>
    have e : ∀ fields : Array Field, partsOf P s fields ps.toList = partsOf P s' fields ps.toList := fun fields => partsOf_congr _ fun x hx => h x.2 (by rw [List.mem_toArray]; exact List.mem_map.2 ⟨x, hx, rfl⟩)
    have e2 : ∀ c : Nat, (ps.toList.map fun p => (p.1 * c, c, ev s p.2)) = ps.toList.map fun p => (p.1 * c, c, ev s' p.2) := fun c => List.map_congr_left fun x hx => by rw [h x.2 (by rw [List.mem_toArray]; exact List.mem_map.2 ⟨x, hx, rfl⟩)]
    simp only [exec1, e, e2]
  case buildSlice t n ps =>
    have e : (ps.toList.map fun x => ev s x.2) = ps.toList.map fun x => ev s' x.2 := List.map_congr_left fun x hx => h x.2 (by rw [List.mem_toArray]; exact List.mem_map.2 ⟨x, hx, rfl⟩)
    simp only [exec1, e]
  case makeFunc fn first captured =>
    have e1 := evs_congr (s := s) (s' := s') first.toList fun x hx => h x (by simp at hx; simp [hx])
    have e2 := evs_congr (s := s) (s' := s') captured.toList fun x hx => h x (by simp at hx; simp [hx])
    cases fn <;> simp only [exec1, e1, e2]
  case slice t x l hh m =>
    cases l <;> cases hh <;> cases m <;> simp_all [exec1]
  case makeMap t r =>
    cases r with
    | none => simp only [exec1]; cases tyOf P t <;> rfl
    | some r =>
      have e := h r (by simp)
      simp only [exec1]
      cases tyOf P t <;> first | rfl | (simp only [e])
  case call c =>
    obtain ⟨callee, args, argTypes⟩ := c
    have e1 := evs_congr (s := s) (s' := s') args.toList fun x hx => h x (by simp at hx; simp [Call.operands, hx])
    cases callee with
    | value g =>
      have e2 : ev s g = ev s' g := h g (by simp [Call.operands])
      cases g <;> simp only [exec1, e1, e2]
    | invoke _ _ => rfl
    | builtin b =>
      have e0 : ∀ x ∈ args.toList, ev s x = ev s' x := fun x hx => h x (by simp at hx; simp [Call.operands, hx])
      simp only [exec1]
      generalize args.toList = l at e0 e1
      cases b <;> first | rfl | skip
      all_goals
        match l, e0, e1 with
        | [], e0, e1 => rfl
        | [x], e0, e1 =>
          have h1 := e0 x (by simp)
          simp only [h1, List.map_nil]
        | [x, y], e0, e1 =>
          have h1 := e0 x (by simp)
          have h2 := e0 y (by simp)
          simp only [h1, h2, List.map_cons, List.map_nil]
        | x :: y :: z :: r, e0, e1 =>
          have h1 := e0 x (by simp)
          have h2 := evs_congr (s := s) (s' := s') (y :: z :: r) fun q hq => e0 q (by simp at hq; simp [hq])
          first | rfl | simp only [h1, h2]
  all_goals first | rfl | (simp_all [exec1]; done)

def outO (out : Out) (H : Heap) : Option (AV × Heap) :=
  match out with
  | .val x => some (x, H)
  | .opt x => x.map fun x => (x, H)
  | .heap x => x
  | .no => none

/-- One operation, its guard too. -/
noncomputable def stepO (P : Program) (cfg : Cfg) (O : Oracle) (f : FuncId) (lo : List Nat) (all : Array Oper) (o : Oper) (s : Slots) (H : Heap) : Option (AV × Heap) :=
  match o.guard with
  | none => outO (exec1 P cfg O f lo o s H) H
  | some (j, want) =>
    match (all[j]?).bind (·.dst) with
    | none => none
    | some d =>
      match exec1 P cfg O f lo o s H with
      | .no => none
      | out => gdH (s d) want (outO out H) H

/-- So, with what is taken otherwise. -/
noncomputable def stepO2 (P : Program) (cfg : Cfg) (O : Oracle) (f : FuncId) (lo : List Nat) (all : Array Oper) (o : Oper) (s : Slots) (H : Heap) : Option (AV × Heap) :=
  match o.guard with
  | none => outO (exec2 P cfg O f lo o s H) H
  | some (j, want) =>
    match (all[j]?).bind (·.dst) with
    | none => none
    | some d =>
      match exec2 P cfg O f lo o s H with
      | .no => none
      | out => gdH (s d) want (outO out H) H

theorem stepO2_no {all : Array Oper} {o : Oper} {s : Slots} {H : Heap} (h : noSp cfg f o = true) : stepO2 P cfg O f lo all o s H = stepO P cfg O f lo all o s H := by
  have e : exec2 P cfg O f lo o s H = exec1 P cfg O f lo o s H := by
    unfold exec2
    unfold noSp at h
    rw [Option.isNone_iff_eq_none] at h
    rw [h]
  unfold stepO2 stepO
  rw [e]
theorem stepO2_sp {all : Array Oper} {o : Oper} {s : Slots} {H : Heap} {k : Sp} (h : spOf cfg f o = some k) (hk : k ≠ .ldx := by simp) : stepO2 P cfg O f lo all o s H = outO (spRun P O k o lo s H) H := by
  unfold stepO2 exec2
  rw [spOf_op h hk, h]
theorem stepO2_spG {all : Array Oper} {o : Oper} {s : Slots} {H : Heap} {k : Sp} (h : spOf cfg f o = some k) : stepO2 P cfg O f lo all o s H =
    match o.guard with
    | none => outO (spRun P O k o lo s H) H
    | some (j, want) =>
      match (all[j]?).bind (·.dst) with
      | none => none
      | some d =>
        match spRun P O k o lo s H with
        | .no => none
        | out => gdH (s d) want (outO out H) H := by
  unfold stepO2 exec2
  rw [h]

theorem runOp_step {all : Array Oper} {o : Oper} {s : Slots} {H : Heap} {K : AV → Heap → Res} : runOp P cfg O f lo all o s H K = (stepO2 P cfg O f lo all o s H).bind fun r => K r.1 r.2 := by
  unfold runOp stepO2
  cases o.guard with
  | none =>
    simp only
    cases exec2 P cfg O f lo o s H with
    | val x => rfl
    | opt x => cases x <;> rfl
    | heap x => rfl
    | no => rfl
  | some p =>
    obtain ⟨j, want⟩ := p
    simp only
    cases (all[j]?).bind (·.dst) with
    | none => rfl
    | some d =>
      simp only
      cases exec2 P cfg O f lo o s H with
      | val x =>
        simp only [outO]
        unfold gd gdH
        split
        · split <;> rfl
        · rfl
        · rfl
      | opt x =>
        simp only [outO]
        unfold gd gdH
        split
        · split
          · cases x <;> rfl
          · rfl
        · rfl
        · rfl
      | heap x => rfl
      | no => rfl

theorem opsRun_cons {all : Array Oper} {o : Oper} {rest : List Oper} {s : Slots} {H : Heap} {K : Slots → Heap → Res} {r : List AV × Heap} : opsRun P cfg O f lo all (o :: rest) s H K = some r ↔ ∃ v H', stepO2 P cfg O f lo all o s H = some (v, H') ∧ opsRun P cfg O f lo all rest (setDst o.dst v s) H' K = some r := by
  simp only [opsRun, runOp_step, Option.bind_eq_some_iff, Prod.exists]

theorem ev_setDst {s : Slots} {d : Option Tmp} {v : AV} {x : Operand} (h : ∀ t, d = some t → x ≠ .tmp t) : ev (setDst d v s) x = ev s x := by
  cases d with
  | none => rfl
  | some d =>
    cases x with
    | tmp t =>
      have : t ≠ d := fun e => h d rfl (by rw [e])
      simp only [setDst, ev, upd]
      cases e : Nat.beq t d with
      | true => exact (this (Nat.eq_of_beq_eq_true e)).elim
      | false => rfl
    | _ => rfl

theorem slot_setDst {s : Slots} {d : Option Tmp} {v : AV} {t : Tmp} (h : ∀ t', d = some t' → t ≠ t') : setDst d v s t = s t := by
  cases d with
  | none => rfl
  | some d =>
    simp only [setDst, upd]
    cases e : Nat.beq t d with
    | true => exact (h d rfl (Nat.eq_of_beq_eq_true e)).elim
    | false => rfl

theorem stepO_congr {all : Array Oper} {o : Oper} {s : Slots} {H : Heap} {d : Option Tmp} {v : AV} (h : ∀ t, d = some t → t ∉ o.looksAt all) : stepO P cfg O f lo all o (setDst d v s) H = stepO P cfg O f lo all o s H := by
  have he : exec1 P cfg O f lo o (setDst d v s) H = exec1 P cfg O f lo o s H := exec1_congr fun x hx => ev_setDst fun t ht hxt => by
    subst hxt
    exact h t ht (List.mem_append_left _ (List.mem_filterMap.2 ⟨.tmp t, by simpa using hx, rfl⟩))
  unfold stepO
  rw [he]
  cases hg : o.guard with
  | none => rfl
  | some p =>
    obtain ⟨j, want⟩ := p
    simp only
    cases hd : (all[j]?).bind (·.dst) with
    | none => rfl
    | some t =>
      simp only
      rw [slot_setDst (t := t) fun t' ht' e => by
        subst e
        exact h t ht' (List.mem_append_right _ (by simp [hg, hd]))]

theorem spRun_congr {k : Sp} {o : Oper} {s s' : Slots} {H : Heap} (h : ∀ x ∈ o.op.operands, ev s x = ev s' x) : spRun P O k o lo s H = spRun P O k o lo s' H := by
  unfold spRun
  split
  · rename_i t a hop
    have := h a (by rw [hop]; simp [Op.operands])
    rw [this]
  · rename_i t a hop
    have := h a (by rw [hop]; simp [Op.operands])
    rw [this]
  · rename_i t a x hop
    have h1 := h a (by rw [hop]; simp [Op.operands])
    have h2 := h x (by rw [hop]; simp [Op.operands])
    rw [h1, h2]
  · rename_i t a hop
    have := h a (by rw [hop]; simp [Op.operands])
    rw [this]
  · rename_i t a x hop
    have h1 := h a (by rw [hop]; simp [Op.operands])
    have h2 := h x (by rw [hop]; simp [Op.operands])
    rw [h1, h2]
  · rename_i m r t l c hop
    have h1 := h l (by rw [hop]; simp [Op.operands])
    have h2 := h c (by rw [hop]; simp [Op.operands])
    rw [h1, h2]
  · rename_i c hop
    have ha : ∀ x ∈ c.args.toList, ev s x = ev s' x := fun x hx => h x (by
      rw [hop]; simp only [Op.operands, Call.operands]
      exact Array.mem_append.2 (.inr (by simpa using hx)))
    rw [evs_congr c.args.toList ha]
    split
    · rfl
    · split
      · rename_i x t hx ht
        rw [ha x (by rw [hx]; simp)]
      · rfl
    · rfl
  · rename_i m r k c hop
    have ha : ∀ x ∈ c.args.toList, ev s x = ev s' x := fun x hx => h x (by
      rw [hop]; simp only [Op.operands, Call.operands]
      exact Array.mem_append.2 (.inr (by simpa using hx)))
    rw [evs_congr c.args.toList ha]
  · rfl

theorem stepO2_congr {all : Array Oper} {o : Oper} {s : Slots} {H : Heap} {d : Option Tmp} {v : AV} (h : ∀ t, d = some t → t ∉ o.looksAt all) : stepO2 P cfg O f lo all o (setDst d v s) H = stepO2 P cfg O f lo all o s H := by
  cases hsp : spOf cfg f o with
  | none =>
    have hn : noSp cfg f o = true := by unfold noSp; rw [hsp]; rfl
    rw [stepO2_no hn, stepO2_no hn, stepO_congr h]
  | some k =>
    rw [stepO2_spG hsp, stepO2_spG hsp, spRun_congr fun x hx => ev_setDst fun t ht hxt => by
      subst hxt
      exact h t ht (List.mem_append_left _ (List.mem_filterMap.2 ⟨.tmp t, by simpa using hx, rfl⟩))]
    cases hg : o.guard with
    | none => rfl
    | some p =>
      obtain ⟨j, want⟩ := p
      simp only
      cases hd : (all[j]?).bind (·.dst) with
      | none => rfl
      | some t =>
        simp only
        rw [slot_setDst (t := t) fun t' ht' e => by
          subst e
          exact h t ht' (List.mem_append_right _ (by simp [hg, hd]))]

theorem quiet0_out {o : Oper} {s : Slots} (h : quiet0 cfg f o = true) : ∃ out : Out, (∀ H, exec1 P cfg O f lo o s H = out) ∧ ∀ x, out ≠ .heap x := by
  obtain ⟨dst, op, type, pos, after, guard⟩ := o
  cases op <;> simp only [quiet0, reduceCtorEq] at h
  case makeFunc x fs cs => cases x <;> exact ⟨_, fun H => rfl, fun x e => by cases e⟩
  case load t a =>
    exact ⟨if okT P t = true then .opt (ldF (isAggT P t) (P.cellsOf t) (ev s a)) else .no, fun H => by simp only [exec1, h, cond_true], fun x e => by split at e <;> cases e⟩
  case buildSlice t n parts =>
    refine ⟨match sliceElem P t with
     | some e => if (inOrder 0 parts.toList && Nat.beq n parts.size && elemOk P e && Nat.ble (n * (P.cellsOf e + 1)) 16777216) = true then .opt (litP (P.cellsOf e) (parts.toList.map fun x => ev s x.2)) else .no
     | none => .no, fun H => by
        simp only [exec1]
        cases sliceElem P t with
        | none => rfl
        | some e => simp only [h, cond_true], fun x e => ?_⟩
    split at e
    · split at e <;> cases e
    · cases e
  case makeInterface t x =>
    refine ⟨_, fun H => rfl, fun x e => ?_⟩
    split at e <;> cases e
  case field t x j =>
    refine ⟨_, fun H => rfl, fun x e => ?_⟩
    repeat' split at e
    all_goals cases e
  case build t ps =>
    refine ⟨_, fun H => rfl, fun x e => ?_⟩
    repeat' split at e
    all_goals cases e
  case fieldAddr t x j =>
    refine ⟨_, fun H => rfl, fun x e => ?_⟩
    repeat' split at e
    all_goals cases e
  case indexAddr t x j =>
    refine ⟨_, fun H => rfl, fun x e => ?_⟩
    repeat' split at e
    all_goals cases e
  case index t x j =>
    refine ⟨_, fun H => rfl, fun x e => ?_⟩
    repeat' split at e
    all_goals cases e
  case call c =>
    obtain ⟨callee, args, argTypes⟩ := c
    cases callee with
    | builtin b =>
      cases b <;> simp only [Bool.false_eq_true] at h
      all_goals
        cases hl : args.toList with
        | nil => exact ⟨.no, fun H => by simp only [exec1, hl], fun x e => by cases e⟩
        | cons y ys => exact ⟨_, fun H => by simp only [exec1, hl]; rfl, fun x e => by cases e⟩
    | value _ => simp at h
    | invoke _ _ => simp at h
  all_goals exact ⟨_, fun H => rfl, fun x e => by cases e⟩

theorem stepO_quiet0 {all : Array Oper} {o : Oper} {s : Slots} {H H1 : Heap} {v : AV} (h : quiet0 cfg f o = true) (e : stepO P cfg O f lo all o s H = some (v, H1)) : H1 = H ∧ ∀ H', stepO P cfg O f lo all o s H' = some (v, H') := by
  obtain ⟨out, h1, h2⟩ := quiet0_out (P := P) (cfg := cfg) (O := O) (f := f) (lo := lo) (s := s) h
  have key : ∀ H v H1, outO out H = some (v, H1) → H1 = H ∧ ∀ H', outO out H' = some (v, H') := by
    intro H v H1 e
    cases out with
    | val x => cases e; exact ⟨rfl, fun _ => rfl⟩
    | opt x =>
      cases x with
      | none => cases e
      | some x => cases e; exact ⟨rfl, fun _ => rfl⟩
    | heap x => exact (h2 x rfl).elim
    | no => cases e
  unfold stepO at e ⊢
  simp only [h1] at e ⊢
  cases hg : o.guard with
  | none => rw [hg] at e; exact key _ _ _ e
  | some p =>
    obtain ⟨j, want⟩ := p
    rw [hg] at e
    simp only at e ⊢
    cases hd : (all[j]?).bind (·.dst) with
    | none => rw [hd] at e; cases e
    | some t =>
      rw [hd] at e
      simp only at e ⊢
      have hno : out ≠ .no := by rintro rfl; cases e
      have e' : gdH (s t) want (outO out H) H = some (v, H1) := by
        cases out <;> first | exact (hno rfl).elim | exact e
      have goal : H1 = H ∧ ∀ H', gdH (s t) want (outO out H') H' = some (v, H') := by
        unfold gdH at e' ⊢
        split at e'
        · split at e'
          · rename_i hb
            obtain ⟨k1, k2⟩ := key _ _ _ e'
            exact ⟨k1, fun H' => by rw [if_pos hb]; exact k2 H'⟩
          · rename_i hb
            cases e'
            exact ⟨rfl, fun H' => by rw [if_neg hb]⟩
        · cases e'
          exact ⟨rfl, fun H' => rfl⟩
        · cases e'
      refine ⟨goal.1, fun H' => ?_⟩
      have := goal.2 H'
      cases out <;> first | exact (hno rfl).elim | exact this

theorem quiet1_out {o : Oper} {s : Slots} {H : Heap} (h : quiet1 cfg f o = true) {v : AV} {H1 : Heap} (e : outO (exec1 P cfg O f lo o s H) H = some (v, H1)) : H1 = H := by
  unfold quiet1 at h
  rw [Bool.or_eq_true] at h
  rcases h with h | h
  · obtain ⟨out, h1, h2⟩ := quiet0_out (P := P) (cfg := cfg) (O := O) (f := f) (lo := lo) (s := s) h
    rw [h1] at e
    cases out with
    | val x => cases e; rfl
    | opt x => cases x <;> cases e; rfl
    | heap x => exact (h2 x rfl).elim
    | no => cases e
  · have key : ∀ out : Out, (∀ x, out ≠ .heap x) → outO out H = some (v, H1) → H1 = H := by
      intro out h2 e
      cases out with
      | val x => cases e; rfl
      | opt x => cases x <;> cases e; rfl
      | heap x => exact (h2 x rfl).elim
      | no => cases e
    obtain ⟨dst, op, type, pos, after, guard⟩ := o
    cases op <;> simp only [reduceCtorEq] at h
    case load t a =>
      refine key _ (fun x ex => ?_) e
      simp only [exec1] at ex
      split at ex <;> cases ex
    case lookup t y k ok2 =>
      refine key _ (fun x ex => ?_) e
      simp only [exec1] at ex
      repeat' split at ex
      all_goals cases ex
    case slice t x l hh m =>
      refine key _ (fun x ex => ?_) e
      simp only [exec1] at ex
      repeat' split at ex
      all_goals cases ex
    case call c =>
      obtain ⟨callee, args, argTypes⟩ := c
      cases callee with
      | value g =>
        cases g <;> simp only [reduceCtorEq] at h
        rename_i g
        have hm : cfg.mode g = 0 := by simpa using h
        simp only [exec1, outO, callA, hm, Option.bind_eq_some_iff] at e
        obtain ⟨_, _, _, _, e⟩ := e
        split at e
        · cases e; rfl
        · cases e
      | invoke _ _ => simp only [reduceCtorEq] at h
      | builtin b =>
        refine key _ (fun x ex => ?_) e
        simp only [exec1] at ex
        cases b <;> simp only [reduceCtorEq] at h
        all_goals
          repeat' split at ex
          all_goals first | (cases ex; done) | (rename_i q _ _ _ _ _ _ _ _ _; cases q; done) | (simp at *; done)

theorem stepO_quiet1 {all : Array Oper} {o : Oper} {s : Slots} {H H1 : Heap} {v : AV} (h : quiet1 cfg f o = true) (e : stepO P cfg O f lo all o s H = some (v, H1)) : H1 = H := by
  unfold stepO at e
  cases hg : o.guard with
  | none => rw [hg] at e; exact quiet1_out h e
  | some p =>
    obtain ⟨j, want⟩ := p
    rw [hg] at e
    simp only at e
    cases hd : (all[j]?).bind (·.dst) with
    | none => rw [hd] at e; cases e
    | some t =>
      rw [hd] at e
      simp only at e
      have e' : gdH (s t) want (outO (exec1 P cfg O f lo o s H) H) H = some (v, H1) := by
        revert e
        cases exec1 P cfg O f lo o s H <;> intro e <;> first | exact e | cases e
      unfold gdH at e'
      split at e'
      · split at e'
        · exact quiet1_out h e'
        · cases e'; rfl
      · cases e'; rfl
      · cases e'

theorem callA_same3 {g : FuncId} {xs : List AV} {H H1 : Heap} {v : AV} (hm : cfg.mode g = 3) (e : callA cfg O g xs lo H = some (v, H1)) : H1 = H := by
  simp only [callA, hm, Option.bind_eq_some_iff] at e
  obtain ⟨r, _, e⟩ := e
  unfold sameH at e
  split at e
  · cases e; rfl
  · cases e
theorem isSameK_inv {q : Option ClK} (h : isSameK q = true) : q = some .same := by
  cases q with
  | none => cases h
  | some k => cases k <;> first | rfl | cases h
theorem isBoolsK_inv {q : Option ClK} (h : isBoolsK q = true) : ∃ k, q = some k ∧ k ≠ .same := by
  cases q with
  | none => cases h
  | some k => cases k <;> first | cases h; done | exact ⟨_, rfl, fun e => nomatch e⟩
theorem isPastK_inv {zs : List PV} {q : Option ClK} (h : isPastK zs q = true) : ∃ ys, q = some (.past ys) ∧ pvsSame ys zs = true := by
  cases q with
  | none => cases h
  | some k => cases k <;> first | exact ⟨_, rfl, h⟩ | cases h
theorem callC_inv {k : ClK} {x : AV} {xs : List AV} {H H1 : Heap} {v : AV} (e : callC cfg O (some k) x xs lo H = some (v, H1)) : ∃ g fs cs, x = .fn g fs cs ∧ closV cfg (some k) (.fn g fs cs) = true ∧ callA cfg O g (fs ++ xs ++ cs) lo H = some (v, H1) := by
  unfold callC at e
  split at e
  · rename_i hc
    cases x <;> first | exact ⟨_, _, _, rfl, hc, e⟩ | cases hc
  · cases e
theorem callC_same {x : AV} {xs : List AV} {H H1 : Heap} {v : AV} (e : callC cfg O (some .same) x xs lo H = some (v, H1)) : H1 = H := by
  obtain ⟨g, fs, cs, rfl, hc, e⟩ := callC_inv e
  simp only [closV, Bool.or_eq_true] at hc
  rcases hc with hc | hc
  · exact callA_same3 (Nat.eq_of_beq_eq_true hc) e
  · have hm : cfg.mode g = 0 := Nat.eq_of_beq_eq_true hc
    simp only [callA, hm, Option.bind_eq_some_iff] at e
    obtain ⟨q, _, r, _, e⟩ := e
    split at e
    · cases e; rfl
    · cases e

theorem quiet3_out {o : Oper} {s : Slots} {H : Heap} (h : quiet3 cfg f o = true) {v : AV} {H1 : Heap} (e : outO (exec1 P cfg O f lo o s H) H = some (v, H1)) : H1 = H := by
  unfold quiet3 at h
  rw [Bool.or_eq_true] at h
  rcases h with h | h
  · exact quiet1_out h e
  · obtain ⟨dst, op, type, pos, after, guard⟩ := o
    cases op <;> simp only [reduceCtorEq] at h
    case call c =>
      obtain ⟨callee, args, argTypes⟩ := c
      cases callee with
      | value g =>
        cases g with
        | func g =>
          have hm : cfg.mode g = 3 := by simpa using h
          simp only [exec1, outO] at e
          exact callA_same3 hm e
        | tmp g =>
          have h : isSameK (cfg.clos f (dstNo ⟨dst, .call ⟨.value (.tmp g), args, argTypes⟩, type, pos, after, guard⟩)) = true := h
          simp only [exec1, outO, isSameK_inv h] at e
          exact callC_same e
        | const g =>
          have h : isSameK (cfg.clos f (dstNo ⟨dst, .call ⟨.value (.const g), args, argTypes⟩, type, pos, after, guard⟩)) = true := h
          simp only [exec1, outO, isSameK_inv h] at e
          exact callC_same e
        | global g =>
          have h : isSameK (cfg.clos f (dstNo ⟨dst, .call ⟨.value (.global g), args, argTypes⟩, type, pos, after, guard⟩)) = true := h
          simp only [exec1, outO, isSameK_inv h] at e
          exact callC_same e
      | invoke _ _ => simp only [reduceCtorEq] at h
      | builtin b => simp only [reduceCtorEq] at h

theorem stepO_quiet3 {all : Array Oper} {o : Oper} {s : Slots} {H H1 : Heap} {v : AV} (h : quiet3 cfg f o = true) (e : stepO P cfg O f lo all o s H = some (v, H1)) : H1 = H := by
  unfold stepO at e
  cases hg : o.guard with
  | none => rw [hg] at e; exact quiet3_out h e
  | some p =>
    obtain ⟨j, want⟩ := p
    rw [hg] at e
    simp only at e
    cases hd : (all[j]?).bind (·.dst) with
    | none => rw [hd] at e; cases e
    | some t =>
      rw [hd] at e
      simp only at e
      have e' : gdH (s t) want (outO (exec1 P cfg O f lo o s H) H) H = some (v, H1) := by
        revert e
        cases exec1 P cfg O f lo o s H <;> intro e <;> first | exact e | cases e
      unfold gdH at e'
      split at e'
      · split at e'
        · exact quiet3_out h e'
        · cases e'; rfl
      · cases e'; rfl
      · cases e'

/-! ### Reads, where one object more is there -/
theorem getElem?_push {H : Heap} {o x : AObj} {id : Nat} (h : H[id]? = some x) : (H ++ [o])[id]? = some x := by
  rw [List.getElem?_append_left (getElem?_lt h)]
  exact h

theorem ld_push {agg : Bool} {n : Nat} {p v : AV} {H : Heap} {o : AObj} (h : ld agg n p H = some v) : ld agg n p (H ++ [o]) = some v := by
  unfold ld at h ⊢
  cases p <;> first | exact h | skip
  all_goals
    simp only at h ⊢
    split at h
    · rename_i ho
      rw [getElem?_push ho]
      exact h
    · cases h

theorem ldS_push {agg : Bool} {n : Nat} {p v : AV} {H : Heap} {o : AObj} (h : ldS agg n p H = some v) : ldS agg n p (H ++ [o]) = some v := by
  cases p with
  | rptr _ _ _ => cases h
  | ptr id off => exact ld_push (p := .ptr id off) h
  | fp xs off => exact h
  | _ => cases h

theorem pureLeaf_push {x : AV} {H : Heap} {o : AObj} {r : AV × Bool} (h : pureLeaf H x = some r) : pureLeaf (H ++ [o]) x = some r := by
  unfold pureLeaf at h ⊢
  cases x <;> first | exact h | skip
  simp only at h ⊢
  split at h
  · rename_i ho
    rw [getElem?_push ho]
    exact h
  · cases h

theorem pureLeaves_push {H : Heap} {o : AObj} : ∀ (xs : List AV) (r : List AV × Bool), pureLeaves H xs = some r → pureLeaves (H ++ [o]) xs = some r := by
  intro xs
  induction xs with
  | nil => intro r h; exact h
  | cons x xs ih =>
    intro r h
    simp only [pureLeaves, Option.bind_eq_some_iff, Option.map_eq_some_iff] at h ⊢
    obtain ⟨q, h1, p, h2, h3⟩ := h
    exact ⟨q, pureLeaf_push h1, p, ih _ h2, h3⟩

theorem pureArg_push {x : AV} {H : Heap} {o : AObj} {r : AV × Bool} (h : pureArg H x = some r) : pureArg (H ++ [o]) x = some r := by
  unfold pureArg at h ⊢
  split at h
  · rw [Option.map_eq_some_iff] at h ⊢
    obtain ⟨q, h1, h2⟩ := h
    exact ⟨q, pureLeaves_push _ _ h1, h2⟩
  · exact pureLeaf_push h

theorem pureArgs_push {H : Heap} {o : AObj} : ∀ (xs : List AV) (r : List AV × Bool), pureArgs H xs = some r → pureArgs (H ++ [o]) xs = some r := by
  intro xs
  induction xs with
  | nil => intro r h; exact h
  | cons x xs ih =>
    intro r h
    simp only [pureArgs, Option.bind_eq_some_iff, Option.map_eq_some_iff] at h ⊢
    obtain ⟨q, h1, p, h2, h3⟩ := h
    exact ⟨q, pureArg_push h1, p, ih _ h2, h3⟩

theorem cutA_push {sz : Nat} {x v : AV} {l h m : Option AV} {H : Heap} {o : AObj} (e : cutA sz x l h m H = some v) : cutA sz x l h m (H ++ [o]) = some v := by
  unfold cutA at e ⊢
  cases x <;> first | exact e | skip
  case p y => cases y <;> exact e
  case row id g off n =>
    simp only [Option.bind_eq_some_iff] at e ⊢
    obtain ⟨a, h1, b, h2, e⟩ := e
    refine ⟨a, h1, b, h2, ?_⟩
    cases m with
    | some m => exact e
    | none =>
      simp only at e ⊢
      split at e
      · rename_i ho
        rw [getElem?_push ho]
        exact e
      · cases e

theorem cutArr_push {sz n : Nat} {x v : AV} {l h : Option AV} {H : Heap} {o : AObj} (e : cutArr sz n x l h H = some v) : cutArr sz n x l h (H ++ [o]) = some v := by
  unfold cutArr at e ⊢
  cases x <;> first | exact e | skip
  case rptr id g off =>
    simp only [Option.bind_eq_some_iff] at e ⊢
    obtain ⟨a, h1, b, h2, e⟩ := e
    refine ⟨a, h1, b, h2, ?_⟩
    split at e
    · rename_i ho
      rw [getElem?_push ho]
      exact e
    · cases e
  case ptr id off =>
    simp only [Option.bind_eq_some_iff] at e ⊢
    obtain ⟨a, h1, b, h2, e⟩ := e
    refine ⟨a, h1, b, h2, ?_⟩
    split at e
    · rename_i ho
      rw [getElem?_push ho]
      exact e
    · cases e

theorem lenA_push {ty : Ty} {x v : AV} {H : Heap} {o : AObj} (e : lenA ty x H = some v) : lenA ty x (H ++ [o]) = some v := by
  unfold lenA at e ⊢
  split at e
  · exact e
  · exact e
  · exact e
  · exact e
  · exact e
  · split at e
    · rename_i ho
      rw [getElem?_push ho]
      exact e
    · cases e
  · cases e

theorem lookA_push {ty : Ty} {Z M K v : AV} {ok2 : Bool} {H : Heap} {x : AObj} (e : lookA ty Z ok2 M K H = some v) : lookA ty Z ok2 M K (H ++ [x]) = some v := by
  unfold lookA at e ⊢
  split at e
  · rename_i hc
    rw [if_pos hc]
    rw [Option.bind_eq_some_iff] at e ⊢
    obtain ⟨es, hes, e⟩ := e
    refine ⟨es, ?_, e⟩
    unfold entsA at hes ⊢
    split at hes
    · exact hes
    · split at hes
      · rename_i ho
        rw [getElem?_push ho]
        exact hes
      · cases hes
    · cases hes
  · cases e

theorem quiet1_no {o : Oper} {s : Slots} {H H' : Heap} (h : quiet1 cfg f o = true) (e : exec1 P cfg O f lo o s H' = .no) : exec1 P cfg O f lo o s H = .no := by
  unfold quiet1 at h
  rw [Bool.or_eq_true] at h
  rcases h with h | h
  · obtain ⟨out, h1, h2⟩ := quiet0_out (P := P) (cfg := cfg) (O := O) (f := f) (lo := lo) (s := s) h
    rw [h1] at e ⊢
    exact e
  · obtain ⟨dst, op, type, pos, after, guard⟩ := o
    cases op <;> simp only [reduceCtorEq] at h
    case load t a =>
      simp only [exec1] at e ⊢
      split at e
      · cases e
      · rename_i hc; rw [if_neg hc]
    case lookup t y k ok2 =>
      simp only [exec1] at e ⊢
      split at e
      · split at e
        · cases e
        · rfl
      · rfl
    case slice t y l hh m =>
      simp only [exec1] at e ⊢
      split at e
      · split at e
        · cases e
        · rename_i hc; rw [if_neg hc]
      · cases e
      · split at e
        · split at e
          · cases e
          · rename_i hc; rw [if_neg hc]
        · rfl
      · rfl
    case call c =>
      obtain ⟨callee, args, argTypes⟩ := c
      cases callee with
      | value g => cases g <;> simp only [exec1, reduceCtorEq] at e
      | invoke _ _ => rfl
      | builtin b =>
        simp only [exec1] at e ⊢
        generalize args.toList = l at e ⊢
        cases b <;> simp only [reduceCtorEq] at h
        all_goals
          repeat' split at e
          all_goals first | (cases e; done) | (simp_all; done)

theorem quiet1_push {o : Oper} {s : Slots} {H : Heap} {x : AObj} (h : quiet1 cfg f o = true) {v : AV} {H1 : Heap} (e : outO (exec1 P cfg O f lo o s H) H = some (v, H1)) : outO (exec1 P cfg O f lo o s (H ++ [x])) (H ++ [x]) = some (v, H ++ [x]) := by
  unfold quiet1 at h
  rw [Bool.or_eq_true] at h
  rcases h with h | h
  · obtain ⟨out, h1, h2⟩ := quiet0_out (P := P) (cfg := cfg) (O := O) (f := f) (lo := lo) (s := s) h
    rw [h1] at e ⊢
    cases out with
    | val x => cases e; rfl
    | opt x => cases x <;> cases e; rfl
    | heap x => exact (h2 x rfl).elim
    | no => cases e
  · have key : ∀ {a b : Option AV}, (∀ v, a = some v → b = some v) → outO (.opt a) H = some (v, H1) → outO (.opt b) (H ++ [x]) = some (v, H ++ [x]) := by
      intro a b hab e
      cases a with
      | none => cases e
      | some a =>
        cases e
        simp [outO, hab _ rfl]
    obtain ⟨dst, op, type, pos, after, guard⟩ := o
    cases op <;> simp only [reduceCtorEq] at h
    case load t a =>
      simp only [exec1] at e ⊢
      split at e
      · rename_i hc
        rw [if_pos hc]
        refine key (fun v hv => ?_) e
        revert hv
        generalize ev s a = p
        cases cfg.flat f (dstNo _) with
        | true => exact fun hv => hv
        | false =>
        cases cfg.ownLit f (dstNo _) with
        | false => exact fun hv => ld_push hv
        | true => exact fun hv => ldS_push hv
      · cases e
    case lookup t y k ok2 =>
      simp only [exec1] at e ⊢
      split at e
      · split at e
        · exact key (fun v hv => lookA_push hv) e
        · cases e
      · cases e
    case slice t y l hh m =>
      simp only [exec1] at e ⊢
      split at e
      · split at e
        · rename_i hc
          rw [if_pos hc]
          exact key (fun v hv => cutA_push hv) e
        · cases e
      · exact key (fun v hv => hv) e
      · split at e
        · split at e
          · rename_i hc
            rw [if_pos hc]
            exact key (fun v hv => cutArr_push hv) e
          · cases e
        · cases e
      · cases e
    case call c =>
      obtain ⟨callee, args, argTypes⟩ := c
      cases callee with
      | value g =>
        cases g <;> simp only [reduceCtorEq] at h
        rename_i g
        have hm : cfg.mode g = 0 := by simpa using h
        simp only [exec1, outO, callA, hm, Option.bind_eq_some_iff] at e ⊢
        obtain ⟨q, h1, r, h2, e⟩ := e
        refine ⟨q, pureArgs_push _ _ h1, r, h2, ?_⟩
        split at e
        · rename_i hc
          rw [if_pos hc]
          cases e
          rfl
        · cases e
      | invoke _ _ => simp only [reduceCtorEq] at h
      | builtin b =>
        simp only [exec1] at e ⊢
        generalize args.toList = l at e ⊢
        cases b <;> simp only [reduceCtorEq] at h
        all_goals
          match l, e with
          | [], e => cases e
          | [y], e =>
            first
              | (simp only at e ⊢
                 split at e
                 · first
                   | exact key (fun v hv => lenA_push hv) e
                   | (split at e
                      · exact key (fun v hv => hv) e
                      · cases e)
                 · cases e)
              | exact key (fun v hv => hv) e
          | [y, z], e => first | (cases e; done) | exact key (fun v hv => hv) e
          | y :: z :: u :: r, e => first | (cases e; done) | exact key (fun v hv => hv) e

theorem stepO_quiet1_push {all : Array Oper} {o : Oper} {s : Slots} {H H1 : Heap} {v : AV} {x : AObj} (h : quiet1 cfg f o = true) (e : stepO P cfg O f lo all o s H = some (v, H1)) : stepO P cfg O f lo all o s (H ++ [x]) = some (v, H ++ [x]) := by
  unfold stepO at e ⊢
  cases hg : o.guard with
  | none => rw [hg] at e; exact quiet1_push h e
  | some p =>
    obtain ⟨j, want⟩ := p
    rw [hg] at e
    simp only at e ⊢
    cases hd : (all[j]?).bind (·.dst) with
    | none => rw [hd] at e; cases e
    | some t =>
      rw [hd] at e
      simp only at e ⊢
      have hno : exec1 P cfg O f lo o s H ≠ .no := by intro e'; rw [e'] at e; cases e
      have hno' : exec1 P cfg O f lo o s (H ++ [x]) ≠ .no := fun e' => hno (quiet1_no h e')
      have e1 : gdH (s t) want (outO (exec1 P cfg O f lo o s H) H) H = some (v, H1) := by
        revert e hno
        cases exec1 P cfg O f lo o s H <;> intro e hno <;> first | exact (hno rfl).elim | exact e
      have e2 : gdH (s t) want (outO (exec1 P cfg O f lo o s (H ++ [x])) (H ++ [x])) (H ++ [x]) = some (v, H ++ [x]) := by
        unfold gdH at e1 ⊢
        split at e1
        · split at e1
          · rename_i hb; rw [if_pos hb]; exact quiet1_push h e1
          · rename_i hb; rw [if_neg hb]; cases e1; rfl
        · cases e1; rfl
        · cases e1
      revert e2 hno'
      cases exec1 P cfg O f lo o s (H ++ [x]) <;> intro hno' e2 <;> first | exact (hno' rfl).elim | exact e2

theorem pushes_out {o : Oper} {s : Slots} {H H1 : Heap} {v : AV} (h : pushes cfg f o = true) (e : outO (exec1 P cfg O f lo o s H) H = some (v, H1)) : H1 = H ∨ ∃ x, H1 = H ++ [x] := by
  have hbox : ∀ (own : List (Nat × Nat)) (xs : List AV), own.isEmpty = true → boxO own xs H = some (v, H1) → ∃ x, H1 = H ++ [x] := by
    intro own xs hown e
    have : own = [] := by simpa [List.isEmpty_iff] using hown
    subst this
    unfold boxO at e
    split at e
    · cases e; exact ⟨_, rfl⟩
    · cases e
  obtain ⟨dst, op, type, pos, after, guard⟩ := o
  cases op <;> simp only [pushes, reduceCtorEq] at h
  case alloc t =>
    simp only [exec1] at e
    split at e
    · split at e
      · split at e
        · simp only [outO, mkArr, Option.some.injEq, Prod.mk.injEq] at e
          exact .inr ⟨_, e.2.symm⟩
        · cases e
      · rw [Bool.and_eq_true] at h
        rw [Option.isNone_iff_eq_none.mp h.2] at e
        exact .inr (hbox _ _ h.1 e)
    · cases e
  case box t x =>
    simp only [exec1] at e
    exact .inr (hbox _ _ h e)
  case makeMap t r =>
    simp only [exec1] at e
    split at e
    · simp only [outO, mkMap, Option.some.injEq, Prod.mk.injEq] at e
      exact .inr ⟨_, e.2.symm⟩
    · simp only [outO, mkMap, Option.map_eq_some_iff] at e
      obtain ⟨_, _, e⟩ := e
      simp only [Prod.mk.injEq] at e
      exact .inr ⟨_, e.2.symm⟩
    · cases e
  case makeSlice t l c =>
    simp only [exec1] at e
    split at e
    · split at e
      · split at e
        · have row : ∀ {sz b : Nat} {q : List PV} {L C : AV}, mkRow sz b q L C H = some (v, H1) → H1 = H ∨ ∃ x, H1 = H ++ [x] := by
            intro sz b q L C e
            simp only [mkRow, Option.bind_eq_some_iff] at e
            obtain ⟨_, _, _, _, e⟩ := e
            split at e
            · cases e; exact .inr ⟨_, rfl⟩
            · cases e
          split at e
          · simp only [outO, mkBsl, Option.bind_eq_some_iff] at e
            obtain ⟨_, _, e⟩ := e
            split at e
            · exact row e
            · simp only [Option.bind_eq_some_iff] at e
              obtain ⟨_, _, e⟩ := e
              split at e
              · cases e; exact .inr ⟨_, rfl⟩
              · cases e
          · exact row e
        · cases e
      · cases e
    · cases e
  case call c =>
    obtain ⟨callee, args, argTypes⟩ := c
    cases callee with
    | value g =>
      cases g <;> simp only [reduceCtorEq] at h
      rename_i g
      have hm : cfg.mode g = 4 := by simpa using h
      simp only [exec1, outO, callA, hm, Option.bind_eq_some_iff] at e
      obtain ⟨r, _, e⟩ := e
      unfold oneH at e
      split at e
      · rename_i hh
        cases e
        exact hh
      · cases e
    | invoke _ _ => simp only [reduceCtorEq] at h
    | builtin b => simp only [reduceCtorEq] at h

theorem stepO_pushes {all : Array Oper} {o : Oper} {s : Slots} {H H1 : Heap} {v : AV} (h : pushes cfg f o = true) (e : stepO P cfg O f lo all o s H = some (v, H1)) : H1 = H ∨ ∃ x, H1 = H ++ [x] := by
  unfold stepO at e
  cases hg : o.guard with
  | none => rw [hg] at e; exact pushes_out h e
  | some p =>
    obtain ⟨j, want⟩ := p
    rw [hg] at e
    simp only at e
    cases hd : (all[j]?).bind (·.dst) with
    | none => rw [hd] at e; cases e
    | some t =>
      rw [hd] at e
      simp only at e
      have e' : gdH (s t) want (outO (exec1 P cfg O f lo o s H) H) H = some (v, H1) := by
        revert e
        cases exec1 P cfg O f lo o s H <;> intro e <;> first | exact e | cases e
      unfold gdH at e'
      split at e'
      · split at e'
        · exact pushes_out h e'
        · cases e'; exact .inl rfl
      · cases e'; exact .inl rfl
      · cases e'

/-! ### Reads that are never out of a row, beside what writes rows alone -/
theorem toPV_box {H H1 : Heap} {y : AV} {x : PV} (e : toPV H y = some (x, H1)) (id : Nat) (xs : List AV) : H[id]? = some (.box xs) ↔ H1[id]? = some (.box xs) := by
  unfold toPV at e
  split at e
  · cases e; rfl
  · rename_i id' g off n
    split at e
    · rename_i g' sz ys ho
      split at e
      · cases e
        have hlt := getElem?_lt ho
        by_cases hi : id' = id
        · subst hi; rw [List.getElem?_set_self hlt, ho]; simp
        · rw [List.getElem?_set_ne hi]
      · cases e
    · cases e
  · cases e

theorem toPVs_box : ∀ (ys : List AV) {H H1 : Heap} {xs : List PV}, toPVs H ys = some (xs, H1) → ∀ (id : Nat) (zs : List AV), H[id]? = some (.box zs) ↔ H1[id]? = some (.box zs) := by
  intro ys
  induction ys with
  | nil => intro H H1 xs e id zs; cases e; rfl
  | cons y ys ih =>
    intro H H1 xs e id zs
    simp only [toPVs, Option.bind_eq_some_iff, Option.map_eq_some_iff] at e
    obtain ⟨r, h1, q, h2, e⟩ := e
    cases e
    rw [toPV_box h1, ih h2]

theorem box_pushRow {H : Heap} {g sz : Nat} {cs : List PV} (id : Nat) (zs : List AV) : H[id]? = some (.box zs) ↔ (H ++ [.row g sz cs])[id]? = some (.box zs) := by
  rcases Nat.lt_trichotomy id H.length with h | h | h
  · rw [List.getElem?_append_left h]
  · subst h; simp
  · rw [List.getElem?_eq_none (by omega), List.getElem?_eq_none (by simp; omega)]

theorem box_setRow {H : Heap} {id' g sz g2 sz2 : Nat} {cs cs2 : List PV} (ho : H[id']? = some (.row g sz cs)) (id : Nat) (zs : List AV) : H[id]? = some (.box zs) ↔ (H.set id' (.row g2 sz2 cs2))[id]? = some (.box zs) := by
  have hlt := getElem?_lt ho
  by_cases hi : id' = id
  · subst hi; rw [List.getElem?_set_self hlt, ho]; simp
  · rw [List.getElem?_set_ne hi]

theorem litA_box {own : Bool} {sz : Nat} {ps : List AV} {H H1 : Heap} {v : AV} (e : litA own sz ps H = some (v, H1)) (id : Nat) (zs : List AV) : H[id]? = some (.box zs) ↔ H1[id]? = some (.box zs) := by
  unfold litA at e
  split at e
  · rw [Option.bind_eq_some_iff] at e
    obtain ⟨r, h1, e⟩ := e
    split at e
    · cases e; rw [toPVs_box _ h1, ← box_pushRow]
    · cases e; exact toPVs_box _ h1 id zs
  · cases e

theorem appTo_box {sz bytes k : Nat} {x v : AV} {new : List PV} {H H1 : Heap} (e : appTo sz bytes x k new H = some (v, H1)) (id : Nat) (zs : List AV) : H[id]? = some (.box zs) ↔ H1[id]? = some (.box zs) := by
  unfold appTo at e
  split at e
  · split at e
    · cases e; rfl
    · split at e
      · cases e; exact box_pushRow id zs
      · cases e
  · split at e
    · cases e; rfl
    · split at e
      · cases e; exact box_pushRow id zs
      · cases e
  · split at e
    · rename_i ho
      split at e
      · cases e; exact box_setRow ho id zs
      · cases e
    · cases e
  · cases e

theorem appA_box {sz bytes : Nat} {x y v : AV} {H H1 : Heap} (e : appA sz bytes x y H = some (v, H1)) (id : Nat) (zs : List AV) : H[id]? = some (.box zs) ↔ H1[id]? = some (.box zs) := by
  unfold appA at e
  rw [Option.bind_eq_some_iff] at e
  obtain ⟨r, _, e⟩ := e
  exact appTo_box e id zs

theorem appZ_box {sz bytes : Nat} {z : List PV} {x n v : AV} {H H1 : Heap} (e : appZ sz bytes z x n H = some (v, H1)) (id : Nat) (zs : List AV) : H[id]? = some (.box zs) ↔ H1[id]? = some (.box zs) := by
  unfold appZ at e
  rw [Option.bind_eq_some_iff] at e
  obtain ⟨k, _, e⟩ := e
  split at e
  · exact appTo_box e id zs
  · cases e

theorem copyA_box {sz : Nat} {x y v : AV} {H H1 : Heap} (e : copyA sz x y H = some (v, H1)) (id : Nat) (zs : List AV) : H[id]? = some (.box zs) ↔ H1[id]? = some (.box zs) := by
  unfold copyA at e
  split at e
  · split at e
    · rename_i ho
      split at e
      · rw [Option.bind_eq_some_iff] at e
        obtain ⟨r, _, e⟩ := e
        cases e
        exact box_setRow ho id zs
      · cases e
    · cases e
  · cases e

theorem clearA_box {sz : Nat} {z : List PV} {x : AV} {H H1 : Heap} (e : clearA sz z x H = some H1) (id : Nat) (zs : List AV) : H[id]? = some (.box zs) ↔ H1[id]? = some (.box zs) := by
  unfold clearA at e
  split at e
  · cases e; rfl
  · split at e
    · rename_i ho
      split at e
      · cases e; exact box_setRow ho id zs
      · cases e
    · cases e
  · cases e

theorem rowOnly_out {o : Oper} {s : Slots} {H H1 : Heap} {v : AV} (h : rowOnly cfg f o = true) (e : outO (exec1 P cfg O f lo o s H) H = some (v, H1)) (id : Nat) (zs : List AV) : H[id]? = some (.box zs) ↔ H1[id]? = some (.box zs) := by
  obtain ⟨dst, op, type, pos, after, guard⟩ := o
  cases op <;> simp only [rowOnly, reduceCtorEq] at h
  case buildSlice t n parts =>
    simp only [exec1, h, if_true] at e
    split at e
    · split at e
      · generalize cfg.flat f _ = b at e
        cases b with
        | false => exact litA_box e id zs
        | true =>
          simp only [cond_true, outO, Option.map_eq_some_iff] at e
          obtain ⟨y, _, e⟩ := e
          cases e
          exact Iff.rfl
      · cases e
    · cases e
  case call c =>
    obtain ⟨callee, args, argTypes⟩ := c
    cases callee with
    | value g => simp only [reduceCtorEq] at h
    | invoke _ _ => simp only [reduceCtorEq] at h
    | builtin b =>
      simp only [exec1] at e
      generalize args.toList = l at e
      cases b <;> simp only [reduceCtorEq] at h
      all_goals
        match l, e with
        | [], e => cases e
        | [y], e =>
          first
            | (cases e; done)
            | (simp only at e
               repeat' split at e
               all_goals first
                 | (simp only [outO, Option.map_eq_some_iff] at e
                    obtain ⟨H2, e2, e⟩ := e
                    cases e
                    exact clearA_box e2 id zs)
                 | cases e)
        | y :: z :: u :: r, e => cases e
        | [y, z], e =>
          first
            | (cases e; done)
            | (simp only at e
               repeat' split at e
               all_goals first | exact appA_box e id zs | exact appZ_box e id zs | exact copyA_box e id zs | cases e)

theorem stepO_rowOnly {all : Array Oper} {o : Oper} {s : Slots} {H H1 : Heap} {v : AV} (h : rowOnly cfg f o = true) (e : stepO P cfg O f lo all o s H = some (v, H1)) (id : Nat) (zs : List AV) : H[id]? = some (.box zs) ↔ H1[id]? = some (.box zs) := by
  unfold stepO at e
  cases hg : o.guard with
  | none => rw [hg] at e; exact rowOnly_out h e id zs
  | some p =>
    obtain ⟨j, want⟩ := p
    rw [hg] at e
    simp only at e
    cases hd : (all[j]?).bind (·.dst) with
    | none => rw [hd] at e; cases e
    | some t =>
      rw [hd] at e
      simp only at e
      have e' : gdH (s t) want (outO (exec1 P cfg O f lo o s H) H) H = some (v, H1) := by
        revert e
        cases exec1 P cfg O f lo o s H <;> intro e <;> first | exact e | cases e
      unfold gdH at e'
      split at e'
      · split at e'
        · exact rowOnly_out h e' id zs
        · cases e'; rfl
      · cases e'; rfl
      · cases e'

theorem ldS_keep {agg : Bool} {n : Nat} {p v : AV} {H H' : Heap} (hb : ∀ (id : Nat) zs, H[id]? = some (.box zs) → H'[id]? = some (.box zs)) (e : ldS agg n p H = some v) : ldS agg n p H' = some v := by
  cases p with
  | rptr _ _ _ => cases e
  | ptr id off =>
    simp only [ldS, ld] at e ⊢
    split at e
    · rename_i xs ho
      rw [hb _ _ ho]
      exact e
    · cases e
  | fp xs off => exact e
  | _ => cases e

theorem strict_out {o : Oper} {s : Slots} {H H' : Heap} (h : strict cfg f o = true) (hb : ∀ (id : Nat) zs, H[id]? = some (.box zs) → H'[id]? = some (.box zs)) :
    (∀ v H1, outO (exec1 P cfg O f lo o s H) H = some (v, H1) → H1 = H ∧ outO (exec1 P cfg O f lo o s H') H' = some (v, H')) ∧ (exec1 P cfg O f lo o s H' = .no → exec1 P cfg O f lo o s H = .no) := by
  obtain ⟨dst, op, type, pos, after, guard⟩ := o
  cases op <;> simp only [strict, reduceCtorEq] at h
  rename_i t a
  simp only [Bool.and_eq_true, Bool.not_eq_true'] at h
  refine ⟨fun v H1 e => ?_, fun e => ?_⟩
  · simp only [exec1, h.1, h.2, cond_true, cond_false] at e ⊢
    split at e
    · rename_i hc
      rw [if_pos hc]
      simp only [outO, Option.map_eq_some_iff] at e ⊢
      obtain ⟨y, hx, e⟩ := e
      cases e
      exact ⟨rfl, _, ldS_keep hb hx, rfl⟩
    · cases e
  · simp only [exec1] at e ⊢
    split at e
    · cases e
    · rename_i hc; rw [if_neg hc]

theorem stepO_strict {all : Array Oper} {o : Oper} {s : Slots} {H H' H1 : Heap} {v : AV} (h : strict cfg f o = true) (hb : ∀ (id : Nat) zs, H[id]? = some (.box zs) → H'[id]? = some (.box zs)) (e : stepO P cfg O f lo all o s H = some (v, H1)) :
    H1 = H ∧ stepO P cfg O f lo all o s H' = some (v, H') := by
  obtain ⟨k1, k2⟩ := strict_out (P := P) (O := O) (lo := lo) (s := s) h hb
  unfold stepO at e ⊢
  cases hg : o.guard with
  | none => rw [hg] at e; exact k1 _ _ e
  | some p =>
    obtain ⟨j, want⟩ := p
    rw [hg] at e
    simp only at e ⊢
    cases hd : (all[j]?).bind (·.dst) with
    | none => rw [hd] at e; cases e
    | some t =>
      rw [hd] at e
      simp only at e ⊢
      have hno : exec1 P cfg O f lo o s H ≠ .no := by intro e'; rw [e'] at e; cases e
      have hno' : exec1 P cfg O f lo o s H' ≠ .no := fun e' => hno (k2 e')
      have e1 : gdH (s t) want (outO (exec1 P cfg O f lo o s H) H) H = some (v, H1) := by
        revert e hno
        cases exec1 P cfg O f lo o s H <;> intro e hno <;> first | exact (hno rfl).elim | exact e
      have e2 : H1 = H ∧ gdH (s t) want (outO (exec1 P cfg O f lo o s H') H') H' = some (v, H') := by
        unfold gdH at e1 ⊢
        split at e1
        · split at e1
          · rename_i hb; rw [if_pos hb]; exact k1 _ _ e1
          · rename_i hb; rw [if_neg hb]; cases e1; exact ⟨rfl, rfl⟩
        · cases e1; exact ⟨rfl, rfl⟩
        · cases e1
      refine ⟨e2.1, ?_⟩
      have e3 := e2.2
      revert e3 hno'
      cases exec1 P cfg O f lo o s H' <;> intro hno' e3 <;> first | exact (hno' rfl).elim | exact e3

theorem setDst_comm {s : Slots} {d e : Option Tmp} {v u : AV} (h : ∀ t, d = some t → e ≠ some t) : setDst e u (setDst d v s) = setDst d v (setDst e u s) := by
  cases d with
  | none => rfl
  | some d =>
    cases e with
    | none => rfl
    | some e =>
      have hne : d ≠ e := fun he => h d rfl (by rw [he])
      funext i
      simp only [setDst, upd]
      cases e1 : Nat.beq i e with
      | false => rfl
      | true =>
        cases e2 : Nat.beq i d with
        | false => rfl
        | true => exact (hne ((Nat.eq_of_beq_eq_true e2).symm.trans (Nat.eq_of_beq_eq_true e1))).elim

/-! ### Reads of what was there before -/
theorem get_pop {H : Heap} {o : AObj} {id : Nat} (h : id < H.length) : (H ++ [o])[id]? = H[id]? := List.getElem?_append_left h

theorem ld_pop {agg : Bool} {n : Nat} {p : AV} {H : Heap} {o : AObj} (h : Lt H.length p) : ld agg n p (H ++ [o]) = ld agg n p H := by
  unfold ld
  cases h <;> first | rfl | skip
  all_goals
    rename_i h
    simp only [get_pop h]

theorem ldS_pop {agg : Bool} {n : Nat} {p : AV} {H : Heap} {o : AObj} (h : Lt H.length p) : ldS agg n p (H ++ [o]) = ldS agg n p H := by
  unfold ldS
  split
  · rfl
  · exact ld_pop h

theorem pureLeaf_pop {x : AV} {H : Heap} {o : AObj} (h : Lt H.length x) : pureLeaf (H ++ [o]) x = pureLeaf H x := by
  unfold pureLeaf
  cases h <;> first | rfl | skip
  rename_i h
  simp only [get_pop h]

theorem pureLeaves_pop {H : Heap} {o : AObj} : ∀ (xs : List AV), (∀ x ∈ xs, Lt H.length x) → pureLeaves (H ++ [o]) xs = pureLeaves H xs := by
  intro xs
  induction xs with
  | nil => intro _; rfl
  | cons x xs ih =>
    intro h
    simp only [pureLeaves, pureLeaf_pop (h x (by simp)), ih fun x hx => h x (by simp [hx])]

theorem pureArg_pop {x : AV} {H : Heap} {o : AObj} (h : Lt H.length x) : pureArg (H ++ [o]) x = pureArg H x := by
  unfold pureArg
  split
  · rename_i xs
    cases h with
    | agg h => rw [pureLeaves_pop xs h]
  · exact pureLeaf_pop h

theorem pureArgs_pop {H : Heap} {o : AObj} : ∀ (xs : List AV), (∀ x ∈ xs, Lt H.length x) → pureArgs (H ++ [o]) xs = pureArgs H xs := by
  intro xs
  induction xs with
  | nil => intro _; rfl
  | cons x xs ih =>
    intro h
    simp only [pureArgs, pureArg_pop (h x (by simp)), ih fun x hx => h x (by simp [hx])]

theorem cutA_pop {sz : Nat} {x : AV} {l h m : Option AV} {H : Heap} {o : AObj} (e : Lt H.length x) : cutA sz x l h m (H ++ [o]) = cutA sz x l h m H := by
  unfold cutA
  cases e <;> first | rfl | skip
  · rename_i y; cases y <;> rfl
  · rename_i e
    simp only [get_pop e]

theorem cutArr_pop {sz n : Nat} {x : AV} {l h : Option AV} {H : Heap} {o : AObj} (e : Lt H.length x) : cutArr sz n x l h (H ++ [o]) = cutArr sz n x l h H := by
  unfold cutArr
  cases e <;> first | rfl | skip
  all_goals
    rename_i e
    simp only [get_pop e]

theorem lenA_pop {ty : Ty} {x : AV} {H : Heap} {o : AObj} (e : Lt H.length x) : lenA ty x (H ++ [o]) = lenA ty x H := by
  unfold lenA
  split <;> first | rfl | skip
  cases e with
  | mp e => simp only [get_pop e]

theorem lookA_pop {ty : Ty} {Z M K : AV} {ok2 : Bool} {H : Heap} {x : AObj} (e : Lt H.length M) : lookA ty Z ok2 M K (H ++ [x]) = lookA ty Z ok2 M K H := by
  have : entsA M (H ++ [x]) = entsA M H := by
    unfold entsA
    split <;> first | rfl | skip
    cases e with
    | mp e => simp only [get_pop e]
  unfold lookA
  rw [this]

/-- What an operation looks at leads no further than the heap did. -/
def Cl (n : Nat) (s : Slots) (o : Oper) : Prop := ∀ x ∈ o.op.operands, Lt n (ev s x)

theorem Cl.list {n : Nat} {s : Slots} (l : List Operand) (h : ∀ x ∈ l, Lt n (ev s x)) : ∀ y ∈ l.map (ev s), Lt n y := by
  intro y hy
  obtain ⟨x, hx, rfl⟩ := List.mem_map.mp hy
  exact h x hx

theorem cl_setDst {all : Array Oper} {y : Oper} {s : Slots} {d : Option Tmp} {v : AV} {n : Nat} (h : ∀ t, d = some t → t ∉ y.looksAt all) (c : Cl n s y) : Cl n (setDst d v s) y := by
  intro x hx
  rw [ev_setDst fun t ht hxt => by
    subst hxt
    exact h t ht (List.mem_append_left _ (List.mem_filterMap.2 ⟨.tmp t, by simpa using hx, rfl⟩))]
  exact c x hx

theorem quiet1_pop {o : Oper} {s : Slots} {H : Heap} {x : AObj} (h : quiet1 cfg f o = true) (hc : Cl H.length s o) {v : AV} {H1 : Heap} (e : outO (exec1 P cfg O f lo o s (H ++ [x])) (H ++ [x]) = some (v, H1)) : H1 = H ++ [x] ∧ outO (exec1 P cfg O f lo o s H) H = some (v, H) := by
  have hq := quiet1_out h e
  refine ⟨hq, ?_⟩
  subst hq
  unfold quiet1 at h
  rw [Bool.or_eq_true] at h
  rcases h with h | h
  · obtain ⟨out, h1, h2⟩ := quiet0_out (P := P) (cfg := cfg) (O := O) (f := f) (lo := lo) (s := s) h
    rw [h1] at e ⊢
    cases out with
    | val q => cases e; rfl
    | opt q =>
      simp only [outO, Option.map_eq_some_iff] at e ⊢
      obtain ⟨y, e1, e2⟩ := e
      cases e2
      exact ⟨_, e1, rfl⟩
    | heap q => exact (h2 _ rfl).elim
    | no => cases e
  · have key : ∀ {a b : Option AV}, a = b → outO (.opt a) (H ++ [x]) = some (v, H ++ [x]) → outO (.opt b) H = some (v, H) := by
      intro a b hab e
      subst hab
      cases a with
      | none => cases e
      | some a =>
        simp only [outO, Option.map_some, Option.some.injEq, Prod.mk.injEq] at e ⊢
        exact ⟨e.1, trivial⟩
    obtain ⟨dst, op, type, pos, after, guard⟩ := o
    cases op <;> simp only [reduceCtorEq] at h
    case load t a =>
      have ha : Lt H.length (ev s a) := hc a (by simp [Op.operands])
      simp only [exec1] at e ⊢
      split at e
      · rename_i hok
        rw [if_pos hok]
        refine key ?_ e
        cases cfg.flat f (dstNo _) with
        | true => rfl
        | false =>
        cases cfg.ownLit f (dstNo _) with
        | false => exact ld_pop ha
        | true => exact ldS_pop ha
      · cases e
    case lookup t y k ok2 =>
      have ha : Lt H.length (ev s y) := hc y (by simp [Op.operands])
      simp only [exec1] at e ⊢
      split at e
      · split at e
        · exact key (lookA_pop ha) e
        · cases e
      · cases e
    case slice t y l hh m =>
      have ha : Lt H.length (ev s y) := hc y (by simp [Op.operands])
      simp only [exec1] at e ⊢
      split at e
      · split at e
        · rename_i hok
          rw [if_pos hok]
          exact key (cutA_pop ha) e
        · cases e
      · exact key rfl e
      · split at e
        · split at e
          · rename_i hok
            rw [if_pos hok]
            exact key (cutArr_pop ha) e
          · cases e
        · cases e
      · cases e
    case call c =>
      obtain ⟨callee, args, argTypes⟩ := c
      have hl : ∀ y ∈ args.toList.map (ev s), Lt H.length y := Cl.list _ fun y hy => hc y (by simp at hy; simp [Op.operands, Call.operands, hy])
      cases callee with
      | value g =>
        cases g <;> simp only [reduceCtorEq] at h
        rename_i g
        have hm : cfg.mode g = 0 := Nat.eq_of_beq_eq_true h
        simp only [exec1, outO, callA, hm] at e ⊢
        rw [pureArgs_pop _ hl] at e
        simp only [Option.bind_eq_some_iff] at e ⊢
        obtain ⟨q, e1, r, e2, e3⟩ := e
        refine ⟨q, e1, r, e2, ?_⟩
        split at e3
        · rename_i hcnd
          rw [if_pos hcnd]
          simp only [Option.some.injEq, Prod.mk.injEq] at e3 ⊢
          exact ⟨e3.1, trivial⟩
        · cases e3
      | invoke _ _ => simp only [reduceCtorEq] at h
      | builtin b =>
        have hl2 : ∀ y ∈ args.toList, Lt H.length (ev s y) := fun y hy => hl _ (List.mem_map_of_mem hy)
        simp only [exec1] at e ⊢
        generalize args.toList = l at e hl2 ⊢
        cases b <;> simp only [reduceCtorEq] at h
        case len =>
          match l, e, hl2 with
          | [], e, _ => cases e
          | [y], e, hl2 =>
            have hy := hl2 y (by simp)
            simp only at e ⊢
            split at e
            · exact key (lenA_pop hy) e
            · cases e
          | y :: z :: r, e, _ => cases e
        case cap =>
          match l, e with
          | [], e => cases e
          | [y], e =>
            simp only at e ⊢
            repeat' split at e
            all_goals first | exact key rfl e | cases e
          | y :: z :: r, e => cases e
        case max =>
          match l, e with
          | [], e => cases e
          | y :: r, e => exact key rfl e
        case min =>
          match l, e with
          | [], e => cases e
          | y :: r, e => exact key rfl e

theorem stepO_quiet1_pop {all : Array Oper} {o : Oper} {s : Slots} {H H1 : Heap} {v : AV} {x : AObj} (h : quiet1 cfg f o = true) (hc : Cl H.length s o) (e : stepO P cfg O f lo all o s (H ++ [x]) = some (v, H1)) : H1 = H ++ [x] ∧ stepO P cfg O f lo all o s H = some (v, H) := by
  unfold stepO at e ⊢
  cases hg : o.guard with
  | none => rw [hg] at e; exact quiet1_pop h hc e
  | some p =>
    obtain ⟨j, want⟩ := p
    rw [hg] at e
    simp only at e ⊢
    cases hd : (all[j]?).bind (·.dst) with
    | none => rw [hd] at e; cases e
    | some t =>
      rw [hd] at e
      simp only at e ⊢
      have hno : exec1 P cfg O f lo o s (H ++ [x]) ≠ .no := by intro e'; rw [e'] at e; cases e
      have hno' : exec1 P cfg O f lo o s H ≠ .no := fun e' => hno (quiet1_no h e')
      have e1 : gdH (s t) want (outO (exec1 P cfg O f lo o s (H ++ [x])) (H ++ [x])) (H ++ [x]) = some (v, H1) := by
        revert e hno
        cases exec1 P cfg O f lo o s (H ++ [x]) <;> intro e hno <;> first | exact (hno rfl).elim | exact e
      have e2 : H1 = H ++ [x] ∧ gdH (s t) want (outO (exec1 P cfg O f lo o s H) H) H = some (v, H) := by
        rcases gdH_inv e1 with ⟨k1, k2⟩ | ⟨k1, k2⟩
        · obtain ⟨q1, q2⟩ := quiet1_pop h hc k2
          refine ⟨q1, ?_⟩
          rw [k1]
          simp only [gdH, if_true]
          exact q2
        · cases k2
          refine ⟨rfl, ?_⟩
          rcases k1 with ⟨b, k1, k3⟩ | k1
          · rw [k1]; simp only [gdH, if_neg k3]
          · rw [k1]; rfl
      refine ⟨e2.1, ?_⟩
      revert hno'
      cases hx : exec1 P cfg O f lo o s H <;> intro hno' <;> first | exact (hno' rfl).elim | (rw [hx] at e2; exact e2.2)

/-! ### Rows stay rows, of the same cells an element -/
def Rws (H H1 : Heap) : Prop := H.length ≤ H1.length ∧ ∀ id, id < H.length → ∀ sz, (∃ g xs, H[id]? = some (.row g sz xs)) ↔ ∃ g xs, H1[id]? = some (.row g sz xs)

theorem Rws.refl (H : Heap) : Rws H H := ⟨Nat.le_refl _, fun _ _ _ => Iff.rfl⟩
theorem Rws.trans {A B C : Heap} (h : Rws A B) (k : Rws B C) : Rws A C := ⟨Nat.le_trans h.1 k.1, fun id hid sz => (h.2 id hid sz).trans (k.2 id (Nat.lt_of_lt_of_le hid h.1) sz)⟩
theorem Rws.push (H : Heap) (o : AObj) : Rws H (H ++ [o]) := ⟨by simp, fun id hid sz => by rw [get_pop hid]⟩
theorem Rws.set {H : Heap} {id g g2 sz : Nat} {xs ys : List PV} (ho : H[id]? = some (.row g sz xs)) : Rws H (H.set id (.row g2 sz ys)) := by
  refine ⟨by simp, fun k hk s2 => ?_⟩
  by_cases e : id = k
  · subst e
    rw [List.getElem?_set_self hk, ho]
    constructor
    · rintro ⟨_, _, e⟩; cases e; exact ⟨_, _, rfl⟩
    · rintro ⟨_, _, e⟩; cases e; exact ⟨_, _, rfl⟩
  · rw [List.getElem?_set_ne e]

theorem toPV_rws {H H1 : Heap} {y : AV} {x : PV} (e : toPV H y = some (x, H1)) : Rws H H1 := by
  unfold toPV at e
  split at e
  · cases e; exact .refl _
  · split at e
    · rename_i ho
      split at e
      · cases e; exact .set ho
      · cases e
    · cases e
  · cases e

theorem toPVs_rws : ∀ (ys : List AV) {H H1 : Heap} {xs : List PV}, toPVs H ys = some (xs, H1) → Rws H H1 := by
  intro ys
  induction ys with
  | nil => intro H H1 xs e; cases e; exact .refl _
  | cons y ys ih =>
    intro H H1 xs e
    simp only [toPVs, Option.bind_eq_some_iff, Option.map_eq_some_iff] at e
    obtain ⟨⟨x, H2⟩, e1, ⟨q, H3⟩, e2, e3⟩ := e
    cases e3
    exact (toPV_rws e1).trans (ih e2)

theorem litA_rws {own : Bool} {sz : Nat} {ps : List AV} {H H1 : Heap} {v : AV} (e : litA own sz ps H = some (v, H1)) : Rws H H1 := by
  unfold litA at e
  split at e
  · rw [Option.bind_eq_some_iff] at e
    obtain ⟨⟨q, H2⟩, e1, e⟩ := e
    have := toPVs_rws _ e1
    split at e
    · cases e; exact this.trans (.push _ _)
    · cases e; exact this
  · cases e

theorem appTo_rws {sz bytes k : Nat} {x v : AV} {new : List PV} {H H1 : Heap} (e : appTo sz bytes x k new H = some (v, H1)) : Rws H H1 := by
  unfold appTo at e
  split at e
  · split at e
    · cases e; exact .refl _
    · split at e
      · cases e; exact .push _ _
      · cases e
  · split at e
    · cases e; exact .refl _
    · split at e
      · cases e; exact .push _ _
      · cases e
  · split at e
    · rename_i ho
      split at e
      · rename_i hc
        cases e
        rw [← hc.2.1]
        exact .set ho
      · cases e
    · cases e
  · cases e

theorem appA_rws {sz bytes : Nat} {x y v : AV} {H H1 : Heap} (e : appA sz bytes x y H = some (v, H1)) : Rws H H1 := by
  unfold appA at e
  rw [Option.bind_eq_some_iff] at e
  obtain ⟨r, _, e⟩ := e
  exact appTo_rws e

theorem appZ_rws {sz bytes : Nat} {z : List PV} {x n v : AV} {H H1 : Heap} (e : appZ sz bytes z x n H = some (v, H1)) : Rws H H1 := by
  unfold appZ at e
  rw [Option.bind_eq_some_iff] at e
  obtain ⟨r, _, e⟩ := e
  split at e
  · exact appTo_rws e
  · cases e

theorem copyA_rws {sz : Nat} {x y v : AV} {H H1 : Heap} (e : copyA sz x y H = some (v, H1)) : Rws H H1 := by
  unfold copyA at e
  split at e
  · split at e
    · rename_i ho
      split at e
      · rename_i hc
        rw [Option.bind_eq_some_iff] at e
        obtain ⟨r, _, e⟩ := e
        cases e
        rw [← hc.2.1]
        exact .set ho
      · cases e
    · cases e
  · cases e

theorem clearA_rws {sz : Nat} {z : List PV} {x : AV} {H H1 : Heap} (e : clearA sz z x H = some H1) : Rws H H1 := by
  unfold clearA at e
  split at e
  · cases e; exact .refl _
  · split at e
    · rename_i ho
      split at e
      · rename_i hc
        cases e
        rw [← hc.2.1]
        exact .set ho
      · cases e
    · cases e
  · cases e

theorem rowOnly_rws {o : Oper} {s : Slots} {H H1 : Heap} {v : AV} (h : rowOnly cfg f o = true) (e : outO (exec1 P cfg O f lo o s H) H = some (v, H1)) : Rws H H1 := by
  obtain ⟨dst, op, type, pos, after, guard⟩ := o
  cases op <;> simp only [rowOnly, reduceCtorEq] at h
  case buildSlice t n parts =>
    simp only [exec1, h, if_true] at e
    split at e
    · split at e
      · generalize cfg.flat f _ = b at e
        cases b with
        | false => exact litA_rws e
        | true =>
          simp only [cond_true, outO, Option.map_eq_some_iff] at e
          obtain ⟨y, _, e⟩ := e
          cases e
          exact .refl _
      · cases e
    · cases e
  case call c =>
    obtain ⟨callee, args, argTypes⟩ := c
    cases callee with
    | value g => simp only [reduceCtorEq] at h
    | invoke _ _ => simp only [reduceCtorEq] at h
    | builtin b =>
      simp only [exec1] at e
      generalize args.toList = l at e
      cases b <;> simp only [reduceCtorEq] at h
      all_goals
        match l, e with
        | [], e => cases e
        | [y], e =>
          first
            | (cases e; done)
            | (simp only at e
               repeat' split at e
               all_goals first
                 | (simp only [outO, Option.map_eq_some_iff] at e
                    obtain ⟨H2, e2, e⟩ := e
                    cases e
                    exact clearA_rws e2)
                 | cases e)
        | y :: z :: u :: r, e => cases e
        | [y, z], e =>
          first
            | (cases e; done)
            | (simp only at e
               repeat' split at e
               all_goals first | exact appA_rws e | exact appZ_rws e | exact copyA_rws e | cases e)

theorem stepO_rws {all : Array Oper} {o : Oper} {s : Slots} {H H1 : Heap} {v : AV} (h : rowOnly cfg f o = true) (e : stepO P cfg O f lo all o s H = some (v, H1)) : Rws H H1 := by
  unfold stepO at e
  cases hg : o.guard with
  | none => rw [hg] at e; exact rowOnly_rws h e
  | some p =>
    obtain ⟨j, want⟩ := p
    rw [hg] at e
    simp only at e
    cases hd : (all[j]?).bind (·.dst) with
    | none => rw [hd] at e; cases e
    | some t =>
      rw [hd] at e
      simp only at e
      have hno : exec1 P cfg O f lo o s H ≠ .no := by intro e'; rw [e'] at e; cases e
      have e' : gdH (s t) want (outO (exec1 P cfg O f lo o s H) H) H = some (v, H1) := by
        revert e hno
        cases exec1 P cfg O f lo o s H <;> intro e hno <;> first | exact (hno rfl).elim | exact e
      rcases gdH_inv e' with ⟨_, e2⟩ | ⟨_, e2⟩
      · exact rowOnly_rws h e2
      · cases e2; exact .refl _

theorem cutA_rws {sz : Nat} {x v : AV} {l h m : Option AV} {H H' : Heap} (hx : ∀ id g off n, x = .row id g off n → (∃ g xs, H[id]? = some (.row g sz xs)) → ∃ g xs, H'[id]? = some (.row g sz xs)) (e : cutA sz x l h m H = some v) : cutA sz x l h m H' = some v := by
  unfold cutA at e ⊢
  cases x <;> first | exact e | skip
  case p y => cases y <;> exact e
  rename_i id g off n
  simp only [Option.bind_eq_some_iff] at e ⊢
  obtain ⟨a, h1, b, h2, e⟩ := e
  refine ⟨a, h1, b, h2, ?_⟩
  cases m with
  | some m => exact e
  | none =>
    simp only at e ⊢
    split at e
    · rename_i g' sz' xs ho
      split at e
      · rename_i hc
        obtain ⟨rfl, hc⟩ := hc
        obtain ⟨g2, xs2, ho2⟩ := hx id g off n rfl ⟨_, _, ho⟩
        rw [ho2]
        simp only [true_and]
        rw [if_pos hc]
        exact e
      · cases e
    · cases e

theorem cutter_out {o : Oper} {s : Slots} {H H' H1 : Heap} {v : AV} (h : cutter P o = true) (hx : ∀ id sz, (∃ y ∈ o.op.operands, ∃ g off n, ev s y = .row id g off n) → (∃ g xs, H[id]? = some (.row g sz xs)) → ∃ g xs, H'[id]? = some (.row g sz xs)) (e : outO (exec1 P cfg O f lo o s H) H = some (v, H1)) :
    H1 = H ∧ outO (exec1 P cfg O f lo o s H') H' = some (v, H') := by
  obtain ⟨dst, op, type, pos, after, guard⟩ := o
  cases op <;> simp only [cutter, reduceCtorEq] at h
  rename_i t y l hh m
  obtain ⟨e0, he0⟩ := Option.isSome_iff_exists.mp h
  simp only [exec1, he0] at e ⊢
  split at e
  · rename_i hok
    rw [if_pos hok]
    simp only [outO, Option.map_eq_some_iff] at e ⊢
    obtain ⟨z, hz, e⟩ := e
    cases e
    exact ⟨rfl, _, cutA_rws (fun id g off n hy => hx id _ ⟨y, by simp [Op.operands], g, off, n, hy⟩) hz, rfl⟩
  · cases e

theorem cutter_no {o : Oper} {s : Slots} {H H' : Heap} (h : cutter P o = true) (e : exec1 P cfg O f lo o s H' = .no) : exec1 P cfg O f lo o s H = .no := by
  obtain ⟨dst, op, type, pos, after, guard⟩ := o
  cases op <;> simp only [cutter, reduceCtorEq] at h
  rename_i t y l hh m
  obtain ⟨e0, he0⟩ := Option.isSome_iff_exists.mp h
  simp only [exec1, he0] at e ⊢
  split at e
  · cases e
  · rename_i hok; rw [if_neg hok]

theorem stepO_cutter {all : Array Oper} {o : Oper} {s : Slots} {H H' H1 : Heap} {v : AV} (h : cutter P o = true) (hx : ∀ id sz, (∃ y ∈ o.op.operands, ∃ g off n, ev s y = .row id g off n) → (∃ g xs, H[id]? = some (.row g sz xs)) → ∃ g xs, H'[id]? = some (.row g sz xs))
    (e : stepO P cfg O f lo all o s H = some (v, H1)) : H1 = H ∧ stepO P cfg O f lo all o s H' = some (v, H') := by
  unfold stepO at e ⊢
  cases hg : o.guard with
  | none => rw [hg] at e; exact cutter_out h hx e
  | some p =>
    obtain ⟨j, want⟩ := p
    rw [hg] at e
    simp only at e ⊢
    cases hd : (all[j]?).bind (·.dst) with
    | none => rw [hd] at e; cases e
    | some t =>
      rw [hd] at e
      simp only at e ⊢
      have hno : exec1 P cfg O f lo o s H ≠ .no := by intro e'; rw [e'] at e; cases e
      have hno' : exec1 P cfg O f lo o s H' ≠ .no := fun e' => hno (cutter_no h e')
      have e1 : gdH (s t) want (outO (exec1 P cfg O f lo o s H) H) H = some (v, H1) := by
        revert e hno
        cases exec1 P cfg O f lo o s H <;> intro e hno <;> first | exact (hno rfl).elim | exact e
      have e2 : H1 = H ∧ gdH (s t) want (outO (exec1 P cfg O f lo o s H') H') H' = some (v, H') := by
        rcases gdH_inv e1 with ⟨k1, k2⟩ | ⟨k1, k2⟩
        · obtain ⟨q1, q2⟩ := cutter_out h hx k2
          refine ⟨q1, ?_⟩
          rw [k1]
          simp only [gdH, if_true]
          exact q2
        · cases k2
          refine ⟨rfl, ?_⟩
          rcases k1 with ⟨b, k1, k3⟩ | k1
          · rw [k1]; simp only [gdH, if_neg k3]
          · rw [k1]; rfl
      refine ⟨e2.1, ?_⟩
      revert hno'
      cases hx : exec1 P cfg O f lo o s H' <;> intro hno' <;> first | exact (hno' rfl).elim | (rw [hx] at e2; exact e2.2)

/-! ### Variables that take the places kept for them -/
theorem fill_len {m r : Nat} {xs : List AV} {v : AV} {H H1 : Heap} (e : fillA m r xs H = some (v, H1)) : H1.length = H.length := by
  unfold fillA at e
  split at e
  · split at e
    · cases e; simp
    · cases e
  · cases e

theorem fill_comm {m r q : Nat} {xs ys : List AV} {v u : AV} {H H1 H2 : Heap} (hr : r < m) (hq : q < m) (hne : r ≠ q) (e1 : fillA m r xs H = some (v, H1)) (e2 : fillA m q ys H1 = some (u, H2)) :
    ∃ H3, fillA m q ys H = some (u, H3) ∧ fillA m r xs H3 = some (v, H2) := by
  have l1 := fill_len e1
  have hA : ∀ (H : Heap) r, holeAt m r H = H.length - m + r := fun H r => if_neg (by omega)
  unfold fillA at e1
  rw [hA] at e1
  split at e1
  · rename_i cs hc ho
    split at e1
    · rename_i k1
      cases e1
      unfold fillA at e2
      rw [hA] at e2
      split at e2
      · rename_i ds hd ho2
        split at e2
        · rename_i k2
          cases e2
          rw [l1] at ho2 k2 ⊢
          have ne : H.length - m + r ≠ H.length - m + q := by omega
          rw [List.getElem?_set_ne ne] at ho2
          refine ⟨H.set (H.length - m + q) (.box (ds.map .p)), ?_, ?_⟩
          · unfold fillA
            rw [hA, hd, ho2]
            simp only
            rw [if_pos k2]
          · unfold fillA
            rw [hA, List.length_set, hc, List.getElem?_set_ne (Ne.symm ne), ho]
            simp only
            rw [if_pos k1, List.set_comm _ _ ne]
        · cases e2
      · cases e2
    · cases e1
  · cases e1

theorem filler_out {o : Oper} {s : Slots} {p : Nat × Nat} (h : filler P cfg f o = some p) : ∃ zc : Option (List AV), ∀ H, exec1 P cfg O f lo o s H = match zc with | some c => .heap (fillA p.1 p.2 c H) | none => .no := by
  obtain ⟨dst, op, type, pos, after, guard⟩ := o
  cases op <;> simp only [filler, reduceCtorEq] at h
  rename_i t
  split at h
  · rename_i ha
    have ha' : arrOf P t = none := Option.isNone_iff_eq_none.mp ha
    refine ⟨(zeroOf P t).map AV.cells, fun H => ?_⟩
    simp only [exec1, arrBox, ha', ite_self]
    cases zeroOf P t with
    | none => rfl
    | some z => simp only [h, Option.map_some]
  · cases h

theorem stepO_fill {all : Array Oper} {o : Oper} {s : Slots} {H H1 : Heap} {v : AV} {p : Nat × Nat} (h : filler P cfg f o = some p) (e : stepO P cfg O f lo all o s H = some (v, H1)) :
    (∃ c, fillA p.1 p.2 c H = some (v, H1) ∧ ∀ H', stepO P cfg O f lo all o s H' = fillA p.1 p.2 c H') ∨ (H1 = H ∧ ∀ H', stepO P cfg O f lo all o s H' = some (v, H')) := by
  obtain ⟨zc, hz⟩ := filler_out (P := P) (cfg := cfg) (O := O) (f := f) (lo := lo) (s := s) h
  unfold stepO at e ⊢
  simp only [hz] at e ⊢
  cases hg : o.guard with
  | none =>
    rw [hg] at e
    simp only at e ⊢
    cases zc with
    | none => cases e
    | some c => exact .inl ⟨c, e, fun H' => rfl⟩
  | some q =>
    obtain ⟨j, want⟩ := q
    rw [hg] at e
    simp only at e ⊢
    cases hd : (all[j]?).bind (·.dst) with
    | none => rw [hd] at e; cases e
    | some t =>
      rw [hd] at e
      simp only at e ⊢
      cases zc with
      | none => cases e
      | some c =>
        simp only [outO] at e ⊢
        rcases gdH_inv e with ⟨k1, k2⟩ | ⟨k1, k2⟩
        · refine .inl ⟨c, k2, fun H' => ?_⟩
          rw [k1]
          simp only [gdH, if_true]
        · cases k2
          refine .inr ⟨rfl, fun H' => ?_⟩
          rcases k1 with ⟨b, k1, k3⟩ | k1
          · rw [k1]; simp only [gdH, if_neg k3]
          · rw [k1]; rfl

theorem rowsH_out {H H' H2 : Heap} {x v : AV} (h : rowsH H x H' = some (v, H2)) : v = x ∧ H2 = H' ∧ H.length ≤ H'.length ∧ ∀ (id : Nat) zs, H[id]? = some (.box zs) ↔ H'[id]? = some (.box zs) := by
  unfold rowsH at h
  split at h
  · rename_i hh
    cases h
    exact ⟨rfl, rfl, hh⟩
  · cases h
theorem callRows_out {o : Oper} {s : Slots} {H H1 : Heap} {v : AV} (h : callRows cfg o = true) (e : outO (exec1 P cfg O f lo o s H) H = some (v, H1)) : H.length ≤ H1.length ∧ ∀ (id : Nat) zs, H[id]? = some (.box zs) ↔ H1[id]? = some (.box zs) := by
  obtain ⟨dst, op, type, pos, after, guard⟩ := o
  cases op <;> simp only [callRows, reduceCtorEq] at h
  case call c =>
    obtain ⟨callee, args, argTypes⟩ := c
    cases callee with
    | value g =>
      cases g <;> simp only [reduceCtorEq] at h
      rename_i g
      rw [Bool.or_eq_true] at h
      rcases h with h | h
      · have hm : cfg.mode g = 6 := Nat.eq_of_beq_eq_true h
        simp only [exec1, outO, callA, hm, Option.bind_eq_some_iff] at e
        obtain ⟨r, _, e⟩ := e
        obtain ⟨_, rfl, k1, k2⟩ := rowsH_out e
        exact ⟨k1, k2⟩
      · have hm : cfg.mode g = 9 := Nat.eq_of_beq_eq_true h
        simp only [exec1, outO, callA, hm, Option.bind_eq_some_iff] at e
        obtain ⟨r, _, q, e1, e⟩ := e
        obtain ⟨q1, q2⟩ := q
        obtain ⟨_, rfl, k1, k2⟩ := rowsH_out e1
        obtain ⟨_, rfl⟩ := holeH_out e
        exact ⟨k1, k2⟩
    | invoke _ _ => simp only [reduceCtorEq] at h
    | builtin b => simp only [reduceCtorEq] at h
theorem stepO_callRows {all : Array Oper} {o : Oper} {s : Slots} {H H1 : Heap} {v : AV} (h : callRows cfg o = true) (e : stepO P cfg O f lo all o s H = some (v, H1)) : H.length ≤ H1.length ∧ ∀ (id : Nat) zs, H[id]? = some (.box zs) ↔ H1[id]? = some (.box zs) := by
  unfold stepO at e
  cases hg : o.guard with
  | none => rw [hg] at e; exact callRows_out h e
  | some p =>
    obtain ⟨j, want⟩ := p
    rw [hg] at e
    simp only at e
    cases hd : (all[j]?).bind (·.dst) with
    | none => rw [hd] at e; cases e
    | some t =>
      rw [hd] at e
      simp only at e
      have e' : gdH (s t) want (outO (exec1 P cfg O f lo o s H) H) H = some (v, H1) := by
        revert e
        cases exec1 P cfg O f lo o s H <;> intro e <;> first | exact e | cases e
      unfold gdH at e'
      split at e'
      · split at e'
        · exact callRows_out h e'
        · cases e'; exact ⟨Nat.le_refl _, fun _ _ => Iff.rfl⟩
      · cases e'; exact ⟨Nat.le_refl _, fun _ _ => Iff.rfl⟩
      · cases e'
theorem stepO_rowOnly' {all : Array Oper} {o : Oper} {s : Slots} {H H1 : Heap} {v : AV} (h : (rowOnly cfg f o || callRows cfg o) = true) (e : stepO P cfg O f lo all o s H = some (v, H1)) : H.length ≤ H1.length ∧ ∀ (id : Nat) zs, H[id]? = some (.box zs) ↔ H1[id]? = some (.box zs) := by
  rw [Bool.or_eq_true] at h
  rcases h with h | h
  · exact ⟨(stepO_rws h e).1, fun id zs => stepO_rowOnly h e id zs⟩
  · exact stepO_callRows h e

theorem boolsH_out {H H' H2 : Heap} {x v : AV} (h : boolsH H x H' = some (v, H2)) : v = x ∧ H2 = H' ∧ H.length ≤ H'.length ∧ ∀ id : Nat, hideO H[id]? = hideO H'[id]? := by
  unfold boolsH at h
  split at h
  · rename_i hh
    cases h
    exact ⟨rfl, rfl, hh⟩
  · cases h

theorem callA_bools {g : FuncId} {xs : List AV} {H H1 : Heap} {v : AV} (hm : (Nat.beq (cfg.mode g) 7 || Nat.beq (cfg.mode g) 10) = true) (e : callA cfg O g xs lo H = some (v, H1)) : H.length ≤ H1.length ∧ ∀ id : Nat, hideO H[id]? = hideO H1[id]? := by
  rw [Bool.or_eq_true] at hm
  rcases hm with h | h
  · have hm : cfg.mode g = 7 := Nat.eq_of_beq_eq_true h
    simp only [callA, hm, Option.bind_eq_some_iff] at e
    obtain ⟨r, _, e⟩ := e
    obtain ⟨_, rfl, k1, k2⟩ := boolsH_out e
    exact ⟨k1, k2⟩
  · have hm : cfg.mode g = 10 := Nat.eq_of_beq_eq_true h
    simp only [callA, hm, Option.bind_eq_some_iff] at e
    obtain ⟨r, _, q, e1, e⟩ := e
    obtain ⟨q1, q2⟩ := q
    obtain ⟨_, rfl, k1, k2⟩ := boolsH_out e1
    obtain ⟨_, rfl⟩ := lastH_out e
    exact ⟨k1, k2⟩
theorem callC_bools {k : ClK} {x : AV} {xs : List AV} {H H1 : Heap} {v : AV} (hk : k ≠ .same) (e : callC cfg O (some k) x xs lo H = some (v, H1)) : H.length ≤ H1.length ∧ ∀ id : Nat, hideO H[id]? = hideO H1[id]? := by
  obtain ⟨g, fs, cs, rfl, hc, e'⟩ := callC_inv e
  clear e
  cases k with
  | bools => exact callA_bools hc e'
  | past zs =>
    simp only [closV, Bool.and_eq_true] at hc
    exact callA_bools (by rw [hc.1, Bool.or_true]) e'
  | same => exact (hk rfl).elim
theorem callBools_out {o : Oper} {s : Slots} {H H1 : Heap} {v : AV} (h : callBools cfg f o = true) (e : outO (exec1 P cfg O f lo o s H) H = some (v, H1)) : H.length ≤ H1.length ∧ ∀ id : Nat, hideO H[id]? = hideO H1[id]? := by
  obtain ⟨dst, op, type, pos, after, guard⟩ := o
  cases op <;> simp only [callBools, reduceCtorEq] at h
  case call c =>
    obtain ⟨callee, args, argTypes⟩ := c
    cases callee with
    | value g =>
      cases g with
      | func g =>
        simp only [exec1, outO] at e
        exact callA_bools h e
      | tmp g =>
        have h : isBoolsK (cfg.clos f (dstNo ⟨dst, .call ⟨.value (.tmp g), args, argTypes⟩, type, pos, after, guard⟩)) = true := h
        obtain ⟨k, hk, hn⟩ := isBoolsK_inv h
        simp only [exec1, outO, hk] at e
        exact callC_bools hn e
      | const g =>
        have h : isBoolsK (cfg.clos f (dstNo ⟨dst, .call ⟨.value (.const g), args, argTypes⟩, type, pos, after, guard⟩)) = true := h
        obtain ⟨k, hk, hn⟩ := isBoolsK_inv h
        simp only [exec1, outO, hk] at e
        exact callC_bools hn e
      | global g =>
        have h : isBoolsK (cfg.clos f (dstNo ⟨dst, .call ⟨.value (.global g), args, argTypes⟩, type, pos, after, guard⟩)) = true := h
        obtain ⟨k, hk, hn⟩ := isBoolsK_inv h
        simp only [exec1, outO, hk] at e
        exact callC_bools hn e
    | invoke _ _ => simp only [reduceCtorEq] at h
    | builtin b => simp only [reduceCtorEq] at h

/-- What holds of an operation's heap with no guard, and of a heap left as it is, holds with one. -/
theorem stepO_any {R : Heap → Heap → Prop} (hR : ∀ H, R H H) {all : Array Oper} {o : Oper} {s : Slots} {H H1 : Heap} {v : AV} (k : ∀ v H1, outO (exec1 P cfg O f lo o s H) H = some (v, H1) → R H H1) (e : stepO P cfg O f lo all o s H = some (v, H1)) : R H H1 := by
  unfold stepO at e
  cases hg : o.guard with
  | none => rw [hg] at e; exact k _ _ e
  | some p =>
    obtain ⟨j, want⟩ := p
    rw [hg] at e
    simp only at e
    cases hd : (all[j]?).bind (·.dst) with
    | none => rw [hd] at e; cases e
    | some t =>
      rw [hd] at e
      simp only at e
      have e' : gdH (s t) want (outO (exec1 P cfg O f lo o s H) H) H = some (v, H1) := by
        revert e
        cases exec1 P cfg O f lo o s H <;> intro e <;> first | exact e | cases e
      unfold gdH at e'
      split at e'
      · split at e'
        · exact k _ _ e'
        · cases e'; exact hR _
      · cases e'; exact hR _
      · cases e'

/-! ### A variable at the only place kept, ahead of what comes before it -/
theorem no_hole {H : Heap} (h : ∀ o ∈ H, isHole o = false) (i : Nat) : H[i]? ≠ some .hole := fun e => by
  have := h _ (List.mem_of_getElem? e)
  cases this

theorem callPast_out {zs : List PV} {o : Oper} {s : Slots} {H H1 : Heap} {v : AV} (h : callPast cfg zs o = true) (e : outO (exec1 P cfg O f lo o s H) H = some (v, H1)) (hh : H1[H1.findIdx isHole]? = some .hole) :
    H.findIdx isHole = H1.findIdx isHole ∧ H[H.findIdx isHole]? = some .hole ∧ outO (exec1 P cfg O f lo o s (H.set (H1.findIdx isHole) (.box (zs.map .p)))) (H.set (H1.findIdx isHole) (.box (zs.map .p))) = some (v, H1.set (H1.findIdx isHole) (.box (zs.map .p))) := by
  obtain ⟨dst, op, type, pos, after, guard⟩ := o
  cases op <;> simp only [callPast, reduceCtorEq] at h
  case call c =>
    obtain ⟨callee, args, argTypes⟩ := c
    cases callee with
    | value g =>
      cases g <;> simp only [reduceCtorEq] at h
      rename_i g
      rw [Bool.and_eq_true] at h
      have hm : cfg.mode g = 9 := Nat.eq_of_beq_eq_true h.1
      have hz : cfg.holeZ g = zs := pvsSame_eq h.2
      simp only [exec1, outO, callA, hm, hz, Option.bind_eq_some_iff] at e ⊢
      obtain ⟨⟨rs, H'⟩, h1, ⟨q1, q2⟩, h2, h3⟩ := e
      obtain ⟨_, rfl, k1, k2⟩ := rowsH_out h2
      obtain ⟨rfl, rfl⟩ := holeH_out h3
      unfold holeH at h3
      split at h3
      · rename_i hp
        rw [Option.bind_eq_some_iff] at h3
        obtain ⟨r2, h4, h3⟩ := h3
        split at h3
        · rename_i hc
          obtain ⟨rfl, c1, c2, c3, c4⟩ := hc
          simp only at c1 c2 c3 c4 h4 hh k1 k2
          rw [c1]
          refine ⟨rfl, hp, _, h4, ?_⟩
          have hlt := getElem?_lt hp
          have hlt2 := getElem?_lt c2
          refine ⟨(ret rs, H1.set (H.findIdx isHole) (.box (zs.map .p))), ?_, ?_⟩
          · have hiff : ∀ (id : Nat) xs, (H.set (H.findIdx isHole) (.box (zs.map .p)))[id]? = some (.box xs) ↔ (H1.set (H.findIdx isHole) (.box (zs.map .p)))[id]? = some (.box xs) := by
              intro id xs
              by_cases e : H.findIdx isHole = id
              · subst e
                rw [List.getElem?_set_self hlt, List.getElem?_set_self hlt2]
              · rw [List.getElem?_set_ne e, List.getElem?_set_ne e]
                exact k2 id xs
            unfold rowsH
            rw [if_pos ⟨by simpa using k1, hiff⟩]
          · unfold holeH
            rw [if_neg (no_hole c3 _), if_pos ⟨c3, c4⟩]
        · cases h3
      · split at h3
        · rename_i hc
          exact (no_hole hc.2 _ hh).elim
        · cases h3
    | invoke _ _ => simp only [reduceCtorEq] at h
    | builtin b => simp only [reduceCtorEq] at h

theorem stepO_callPast {zs : List PV} {all : Array Oper} {o : Oper} {s : Slots} {H H1 : Heap} {v : AV} (h : callPast cfg zs o = true) (e : stepO P cfg O f lo all o s H = some (v, H1)) (hh : H1[H1.findIdx isHole]? = some .hole) :
    H.findIdx isHole = H1.findIdx isHole ∧ H[H.findIdx isHole]? = some .hole ∧ stepO P cfg O f lo all o s (H.set (H1.findIdx isHole) (.box (zs.map .p))) = some (v, H1.set (H1.findIdx isHole) (.box (zs.map .p))) := by
  unfold stepO at e ⊢
  cases hg : o.guard with
  | none => rw [hg] at e; exact callPast_out h e hh
  | some p =>
    obtain ⟨j, want⟩ := p
    rw [hg] at e
    simp only at e ⊢
    cases hd : (all[j]?).bind (·.dst) with
    | none => rw [hd] at e; cases e
    | some t =>
      rw [hd] at e
      simp only at e ⊢
      have hx : ∀ H2 : Heap, ∃ y, exec1 P cfg O f lo o s H2 = .heap y := by
        clear e hg hd hh
        obtain ⟨dst, op, type, pos, after, guard⟩ := o
        cases op <;> simp only [callPast, reduceCtorEq] at h
        case call c =>
          obtain ⟨callee, args, argTypes⟩ := c
          cases callee with
          | value g =>
            cases g <;> simp only [reduceCtorEq] at h
            exact fun H2 => ⟨_, rfl⟩
          | invoke _ _ => simp only [reduceCtorEq] at h
          | builtin b => simp only [reduceCtorEq] at h
      obtain ⟨y, hy⟩ := hx H
      obtain ⟨y2, hy2⟩ := hx (H.set (H1.findIdx isHole) (.box (zs.map .p)))
      rw [hy] at e
      simp only at e
      rw [hy2]
      simp only
      rcases gdH_inv e with ⟨k1, k2⟩ | ⟨k1, k2⟩
      · obtain ⟨r1, r2, r3⟩ := callPast_out h (by rw [hy]; exact k2) hh
        refine ⟨r1, r2, ?_⟩
        rw [hy2] at r3
        rw [k1]
        simp only [gdH, if_true]
        exact r3
      · cases k2
        refine ⟨rfl, hh, ?_⟩
        rcases k1 with ⟨b, k1, k3⟩ | k1
        · rw [k1]; simp only [gdH, if_neg k3]
        · rw [k1]; rfl

/-- The same of a variable, with its cells. -/
theorem stepO_alloc0 {all : Array Oper} {o : Oper} {s : Slots} {H H1 : Heap} {v : AV} {p : Nat × Nat} {t : TypeId} {z : AV} (h : filler P cfg f o = some p) (hop : o.op = .alloc t) (hz : zeroOf P t = some z) (e : stepO P cfg O f lo all o s H = some (v, H1)) :
    (fillA p.1 p.2 z.cells H = some (v, H1) ∧ ∀ H', stepO P cfg O f lo all o s H' = fillA p.1 p.2 z.cells H') ∨ (H1 = H ∧ ∀ H', stepO P cfg O f lo all o s H' = some (v, H')) := by
  have hx : ∀ H, exec1 P cfg O f lo o s H = .heap (fillA p.1 p.2 z.cells H) := by
    clear e
    obtain ⟨dst, op, type, pos, after, guard⟩ := o
    simp only at hop
    subst hop
    simp only [filler] at h
    split at h
    · rename_i ha
      have ha' : arrOf P t = none := Option.isNone_iff_eq_none.mp ha
      intro H
      simp only [exec1, arrBox, ha', ite_self, hz, h]
    · cases h
  unfold stepO at e ⊢
  simp only [hx] at e ⊢
  cases hg : o.guard with
  | none =>
    rw [hg] at e
    exact .inl ⟨e, fun H' => rfl⟩
  | some q =>
    obtain ⟨j, want⟩ := q
    rw [hg] at e
    simp only at e ⊢
    cases hd : (all[j]?).bind (·.dst) with
    | none => rw [hd] at e; cases e
    | some t =>
      rw [hd] at e
      simp only [outO] at e ⊢
      rcases gdH_inv e with ⟨k1, k2⟩ | ⟨k1, k2⟩
      · refine .inl ⟨k2, fun H' => ?_⟩
        rw [k1]
        simp only [gdH, if_true]
      · cases k2
        refine .inr ⟨rfl, fun H' => ?_⟩
        rcases k1 with ⟨b, k1, k3⟩ | k1
        · rw [k1]; simp only [gdH, if_neg k3]
        · rw [k1]; rfl

theorem callPast_rows {zs : List PV} {o : Oper} (h : callPast cfg zs o = true) : callRows cfg o = true := by
  obtain ⟨dst, op, type, pos, after, guard⟩ := o
  cases op <;> simp only [callPast, reduceCtorEq] at h
  case call c =>
    obtain ⟨callee, args, argTypes⟩ := c
    cases callee with
    | value g =>
      cases g <;> simp only [reduceCtorEq] at h
      rw [Bool.and_eq_true] at h
      simp only [callRows, h.1, Bool.or_true]
    | invoke _ _ => simp only [reduceCtorEq] at h
    | builtin b => simp only [reduceCtorEq] at h
theorem pastFill_inv {x y : Oper} (h : pastFill P cfg f x y = true) : ∃ r t z cs, filler P cfg f y = some (0, r) ∧ y.op = .alloc t ∧ zeroOf P t = some z ∧ pvCells z.cells = some cs ∧ (strict cfg f x = true ∨ callPast cfg cs x = true) := by
  unfold pastFill at h
  split at h
  · rename_i r t hf hop
    split at h
    · rename_i z hz
      split at h
      · rename_i cs hcs
        rw [Bool.or_eq_true] at h
        exact ⟨r, t, z, cs, hf, hop, hz, hcs, h⟩
      · cases h
    · cases h
  · cases h
theorem fill0_inv {r : Nat} {xs : List AV} {cs : List PV} {H H1 : Heap} {v : AV} (hc : pvCells xs = some cs) (h : fillA 0 r xs H = some (v, H1)) :
    0 < cs.length ∧ H[H.findIdx isHole]? = some .hole ∧ v = .ptr (H.findIdx isHole) 0 ∧ H1 = H.set (H.findIdx isHole) (.box (cs.map .p)) := by
  unfold fillA at h
  have hA : holeAt 0 r H = H.findIdx isHole := if_pos rfl
  rw [hA, hc] at h
  split at h
  · rename_i cs' hcs ho
    cases hcs
    split at h
    · rename_i hq
      cases h
      exact ⟨hq.2, ho, rfl, rfl⟩
    · cases h
  · cases h

/-! ### What is taken otherwise -/
theorem isLdx_inv {o : Oper} (h : isLdx cfg f o = true) : spOf cfg f o = some .ldx := by
  unfold isLdx at h
  split at h
  · assumption
  · cases h
theorem isStx_inv {o : Oper} (h : isStx cfg f o = true) : spOf cfg f o = some .stx := by
  unfold isStx at h
  split at h
  · assumption
  · cases h
theorem rowFill_inv {o : Oper} {q : Nat × Nat} (h : rowFill cfg f o = some q) : spOf cfg f o = some (.frow q.1 q.2) := by
  unfold rowFill at h
  split at h
  · rename_i e
    cases h
    exact e
  · cases h

theorem ldX_in {agg : Bool} {n : Nat} {p v : AV} {H H' : Heap} (h : ldX agg n p H = some v) (hk : ∀ (i : Nat) o, H[i]? = some o → i + 1 ≠ H.length ∨ (∃ g sz xs, o = .row g sz xs) → H'[i]? = some o ∧ i + 1 ≠ H'.length ∨ (H'[i]? = some o ∧ ∃ g sz xs, o = .row g sz xs)) : ldX agg n p H' = some v := by
  unfold ldX at h ⊢
  cases p with
  | ptr id off =>
    simp only at h ⊢
    split at h
    · cases h
    · rename_i hne
      simp only [ld] at h ⊢
      cases ho : H[id]? with
      | none => rw [ho] at h; cases h
      | some o =>
        rw [ho] at h
        rcases hk id o ho (.inl hne) with ⟨k1, k2⟩ | ⟨k1, g, sz, xs, rfl⟩
        · rw [if_neg k2, k1]; exact h
        · cases h
  | rptr id g off =>
    simp only [ld] at h ⊢
    cases ho : H[id]? with
    | none => rw [ho] at h; cases h
    | some o =>
      rw [ho] at h
      cases o with
      | row g' sz xs =>
        rcases hk id _ ho (.inr ⟨_, _, _, rfl⟩) with ⟨k1, k2⟩ | ⟨k1, _⟩ <;> rw [k1] <;> exact h
      | _ => cases h
  | fp xs off => exact h
  | _ => cases h

theorem ldx_out {o : Oper} {s : Slots} {H H1 : Heap} {v : AV} {all : Array Oper} (h : isLdx cfg f o = true) (e : stepO2 P cfg O f lo all o s H = some (v, H1)) :
    H1 = H ∧ ∀ H', (∀ (i : Nat) o, H[i]? = some o → i + 1 ≠ H.length ∨ (∃ g sz xs, o = .row g sz xs) → H'[i]? = some o ∧ i + 1 ≠ H'.length ∨ (H'[i]? = some o ∧ ∃ g sz xs, o = .row g sz xs)) → stepO2 P cfg O f lo all o s H' = some (v, H') := by
  have hsp := isLdx_inv h
  have key : ∀ x, outO (spRun P O .ldx o lo s H) H = some x → x.2 = H ∧ ∀ H', (∀ (i : Nat) o, H[i]? = some o → i + 1 ≠ H.length ∨ (∃ g sz xs, o = .row g sz xs) → H'[i]? = some o ∧ i + 1 ≠ H'.length ∨ (H'[i]? = some o ∧ ∃ g sz xs, o = .row g sz xs)) → outO (spRun P O .ldx o lo s H') H' = some (x.1, H') := by
    intro x e
    unfold spRun at e
    split at e <;> try (cases e; done)
    · rename_i t a _ hop
      split at e
      · rename_i hok
        simp only [outO, Option.map_eq_some_iff] at e
        obtain ⟨x, e1, e2⟩ := e
        cases e2
        refine ⟨rfl, fun H' hk => ?_⟩
        unfold spRun
        rw [hop]
        simp only
        rw [if_pos hok, ldX_in e1 hk]
        rfl
      · cases e
    all_goals contradiction
  have hne : spRun P O .ldx o lo s H ≠ .no := by
    intro hno
    rw [stepO2_spG hsp, hno] at e
    cases hg : o.guard with
    | none => rw [hg] at e; cases e
    | some p =>
      obtain ⟨j, want⟩ := p
      rw [hg] at e
      simp only at e
      cases hd : (all[j]?).bind (·.dst) with
      | none => rw [hd] at e; cases e
      | some d => rw [hd] at e; cases e
  have hop : ∃ t a, o.op = .load t a := by
    unfold spRun at hne
    split at hne
    · rename_i t a _ hop; exact ⟨t, a, hop⟩
    all_goals first | contradiction | exact (hne rfl).elim
  rw [stepO2_spG hsp] at e
  have nono : ∀ H', spRun P O .ldx o lo s H' = .no ∨ ∃ y, spRun P O .ldx o lo s H' = .opt y := by
    intro H'
    obtain ⟨t, a, ho⟩ := hop
    unfold spRun
    rw [ho]
    simp only
    split
    · exact .inr ⟨_, rfl⟩
    · exact .inl rfl
  cases hg : o.guard with
  | none =>
    rw [hg] at e
    obtain ⟨k1, k2⟩ := key _ e
    exact ⟨k1, fun H' hk => by rw [stepO2_spG hsp, hg]; exact k2 H' hk⟩
  | some p =>
    obtain ⟨j, want⟩ := p
    rw [hg] at e
    simp only at e
    cases hd : (all[j]?).bind (·.dst) with
    | none => rw [hd] at e; cases e
    | some d =>
      rw [hd] at e
      simp only at e
      rcases nono H with hno | ⟨y, hy⟩
      · exact (hne hno).elim
      · rw [hy] at e
        have same : ∀ H', spRun P O .ldx o lo s H' ≠ .no := by
          intro H' hno
          obtain ⟨t, a, ho⟩ := hop
          unfold spRun at hno hy
          rw [ho] at hno hy
          simp only at hno hy
          split at hno
          · cases hno
          · rename_i hk
            rw [if_neg hk] at hy
            cases hy
        rcases gdH_inv e with ⟨c1, c2⟩ | ⟨c1, c2⟩
        · obtain ⟨k1, k2⟩ := key (v, H1) (by rw [hy]; exact c2)
          refine ⟨k1, fun H' hk => ?_⟩
          rw [stepO2_spG hsp, hg]
          simp only
          rw [hd]
          simp only
          have k3 := k2 H' hk
          rcases nono H' with hno | ⟨z, hz⟩
          · exact (same H' hno).elim
          · rw [hz] at k3 ⊢
            simp only
            rw [c1]
            simp only [gdH, if_true]
            exact k3
        · cases c2
          refine ⟨rfl, fun H' hk => ?_⟩
          rw [stepO2_spG hsp, hg]
          simp only
          rw [hd]
          simp only
          rcases nono H' with hno | ⟨z, hz⟩
          · exact (same H' hno).elim
          · rw [hz]
            simp only
            rcases c1 with ⟨b, c1, c3⟩ | c1 <;> rw [c1] <;> simp [gdH]
            intro c4; exact (c3 c4).elim

theorem stx_out {o : Oper} {s : Slots} {H H1 : Heap} {v : AV} {all : Array Oper} (h : isStx cfg f o = true) (e : stepO2 P cfg O f lo all o s H = some (v, H1)) :
    ∃ id xs zs, id + 1 = H.length ∧ H[id]? = some (.box xs) ∧ H1 = H.set id (.box zs) := by
  have hsp := isStx_inv h
  rw [stepO2_sp hsp] at e
  unfold spRun at e
  split at e <;> try (cases e; done)
  · contradiction
  · contradiction
  · split at e
    · simp only [outO, Option.map_eq_some_iff] at e
      obtain ⟨x, e1, e2⟩ := e
      cases e2
      obtain ⟨e1, id, off, hp, hl⟩ := stX_stA e1
      rw [hp] at e1
      simp only [stA] at e1
      split at e1
      · rename_i xs ho
        split at e1
        · cases e1
          exact ⟨id, xs, _, hl, ho, rfl⟩
        · cases e1
      · cases e1
    · cases e
  all_goals contradiction

theorem fillRow_inv {m r sz b : Nat} {z : List PV} {l c v : AV} {H H1 : Heap} (e : fillRow m r sz b z l c H = some (v, H1)) :
    r < m ∧ m ≤ H.length ∧ H[H.length - m + r]? = some .hole ∧ ∃ cs, H1 = H.set (H.length - m + r) (.row 0 sz cs) ∧ ∀ H', H'.length = H.length → H'[H.length - m + r]? = some .hole → fillRow m r sz b z l c H' = some (v, H'.set (H.length - m + r) (.row 0 sz cs)) := by
  unfold fillRow at e
  rw [Option.bind_eq_some_iff] at e
  obtain ⟨l', h1, e⟩ := e
  rw [Option.bind_eq_some_iff] at e
  obtain ⟨c', h2, e⟩ := e
  split at e
  · rename_i ho
    split at e
    · rename_i hc
      cases e
      refine ⟨hc.2.2.2.1, hc.2.2.2.2, ho, _, rfl, fun H' hl hh => ?_⟩
      unfold fillRow
      rw [h1, h2]
      simp only [Option.bind_some]
      rw [hl, hh]
      simp only
      rw [if_pos ⟨hc.1, hc.2.1, hc.2.2.1, hc.2.2.2.1, hc.2.2.2.2⟩]
    · cases e
  · cases e

theorem frow_out {o : Oper} {s : Slots} {H H1 : Heap} {v : AV} {all : Array Oper} {q : Nat × Nat} (h : rowFill cfg f o = some q) (e : stepO2 P cfg O f lo all o s H = some (v, H1)) :
    q.2 < q.1 ∧ q.1 ≤ H.length ∧ H[H.length - q.1 + q.2]? = some .hole ∧ ∃ sz cs, H1 = H.set (H.length - q.1 + q.2) (.row 0 sz cs) ∧ ∀ H', H'.length = H.length → H'[H.length - q.1 + q.2]? = some .hole → stepO2 P cfg O f lo all o s H' = some (v, H'.set (H.length - q.1 + q.2) (.row 0 sz cs)) := by
  have hsp := rowFill_inv h
  rw [stepO2_sp hsp] at e
  unfold spRun at e
  split at e <;> try (cases e; done)
  · contradiction
  · contradiction
  · contradiction
  · contradiction
  · contradiction
  · rename_i m r t l c hk hop
    cases hk
    split at e
    · rename_i el hel
      split at e
      · rename_i hok
        split at e
        · rename_i z hz
          simp only [outO] at e
          obtain ⟨k1, k2, k3, cs, k4, k5⟩ := fillRow_inv e
          refine ⟨k1, k2, k3, _, cs, k4, fun H' hl hh => ?_⟩
          rw [stepO2_sp hsp]
          unfold spRun
          rw [hop]
          simp only [hel, hz]
          rw [if_pos hok]
          exact k5 H' hl hh
        · cases e
      · cases e
    · cases e
  · contradiction
  · contradiction

theorem stepO_two {all : Array Oper} {o : Oper} {s : Slots} {H H' H1 : Heap} {v : AV} (k1 : ∀ v H1, outO (exec1 P cfg O f lo o s H) H = some (v, H1) → H1 = H ∧ outO (exec1 P cfg O f lo o s H') H' = some (v, H'))
    (k2 : exec1 P cfg O f lo o s H' = .no → exec1 P cfg O f lo o s H = .no) (e : stepO P cfg O f lo all o s H = some (v, H1)) : H1 = H ∧ stepO P cfg O f lo all o s H' = some (v, H') := by
  unfold stepO at e ⊢
  cases hg : o.guard with
  | none => rw [hg] at e; exact k1 _ _ e
  | some p =>
    obtain ⟨j, want⟩ := p
    rw [hg] at e
    simp only at e ⊢
    cases hd : (all[j]?).bind (·.dst) with
    | none => rw [hd] at e; cases e
    | some t =>
      rw [hd] at e
      simp only at e ⊢
      have hno : exec1 P cfg O f lo o s H ≠ .no := by intro e'; rw [e'] at e; cases e
      have hno' : exec1 P cfg O f lo o s H' ≠ .no := fun e' => hno (k2 e')
      have e1 : gdH (s t) want (outO (exec1 P cfg O f lo o s H) H) H = some (v, H1) := by
        revert e hno
        cases exec1 P cfg O f lo o s H <;> intro e hno <;> first | exact (hno rfl).elim | exact e
      have e2 : H1 = H ∧ gdH (s t) want (outO (exec1 P cfg O f lo o s H') H') H' = some (v, H') := by
        unfold gdH at e1 ⊢
        split at e1
        · split at e1
          · rename_i hb; rw [if_pos hb]; exact k1 _ _ e1
          · rename_i hb; rw [if_neg hb]; cases e1; exact ⟨rfl, rfl⟩
        · cases e1; exact ⟨rfl, rfl⟩
        · cases e1
      refine ⟨e2.1, ?_⟩
      have e3 := e2.2
      revert e3 hno'
      cases exec1 P cfg O f lo o s H' <;> intro hno' e3 <;> first | exact (hno' rfl).elim | exact e3

theorem lenA_same {ty : Ty} {x : AV} {H H' : Heap} (hm : ∀ (id : Nat) es c, H[id]? = some (.map es c) ↔ H'[id]? = some (.map es c)) : lenA ty x H = lenA ty x H' := by
  cases x with
  | mp id =>
    cases ty <;> try rfl
    simp only [lenA]
    cases h : H[id]? with
    | none =>
      cases h' : H'[id]? with
      | none => rfl
      | some o =>
        cases o with
        | map es c => rw [(hm id es c).mpr h'] at h; cases h
        | _ => rfl
    | some o =>
      cases o with
      | map es c => rw [(hm id es c).mp h]
      | _ =>
        cases h' : H'[id]? with
        | none => rfl
        | some o' =>
          cases o' with
          | map es c => rw [(hm id es c).mpr h'] at h; cases h
          | _ => rfl
  | p y =>
    cases y with
    | sl nl t n xs => cases ty <;> rfl
    | v z => cases z <;> cases ty <;> first | rfl | (rename_i m; cases m <;> rfl)
  | _ => cases ty <;> rfl

/-- What reads boxes and maps alone does not see a row that takes a kept place. -/
theorem calm_out {o : Oper} {s : Slots} {H H' H1 : Heap} {v : AV} {all : Array Oper} (h : calm cfg f o = true) (hb : ∀ (id : Nat) zs, H[id]? = some (.box zs) → H'[id]? = some (.box zs)) (hm : ∀ (id : Nat) es c, H[id]? = some (.map es c) ↔ H'[id]? = some (.map es c))
    (e : stepO2 P cfg O f lo all o s H = some (v, H1)) : H1 = H ∧ stepO2 P cfg O f lo all o s H' = some (v, H') := by
  unfold calm at h
  rw [Bool.and_eq_true] at h
  obtain ⟨hn, hc⟩ := h
  rw [stepO2_no hn] at e ⊢
  rw [Bool.or_eq_true] at hc
  rcases hc with hc | hc
  · exact stepO_strict hc hb e
  · have hx : exec1 P cfg O f lo o s H = exec1 P cfg O f lo o s H' ∧ ∀ x, exec1 P cfg O f lo o s H ≠ .heap x := by
      obtain ⟨dst, op, type, pos, after, guard⟩ := o
      cases op <;> simp only [lenOp, reduceCtorEq] at hc
      rename_i c
      obtain ⟨callee, args, argTypes⟩ := c
      cases callee with
      | value g => cases hc
      | invoke _ _ => cases hc
      | builtin b =>
        cases b <;> simp only [reduceCtorEq] at hc
        simp only [exec1]
        generalize args.toList = l
        generalize argTypes.toList = l2
        match l with
        | [] => exact ⟨rfl, fun x e => by cases e⟩
        | [y] =>
          match l2 with
          | [] => exact ⟨rfl, fun x e => by cases e⟩
          | [t] => exact ⟨congrArg Out.opt (lenA_same hm), fun x e => by cases e⟩
          | _ :: _ :: _ => exact ⟨rfl, fun x e => by cases e⟩
        | _ :: _ :: _ => exact ⟨rfl, fun x e => by cases e⟩
    refine stepO_two (fun v H1 e => ?_) (fun e => by rw [hx.1]; exact e) e
    rw [← hx.1]
    cases hq : exec1 P cfg O f lo o s H with
    | val x => rw [hq] at e; cases e; exact ⟨rfl, rfl⟩
    | opt x =>
      rw [hq] at e
      cases x with
      | none => cases e
      | some x => cases e; exact ⟨rfl, rfl⟩
    | heap x => exact (hx.2 x hq).elim
    | no => rw [hq] at e; cases e

theorem set_hole_box {H : Heap} {i g sz : Nat} {cs : List PV} (h : H[i]? = some .hole) (id : Nat) (zs : List AV) : H[id]? = some (.box zs) ↔ (H.set i (.row g sz cs))[id]? = some (.box zs) := by
  by_cases e : i = id
  · subst e
    rw [h, List.getElem?_set_self (getElem?_lt h)]
    constructor <;> intro e <;> cases e
  · rw [List.getElem?_set_ne e]
theorem set_hole_map {H : Heap} {i g sz : Nat} {cs : List PV} (h : H[i]? = some .hole) (id : Nat) (es : List Ent) (c : Nat) : H[id]? = some (.map es c) ↔ (H.set i (.row g sz cs))[id]? = some (.map es c) := by
  by_cases e : i = id
  · subst e
    rw [h, List.getElem?_set_self (getElem?_lt h)]
    constructor <;> intro e <;> cases e
  · rw [List.getElem?_set_ne e]

theorem swap3 {all : Array Oper} {x y : Oper} {s : Slots} {H H1 H2 : Heap} {vx vy : AV} (hc : idle3 cfg f x y = true) (h1 : stepO2 P cfg O f lo all x s H = some (vx, H1)) (h2 : stepO2 P cfg O f lo all y s H1 = some (vy, H2)) :
    (∃ H2', stepO2 P cfg O f lo all y s H = some (vy, H2') ∧ stepO2 P cfg O f lo all x s H2' = some (vx, H2)) ∧ (quiet0 cfg f y = true ∨ H.length ≤ H1.length) := by
  unfold idle3 at hc
  rw [Bool.or_eq_true, Bool.or_eq_true, Bool.or_eq_true, Bool.or_eq_true, Bool.or_eq_true, Bool.or_eq_true, Bool.or_eq_true, Bool.or_eq_true, Bool.or_eq_true] at hc
  rcases hc with ((((((((hc | hc) | hc) | hc) | hc) | hc) | hc) | hc) | hc) | hc
  · rw [Bool.and_eq_true] at hc
    rw [stepO2_no hc.1] at h1
    obtain ⟨rfl, k⟩ := stepO_quiet0 hc.2 h1
    exact ⟨⟨H2, h2, by rw [stepO2_no hc.1]; exact k H2⟩, .inr (Nat.le_refl _)⟩
  · rw [Bool.and_eq_true] at hc
    rw [stepO2_no hc.1] at h2
    obtain ⟨rfl, k⟩ := stepO_quiet0 hc.2 h2
    exact ⟨⟨H, by rw [stepO2_no hc.1]; exact k H, h1⟩, .inl hc.2⟩
  · rw [Bool.and_eq_true] at hc
    obtain ⟨rfl, _⟩ := ldx_out hc.1 h1
    obtain ⟨rfl, _⟩ := ldx_out hc.2 h2
    exact ⟨⟨_, h2, h1⟩, .inr (Nat.le_refl _)⟩
  · rw [Bool.and_eq_true, Bool.and_eq_true] at hc
    obtain ⟨rfl, _⟩ := ldx_out hc.1.1 h1
    have h2' := h2
    rw [stepO2_no hc.1.2] at h2'
    cases stepO_quiet3 hc.2 h2'
    exact ⟨⟨_, h2, h1⟩, .inr (Nat.le_refl _)⟩
  · rw [Bool.and_eq_true, Bool.and_eq_true] at hc
    have h1' := h1
    rw [stepO2_no hc.1.1] at h1'
    cases stepO_quiet3 hc.1.2 h1'
    obtain ⟨rfl, _⟩ := ldx_out hc.2 h2
    exact ⟨⟨_, h2, h1⟩, .inr (Nat.le_refl _)⟩
  · rw [Bool.and_eq_true, Bool.and_eq_true] at hc
    obtain ⟨rfl, k⟩ := ldx_out hc.1.1 h1
    have h2' := h2
    rw [stepO2_no hc.1.2] at h2'
    rcases stepO_pushes hc.2 h2' with rfl | ⟨q, rfl⟩
    · exact ⟨⟨_, h2, h1⟩, .inr (Nat.le_refl _)⟩
    · refine ⟨⟨_, h2, k _ fun i o ho _ => .inl ⟨getElem?_push ho, ?_⟩⟩, .inr (Nat.le_refl _)⟩
      have := getElem?_lt ho
      simp
      omega
  · rw [Bool.and_eq_true] at hc
    obtain ⟨rfl, k⟩ := ldx_out hc.1 h1
    obtain ⟨id, xs, zs, q1, q2, rfl⟩ := stx_out hc.2 h2
    refine ⟨⟨_, h2, k _ fun i o ho hi => ?_⟩, .inr (Nat.le_refl _)⟩
    rcases hi with hi | ⟨g, sz, ys, rfl⟩
    · refine .inl ⟨?_, by simpa using hi⟩
      rw [List.getElem?_set_ne (by omega)]
      exact ho
    · refine .inr ⟨?_, g, sz, ys, rfl⟩
      rw [List.getElem?_set_ne (fun e => by subst e; rw [q2] at ho; cases ho)]
      exact ho
  · unfold fillApart at hc
    split at hc
    · rename_i a b ha hb
      simp only [Bool.and_eq_true, Bool.not_eq_true'] at hc
      obtain ⟨⟨⟨c1, c2⟩, c3⟩, c4⟩ := hc
      have c1' := Nat.eq_of_beq_eq_true c1
      have c4' : a.2 ≠ b.2 := fun e => by rw [e, Nat.beq_refl] at c4; cases c4
      obtain ⟨p1, p2, p3, sz, cs, rfl, p4⟩ := frow_out ha h1
      obtain ⟨q1, q2, q3, sz2, cs2, rfl, q4⟩ := frow_out hb h2
      simp only [List.length_set] at q2 q3 q4 ⊢
      have hne : H.length - a.1 + a.2 ≠ H.length - b.1 + b.2 := by omega
      rw [List.getElem?_set_ne hne] at q3
      refine ⟨⟨_, q4 H rfl q3, ?_⟩, .inr (Nat.le_refl _)⟩
      rw [p4 _ (by simp) (by rw [List.getElem?_set_ne (Ne.symm hne)]; exact p3), List.set_comm _ _ hne]
    · cases hc
  · rw [Bool.and_eq_true] at hc
    obtain ⟨q, hq⟩ := Option.isSome_iff_exists.mp hc.1
    obtain ⟨p1, p2, p3, sz, cs, rfl, p4⟩ := frow_out hq h1
    obtain ⟨rfl, k⟩ := calm_out (H' := H) hc.2 (fun id zs h => (set_hole_box p3 id zs).mpr h) (fun id es c => (set_hole_map p3 id es c).symm) h2
    exact ⟨⟨H, k, h1⟩, .inr (by simp)⟩
  · rw [Bool.and_eq_true] at hc
    obtain ⟨q, hq⟩ := Option.isSome_iff_exists.mp hc.2
    obtain ⟨rfl, _⟩ := calm_out (H' := H) hc.1 (fun _ _ h => h) (fun _ _ _ => Iff.rfl) h1
    obtain ⟨p1, p2, p3, sz, cs, rfl, p4⟩ := frow_out hq h2
    obtain ⟨_, k⟩ := calm_out hc.1 (fun id zs h => (set_hole_box p3 id zs).mp h) (fun id es c => set_hole_map p3 id es c) h1
    exact ⟨⟨_, h2, k⟩, .inr (Nat.le_refl _)⟩

theorem idle3_len {all : Array Oper} {x y : Oper} {s : Slots} {H H1 : Heap} {v : AV} (hc : idle3 cfg f x y = true) (h1 : stepO2 P cfg O f lo all x s H = some (v, H1)) : quiet0 cfg f y = true ∨ H.length ≤ H1.length := by
  unfold idle3 at hc
  rw [Bool.or_eq_true, Bool.or_eq_true, Bool.or_eq_true, Bool.or_eq_true, Bool.or_eq_true, Bool.or_eq_true, Bool.or_eq_true, Bool.or_eq_true, Bool.or_eq_true] at hc
  have ldx : isLdx cfg f x = true → quiet0 cfg f y = true ∨ H.length ≤ H1.length := fun h => by
    obtain ⟨rfl, _⟩ := ldx_out h h1
    exact .inr (Nat.le_refl _)
  have fr : ∀ q, rowFill cfg f x = some q → quiet0 cfg f y = true ∨ H.length ≤ H1.length := fun q h => by
    obtain ⟨_, _, _, sz, cs, rfl, _⟩ := frow_out h h1
    exact .inr (by simp)
  rcases hc with ((((((((hc | hc) | hc) | hc) | hc) | hc) | hc) | hc) | hc) | hc
  · rw [Bool.and_eq_true] at hc
    rw [stepO2_no hc.1] at h1
    obtain ⟨rfl, k⟩ := stepO_quiet0 hc.2 h1
    exact .inr (Nat.le_refl _)
  · rw [Bool.and_eq_true] at hc
    exact .inl hc.2
  · rw [Bool.and_eq_true] at hc; exact ldx hc.1
  · rw [Bool.and_eq_true, Bool.and_eq_true] at hc; exact ldx hc.1.1
  · rw [Bool.and_eq_true, Bool.and_eq_true] at hc
    rw [stepO2_no hc.1.1] at h1
    cases stepO_quiet3 hc.1.2 h1
    exact .inr (Nat.le_refl _)
  · rw [Bool.and_eq_true, Bool.and_eq_true] at hc; exact ldx hc.1.1
  · rw [Bool.and_eq_true] at hc; exact ldx hc.1
  · unfold fillApart at hc
    split at hc
    · rename_i a b ha hb
      exact fr _ ha
    · cases hc
  · rw [Bool.and_eq_true] at hc
    obtain ⟨q, hq⟩ := Option.isSome_iff_exists.mp hc.1
    exact fr _ hq
  · rw [Bool.and_eq_true] at hc
    obtain ⟨rfl, _⟩ := calm_out (H' := H) hc.1 (fun _ _ h => h) (fun _ _ _ => Iff.rfl) h1
    exact .inr (Nat.le_refl _)

/-! ### Reads of what holds no truth value -/
theorem hide_take {xs ys : List AV} (h : xs.map hideB = ys.map hideB) (off n : Nat) : ((xs.drop off).take n).map hideB = ((ys.drop off).take n).map hideB := by
  simp only [List.map_take, List.map_drop, h]

theorem hide_eq {x y : AV} (h : hideB x = hideB y) (hx : noB1 x = true) : x = y := by
  unfold noB1 at hx
  have inv : ∀ z w, hideB z = some w → z = w := by
    intro z w e
    unfold hideB at e
    split at e
    · cases e
    · cases e; rfl
  obtain ⟨w, hw⟩ := Option.isSome_iff_exists.mp hx
  rw [inv x w hw, inv y w (h ▸ hw)]

theorem hide_all : ∀ {xs ys : List AV}, xs.map hideB = ys.map hideB → xs.all noB1 = true → xs = ys := by
  intro xs
  induction xs with
  | nil => intro ys h _; cases ys with
    | nil => rfl
    | cons => cases h
  | cons x xs ih =>
    intro ys h hx
    cases ys with
    | nil => cases h
    | cons y ys =>
      simp only [List.map_cons, List.cons.injEq] at h
      rw [List.all_cons, Bool.and_eq_true] at hx
      rw [hide_eq h.1 hx.1, ih h.2 hx.2]

theorem partA_hide {agg : Bool} {n off : Nat} {xs ys : List AV} {v : AV} (h : xs.map hideB = ys.map hideB) (e : partA agg n xs off = some v) (hv : noBools v = true) : partA agg n ys off = some v := by
  have hl : xs.length = ys.length := by simpa using congrArg List.length h
  unfold partA at e ⊢
  cases agg with
  | true =>
    simp only [if_true] at e ⊢
    split at e
    · rename_i hc
      cases e
      rw [if_pos (by omega), ← hide_all (hide_take h off n) hv]
    · cases e
  | false =>
    simp only [Bool.false_eq_true, if_false] at e ⊢
    have h2 : (ys[off]?).map hideB = some (hideB v) := by
      have := congrArg (fun l => l[off]?) h
      simp only [List.getElem?_map, e, Option.map_some] at this
      exact this.symm
    rw [Option.map_eq_some_iff] at h2
    obtain ⟨w, h3, h4⟩ := h2
    have hv2 : noB1 v = true ∨ ∃ zs, v = .agg zs := by
      cases v with
      | agg zs => exact .inr ⟨zs, rfl⟩
      | _ => exact .inl hv
    rcases hv2 with hv2 | ⟨zs, rfl⟩
    · rw [h3, hide_eq h4.symm hv2]
    · rw [h3, hide_eq h4.symm rfl]

theorem ldN_in {agg : Bool} {n : Nat} {p v : AV} {H H' : Heap} (h : ldN agg n p H = some v) (hk : ∀ id : Nat, hideO H[id]? = hideO H'[id]? ∨ hideO H[id]? = none) : ldN agg n p H' = some v := by
  unfold ldN at h ⊢
  rw [Option.bind_eq_some_iff] at h ⊢
  obtain ⟨w, h1, h2⟩ := h
  split at h2
  · rename_i hv
    cases h2
    refine ⟨v, ?_, if_pos hv⟩
    cases p with
    | ptr id off =>
      simp only [ldS, ld] at h1 ⊢
      split at h1
      · rename_i xs ho
        have h3 := hk id
        rw [ho] at h3
        rcases h3 with h3 | h3
        · simp only [hideO] at h3
          cases ho' : H'[id]? with
          | none => rw [ho'] at h3; cases h3
          | some o =>
            rw [ho'] at h3
            cases o <;> simp only [hideO, reduceCtorEq, Option.some.injEq] at h3
            have hl := congrArg List.length h3
            simp only [List.length_map] at hl
            simp only
            split at h1
            · rename_i hl0
              rw [if_pos (by omega)]
              exact partA_hide h3 h1 hv
            · cases h1
        · cases h3
      · cases h1
    | fp xs off => exact h1
    | _ => cases h1
  · cases h2

theorem isLdn_inv {o : Oper} (h : isLdn cfg f o = true) : spOf cfg f o = some .ldn := by
  unfold isLdn at h
  split at h
  · assumption
  · cases h

theorem ldn_out {o : Oper} {s : Slots} {H H1 : Heap} {v : AV} {all : Array Oper} (h : isLdn cfg f o = true) (e : stepO2 P cfg O f lo all o s H = some (v, H1)) :
    H1 = H ∧ ∀ H' : Heap, (∀ id : Nat, hideO H[id]? = hideO H'[id]? ∨ hideO H[id]? = none) → stepO2 P cfg O f lo all o s H' = some (v, H') := by
  have hsp := isLdn_inv h
  rw [stepO2_sp hsp] at e
  unfold spRun at e
  split at e <;> try (cases e; done)
  · contradiction
  · rename_i t a _ hop
    split at e
    · rename_i hok
      simp only [outO, Option.map_eq_some_iff] at e
      obtain ⟨x, e1, e2⟩ := e
      cases e2
      refine ⟨rfl, fun H' hk => ?_⟩
      rw [stepO2_sp hsp]
      unfold spRun
      rw [hop]
      simp only
      rw [if_pos hok, ldN_in e1 hk]
      rfl
    · cases e
  all_goals contradiction

theorem hideO_rows {H H1 : Heap} (h : ∀ (id : Nat) zs, H[id]? = some (.box zs) ↔ H1[id]? = some (.box zs)) (id : Nat) : hideO H[id]? = hideO H1[id]? := by
  cases h0 : H[id]? with
  | none =>
    cases h1 : H1[id]? with
    | none => rfl
    | some o =>
      cases o with
      | box zs => rw [(h id zs).mpr h1] at h0; cases h0
      | _ => rfl
  | some o =>
    cases o with
    | box zs => rw [(h id zs).mp h0]
    | _ =>
      cases h1 : H1[id]? with
      | none => rfl
      | some o1 =>
        cases o1 with
        | box zs => rw [(h id zs).mpr h1] at h0; cases h0
        | _ => rfl

theorem pastLdn_out {o : Oper} {s : Slots} {H H1 : Heap} {v : AV} {all : Array Oper} (h : pastLdn cfg f o = true) (e : stepO2 P cfg O f lo all o s H = some (v, H1)) : H.length ≤ H1.length ∧ ∀ id : Nat, hideO H[id]? = hideO H1[id]? := by
  unfold pastLdn at h
  rw [Bool.or_eq_true, Bool.or_eq_true, Bool.and_eq_true] at h
  rcases h with (h | h) | ⟨hn, h⟩
  · obtain ⟨rfl, _⟩ := ldn_out h e; exact ⟨Nat.le_refl _, fun _ => rfl⟩
  · obtain ⟨rfl, _⟩ := ldx_out h e; exact ⟨Nat.le_refl _, fun _ => rfl⟩
  · rw [stepO2_no hn] at e
    rw [Bool.or_eq_true, Bool.or_eq_true, Bool.or_eq_true] at h
    rcases h with ((h | h) | h) | h
    · cases stepO_quiet3 h e; exact ⟨Nat.le_refl _, fun _ => rfl⟩
    · exact stepO_any (R := fun H H1 => H.length ≤ H1.length ∧ ∀ id : Nat, hideO H[id]? = hideO H1[id]?) (fun _ => ⟨Nat.le_refl _, fun _ => rfl⟩) (fun _ _ e => callBools_out h e) e
    · obtain ⟨k1, k2⟩ := stepO_callRows h e
      exact ⟨k1, hideO_rows k2⟩
    · obtain ⟨k1, k2⟩ := stepO_rowOnly' (by rw [h]; rfl) e
      exact ⟨k1, hideO_rows k2⟩

/-! ### A variable at the last place, ahead of what comes before it -/
theorem callA_last {zs : List PV} {g : FuncId} {xs : List AV} {H H1 : Heap} {v : AV} (hm : Nat.beq (cfg.mode g) 10 = true) (hz : pvsSame (cfg.holeZ g) zs = true) (e : callA cfg O g xs lo H = some (v, H1)) (hh : H1[H1.length - 1]? = some .hole) :
    H1.length = H.length ∧ H[H.length - 1]? = some .hole ∧ callA cfg O g xs lo (H.set (H.length - 1) (.box (zs.map .p))) = some (v, H1.set (H.length - 1) (.box (zs.map .p))) := by
  have hz : cfg.holeZ g = zs := pvsSame_eq hz
  have hm : cfg.mode g = 10 := Nat.eq_of_beq_eq_true hm
  simp only [callA, hm, hz, Option.bind_eq_some_iff] at e ⊢
  obtain ⟨⟨rs, H'⟩, h1, ⟨q1, q2⟩, h2, h3⟩ := e
  obtain ⟨_, rfl, k1, k2⟩ := boolsH_out h2
  obtain ⟨rfl, rfl⟩ := lastH_out h3
  unfold lastH at h3
  split at h3
  case isFalse => cases h3
  rename_i hl
  simp only at hl
  split at h3
  · rename_i hp
    rw [Option.bind_eq_some_iff] at h3
    obtain ⟨r2, h4, h3⟩ := h3
    split at h3
    · rename_i hc
      obtain ⟨rfl, c2⟩ := hc
      simp only at c2
      have hlt := getElem?_lt hp
      have hlt2 : H.length - 1 < H1.length := by omega
      refine ⟨hl, hp, (rs, H1.set (H.length - 1) (.box (zs.map .p))), h4, (ret rs, H1.set (H.length - 1) (.box (zs.map .p))), ?_, ?_⟩
      · have hiff : ∀ id : Nat, hideO (H.set (H.length - 1) (.box (zs.map .p)))[id]? = hideO (H1.set (H.length - 1) (.box (zs.map .p)))[id]? := by
          intro id
          by_cases e : H.length - 1 = id
          · subst e
            rw [List.getElem?_set_self hlt, List.getElem?_set_self hlt2]
          · rw [List.getElem?_set_ne e, List.getElem?_set_ne e]
            exact k2 id
        unfold boolsH
        rw [if_pos ⟨by simpa using k1, hiff⟩]
      · unfold lastH
        have e0 : (H.set (H.length - 1) (.box (zs.map .p))).length = H.length := List.length_set
        have e1 : (H1.set (H.length - 1) (.box (zs.map .p))).length = H.length := by rw [List.length_set]; exact hl
        have n0 : ¬(H.set (H.length - 1) (.box (zs.map .p)))[H.length - 1]? = some .hole := by rw [List.getElem?_set_self hlt]; intro e; cases e
        have n1 : ¬(H1.set (H.length - 1) (.box (zs.map .p)))[H.length - 1]? = some .hole := by rw [List.getElem?_set_self hlt2]; intro e; cases e
        rw [if_pos (e1.trans e0.symm), if_neg (by rw [e0]; exact n0), if_neg (by rw [e0]; exact n1)]
    · cases h3
  · split at h3
    · cases h3
    · rename_i hc
      rw [hl] at hh
      exact (hc hh).elim

theorem callC_last {zs ys : List PV} {x : AV} {xs : List AV} {H H1 : Heap} {v : AV} (hz : pvsSame ys zs = true) (e : callC cfg O (some (.past ys)) x xs lo H = some (v, H1)) (hh : H1[H1.length - 1]? = some .hole) :
    H1.length = H.length ∧ H[H.length - 1]? = some .hole ∧ callC cfg O (some (.past ys)) x xs lo (H.set (H.length - 1) (.box (zs.map .p))) = some (v, H1.set (H.length - 1) (.box (zs.map .p))) := by
  obtain ⟨g, fs, cs, rfl, hc, e⟩ := callC_inv e
  have hc2 := hc
  simp only [closV, Bool.and_eq_true] at hc2
  obtain ⟨k1, k2, k3⟩ := callA_last (zs := zs) hc2.1 (by rw [pvsSame_eq hc2.2]; exact hz) e hh
  refine ⟨k1, k2, ?_⟩
  unfold callC
  rw [if_pos hc]
  exact k3

theorem callLast_out {zs : List PV} {o : Oper} {s : Slots} {H H1 : Heap} {v : AV} (h : callLast cfg f zs o = true) (e : outO (exec1 P cfg O f lo o s H) H = some (v, H1)) (hh : H1[H1.length - 1]? = some .hole) :
    H1.length = H.length ∧ H[H.length - 1]? = some .hole ∧ outO (exec1 P cfg O f lo o s (H.set (H.length - 1) (.box (zs.map .p)))) (H.set (H.length - 1) (.box (zs.map .p))) = some (v, H1.set (H.length - 1) (.box (zs.map .p))) := by
  obtain ⟨dst, op, type, pos, after, guard⟩ := o
  cases op <;> simp only [callLast, reduceCtorEq] at h
  case call c =>
    obtain ⟨callee, args, argTypes⟩ := c
    cases callee with
    | value g =>
      cases g with
      | func g =>
        rw [Bool.and_eq_true] at h
        simp only [exec1, outO] at e ⊢
        exact callA_last h.1 h.2 e hh
      | tmp g =>
        have h : isPastK zs (cfg.clos f (dstNo ⟨dst, .call ⟨.value (.tmp g), args, argTypes⟩, type, pos, after, guard⟩)) = true := h
        obtain ⟨ys, hk, hn⟩ := isPastK_inv h
        simp only [exec1, outO, hk] at e ⊢
        exact callC_last hn e hh
      | const g =>
        have h : isPastK zs (cfg.clos f (dstNo ⟨dst, .call ⟨.value (.const g), args, argTypes⟩, type, pos, after, guard⟩)) = true := h
        obtain ⟨ys, hk, hn⟩ := isPastK_inv h
        simp only [exec1, outO, hk] at e ⊢
        exact callC_last hn e hh
      | global g =>
        have h : isPastK zs (cfg.clos f (dstNo ⟨dst, .call ⟨.value (.global g), args, argTypes⟩, type, pos, after, guard⟩)) = true := h
        obtain ⟨ys, hk, hn⟩ := isPastK_inv h
        simp only [exec1, outO, hk] at e ⊢
        exact callC_last hn e hh
    | invoke _ _ => simp only [reduceCtorEq] at h
    | builtin b => simp only [reduceCtorEq] at h

theorem stepO_callLast {zs : List PV} {all : Array Oper} {o : Oper} {s : Slots} {H H1 : Heap} {v : AV} (h : callLast cfg f zs o = true) (e : stepO P cfg O f lo all o s H = some (v, H1)) (hh : H1[H1.length - 1]? = some .hole) :
    H1.length = H.length ∧ H[H.length - 1]? = some .hole ∧ stepO P cfg O f lo all o s (H.set (H.length - 1) (.box (zs.map .p))) = some (v, H1.set (H.length - 1) (.box (zs.map .p))) := by
  unfold stepO at e ⊢
  cases hg : o.guard with
  | none => rw [hg] at e; exact callLast_out h e hh
  | some p =>
    obtain ⟨j, want⟩ := p
    rw [hg] at e
    simp only at e ⊢
    cases hd : (all[j]?).bind (·.dst) with
    | none => rw [hd] at e; cases e
    | some t =>
      rw [hd] at e
      simp only at e ⊢
      have hx : ∀ H2 : Heap, ∃ y, exec1 P cfg O f lo o s H2 = .heap y := by
        clear e hg hd hh
        obtain ⟨dst, op, type, pos, after, guard⟩ := o
        cases op <;> simp only [callLast, reduceCtorEq] at h
        case call c =>
          obtain ⟨callee, args, argTypes⟩ := c
          cases callee with
          | value g => cases g <;> exact fun H2 => ⟨_, rfl⟩
          | invoke _ _ => simp only [reduceCtorEq] at h
          | builtin b => simp only [reduceCtorEq] at h
      obtain ⟨y, hy⟩ := hx H
      obtain ⟨y2, hy2⟩ := hx (H.set (H.length - 1) (.box (zs.map .p)))
      rw [hy] at e
      simp only at e
      rw [hy2]
      simp only
      rcases gdH_inv e with ⟨k1, k2⟩ | ⟨k1, k2⟩
      · obtain ⟨r1, r2, r3⟩ := callLast_out h (by rw [hy]; exact k2) hh
        refine ⟨r1, r2, ?_⟩
        rw [hy2] at r3
        rw [k1]
        simp only [gdH, if_true]
        exact r3
      · cases k2
        refine ⟨rfl, hh, ?_⟩
        rcases k1 with ⟨b, k1, k3⟩ | k1
        · rw [k1]; simp only [gdH, if_neg k3]
        · rw [k1]; rfl

theorem callLast_bools {zs : List PV} {o : Oper} (h : callLast cfg f zs o = true) : callBools cfg f o = true := by
  obtain ⟨dst, op, type, pos, after, guard⟩ := o
  cases op <;> simp only [callLast, reduceCtorEq] at h
  case call c =>
    obtain ⟨callee, args, argTypes⟩ := c
    cases callee with
    | value g =>
      cases g with
      | func g =>
        rw [Bool.and_eq_true] at h
        simp only [callBools, h.1, Bool.or_true]
      | tmp g =>
        have h : isPastK zs (cfg.clos f (dstNo ⟨dst, .call ⟨.value (.tmp g), args, argTypes⟩, type, pos, after, guard⟩)) = true := h
        obtain ⟨ys, hk, hn⟩ := isPastK_inv h
        show isBoolsK (cfg.clos f (dstNo ⟨dst, .call ⟨.value (.tmp g), args, argTypes⟩, type, pos, after, guard⟩)) = true
        rw [hk]
        rfl
      | const g =>
        have h : isPastK zs (cfg.clos f (dstNo ⟨dst, .call ⟨.value (.const g), args, argTypes⟩, type, pos, after, guard⟩)) = true := h
        obtain ⟨ys, hk, hn⟩ := isPastK_inv h
        show isBoolsK (cfg.clos f (dstNo ⟨dst, .call ⟨.value (.const g), args, argTypes⟩, type, pos, after, guard⟩)) = true
        rw [hk]
        rfl
      | global g =>
        have h : isPastK zs (cfg.clos f (dstNo ⟨dst, .call ⟨.value (.global g), args, argTypes⟩, type, pos, after, guard⟩)) = true := h
        obtain ⟨ys, hk, hn⟩ := isPastK_inv h
        show isBoolsK (cfg.clos f (dstNo ⟨dst, .call ⟨.value (.global g), args, argTypes⟩, type, pos, after, guard⟩)) = true
        rw [hk]
        rfl
    | invoke _ _ => simp only [reduceCtorEq] at h
    | builtin b => simp only [reduceCtorEq] at h
theorem lastFill_inv {x y : Oper} (h : lastFill P cfg f x y = true) : ∃ t z cs, filler P cfg f y = some (1, 0) ∧ y.op = .alloc t ∧ zeroOf P t = some z ∧ pvCells z.cells = some cs ∧ callLast cfg f cs x = true := by
  unfold lastFill at h
  split at h
  · rename_i t hf hop
    split at h
    · rename_i z hz
      split at h
      · rename_i cs hcs
        exact ⟨t, z, cs, hf, hop, hz, hcs, h⟩
      · cases h
    · cases h
  · cases h

theorem isPc_inv {o : Oper} (h : isPc cfg f o = true) : spOf cfg f o = some .pc := by
  unfold isPc at h
  split at h
  · assumption
  · cases h
theorem pc_out {o : Oper} {s : Slots} {H H1 : Heap} {v : AV} {all : Array Oper} (h : isPc cfg f o = true) (e : stepO2 P cfg O f lo all o s H = some (v, H1)) :
    H1 = H ∧ ∀ H', stepO2 P cfg O f lo all o s H' = some (v, H') := by
  have hsp := isPc_inv h
  simp only [stepO2_sp hsp] at e ⊢
  unfold spRun at e ⊢
  cases hop : o.op with
  | call c =>
    simp only [hop] at e ⊢
    split at e
    · rename_i g hc
      simp only [outO, Option.map_eq_some_iff] at e
      obtain ⟨x, e1, e2⟩ := e
      cases e2
      refine ⟨rfl, fun H' => ?_⟩
      simp only [outO, e1]
      rfl
    · rename_i hc
      split at e
      · simp only [outO, Option.map_eq_some_iff] at e
        obtain ⟨x, e1, e2⟩ := e
        cases e2
        refine ⟨rfl, fun H' => ?_⟩
        simp only [outO, e1]
        rfl
      · cases e
    · cases e
  | _ => rw [hop] at e; cases e

theorem isLd0_inv {o : Oper} (h : isLd0 cfg f o = true) : spOf cfg f o = some .ld0 := by
  unfold isLd0 at h
  split at h
  · assumption
  · cases h
theorem isSt1_inv {o : Oper} (h : isSt1 cfg f o = true) : spOf cfg f o = some .st1 := by
  unfold isSt1 at h
  split at h
  · assumption
  · cases h
theorem ldZ_in {agg : Bool} {n : Nat} {p v : AV} {H H' : Heap} (h : ldZ agg n p H = some v) (hk : H'[0]? = H[0]?) : ldZ agg n p H' = some v := by
  unfold ldZ at h ⊢
  split at h
  · simp only [ld] at h ⊢; rw [hk]; exact h
  · cases h
theorem ld0_out {o : Oper} {s : Slots} {H H1 : Heap} {v : AV} {all : Array Oper} (h : isLd0 cfg f o = true) (e : stepO2 P cfg O f lo all o s H = some (v, H1)) :
    H1 = H ∧ ∀ H', H'[0]? = H[0]? → stepO2 P cfg O f lo all o s H' = some (v, H') := by
  have hsp := isLd0_inv h
  rw [stepO2_sp hsp] at e
  unfold spRun at e
  split at e <;> try (cases e; done)
  case h_4 t a _ hop =>
    split at e
    · rename_i hok
      simp only [outO, Option.map_eq_some_iff] at e
      obtain ⟨x, e1, e2⟩ := e
      cases e2
      refine ⟨rfl, fun H' hk => ?_⟩
      rw [stepO2_sp hsp]
      unfold spRun
      rw [hop]
      simp only
      rw [if_pos hok, ldZ_in e1 hk]
      rfl
    · cases e
  all_goals contradiction
theorem st1_out {o : Oper} {s : Slots} {H H1 : Heap} {v : AV} {all : Array Oper} (h : isSt1 cfg f o = true) (e : stepO2 P cfg O f lo all o s H = some (v, H1)) : H1[0]? = H[0]? ∧ H.length ≤ H1.length := by
  have hsp := isSt1_inv h
  rw [stepO2_sp hsp] at e
  unfold spRun at e
  split at e <;> try (cases e; done)
  case h_5 t a x _ hop =>
    split at e
    · simp only [outO, Option.map_eq_some_iff] at e
      obtain ⟨x, e1, e2⟩ := e
      cases e2
      obtain ⟨e1, id, off, hp⟩ := stZ_stA e1
      rw [hp] at e1
      simp only [stA] at e1
      split at e1
      · split at e1
        · cases e1
          exact ⟨List.getElem?_set_ne (by omega), by simp⟩
        · cases e1
      · cases e1
    · cases e
  all_goals contradiction
theorem past0_out {o : Oper} {s : Slots} {H H1 : Heap} {v : AV} {all : Array Oper} (h : past0 cfg f o = true) (e : stepO2 P cfg O f lo all o s H = some (v, H1)) : H1[0]? = H[0]? ∧ H.length ≤ H1.length := by
  unfold past0 at h
  rw [Bool.or_eq_true, Bool.or_eq_true, Bool.or_eq_true, Bool.or_eq_true, Bool.and_eq_true] at h
  rcases h with (((h | h) | h) | h) | ⟨hn, h⟩
  · obtain ⟨rfl, _⟩ := ld0_out h e; exact ⟨rfl, Nat.le_refl _⟩
  · exact st1_out h e
  · obtain ⟨rfl, _⟩ := ldn_out h e; exact ⟨rfl, Nat.le_refl _⟩
  · obtain ⟨rfl, _⟩ := ldx_out h e; exact ⟨rfl, Nat.le_refl _⟩
  · rw [stepO2_no hn] at e
    cases stepO_quiet3 h e
    exact ⟨rfl, Nat.le_refl _⟩
omit [Know] in
theorem layAll_of : ∀ (os : List AObj) (p : Nat) (H : Heap), (∀ (j : Nat), j < os.length → H[p + j]? = some .hole) → ∃ H', layAll p os H = some H' := by
  intro os
  induction os with
  | nil => intro p H _; exact ⟨H, rfl⟩
  | cons o os ih =>
    intro p H h
    have h0 := h 0 (by simp)
    rw [Nat.add_zero] at h0
    obtain ⟨H', e⟩ := ih (p + 1) (H.set p o) (fun j hj => by
      rw [List.getElem?_set_ne (by omega), show p + 1 + j = p + (j + 1) by omega]
      exact h (j + 1) (by simpa using hj))
    exact ⟨H', by simp only [layAll, h0]; exact e⟩

theorem isThw_inv {o : Oper} {q : Nat × Nat × Nat} (h : isThw cfg f o = some q) : spOf cfg f o = some (.thw q.1 q.2.1 q.2.2) := by
  unfold isThw at h
  split at h
  · rename_i e
    cases h
    exact e
  · cases h

theorem thw_out {o : Oper} {s : Slots} {H H1 : Heap} {v : AV} {all : Array Oper} {q : Nat × Nat × Nat} (h : isThw cfg f o = some q) (e : stepO2 P cfg O f lo all o s H = some (v, H1)) :
    q.2.1 + q.2.2 ≤ q.1 ∧ q.1 ≤ H.length ∧ ∃ os, os.length ≤ q.2.2 ∧ (∀ o ∈ os, ∃ g sz xs, o = AObj.row g sz xs) ∧ layAll (H.length - q.1 + q.2.1) os H = some H1 ∧
      ∀ H', H'.length = H.length → ∀ H2, layAll (H.length - q.1 + q.2.1) os H' = some H2 → stepO2 P cfg O f lo all o s H' = some (v, H2) := by
  have hsp := isThw_inv h
  simp only [stepO2_sp hsp] at e ⊢
  unfold spRun at e ⊢
  cases hop : o.op with
  | call c =>
    simp only [hop] at e ⊢
    split at e
    · rename_i g hc
      simp only [outO] at e ⊢
      unfold fillC at e ⊢
      split at e
      case isFalse => cases e
      rename_i hp
      have hp' := hp
      rw [Bool.and_eq_true, Bool.and_eq_true] at hp'
      obtain ⟨⟨_, p1⟩, p2⟩ := hp'
      rw [Option.bind_eq_some_iff] at e
      obtain ⟨⟨rs, Hc⟩, h1, e⟩ := e
      rw [Option.bind_eq_some_iff] at e
      obtain ⟨⟨ys, S'⟩, h2, e⟩ := e
      simp only at h2 e
      split at e
      case isFalse => cases e
      rename_i hk
      rw [Option.map_eq_some_iff] at e
      obtain ⟨H3, h3, e⟩ := e
      cases e
      refine ⟨Nat.le_of_ble_eq_true p1, Nat.le_of_ble_eq_true p2, S'.2, Nat.le_of_ble_eq_true hk, thawAll_rows _ _ _ _ (fun o ho => by simp at ho) h2, h3, fun H' hl H2 e2 => ?_⟩
      rw [hl, if_pos hp, h1]
      simp only [Option.bind_some]
      rw [h2]
      simp only [Option.bind_some]
      rw [if_pos hk, e2]
      rfl
    · cases e
  | _ => rw [hop] at e; cases e

omit [Know] in
/-- What lies at places apart may be laid in any order. -/
theorem lay_swap {p p' : Nat} {os os' : List AObj} {H H1 H2 : Heap} (h1 : layAll p os H = some H1) (h2 : layAll p' os' H1 = some H2) (hd : p + os.length ≤ p' ∨ p' + os'.length ≤ p) : ∃ H2', layAll p' os' H = some H2' ∧ layAll p os H2' = some H2 := by
  obtain ⟨a1, a2, a3⟩ := layAll_spec _ _ _ _ h1
  obtain ⟨b1, b2, b3⟩ := layAll_spec _ _ _ _ h2
  obtain ⟨H2', e1⟩ := layAll_of os' p' H (fun j hj => by rw [← a2 (p' + j) (by omega)]; exact (b3 j hj).1)
  obtain ⟨c1, c2, c3⟩ := layAll_spec _ _ _ _ e1
  obtain ⟨H3, e2⟩ := layAll_of os p H2' (fun j hj => by rw [c2 (p + j) (by omega)]; exact (a3 j hj).1)
  obtain ⟨d1, d2, d3⟩ := layAll_spec _ _ _ _ e2
  refine ⟨H2', e1, ?_⟩
  rw [e2]
  congr 1
  apply List.ext_getElem?
  intro i
  by_cases hi : p ≤ i ∧ i < p + os.length
  · have := d3 (i - p) (by omega)
    rw [show p + (i - p) = i by omega] at this
    rw [this.2, b2 i (by omega)]
    have := a3 (i - p) (by omega)
    rw [show p + (i - p) = i by omega] at this
    exact this.2.symm
  · rw [d2 i (by omega)]
    by_cases hi' : p' ≤ i ∧ i < p' + os'.length
    · have := c3 (i - p') (by omega)
      rw [show p' + (i - p') = i by omega] at this
      rw [this.2]
      have := b3 (i - p') (by omega)
      rw [show p' + (i - p') = i by omega] at this
      exact this.2.symm
    · rw [c2 i (by omega), b2 i (by omega), a2 i (by omega)]
omit [Know] in
theorem lay_other {p : Nat} {os : List AObj} {H H1 : Heap} (h : layAll p os H = some H1) (hr : ∀ o ∈ os, ∃ g sz xs, o = AObj.row g sz xs) (id : Nat) (o : AObj) (h1 : o ≠ .hole) (h2 : ∀ g sz xs, o ≠ .row g sz xs) : H[id]? = some o ↔ H1[id]? = some o := by
  obtain ⟨a1, a2, a3⟩ := layAll_spec _ _ _ _ h
  by_cases hi : p ≤ id ∧ id < p + os.length
  · obtain ⟨k1, k2⟩ := a3 (id - p) (by omega)
    rw [show p + (id - p) = id by omega] at k1 k2
    have hj : id - p < os.length := by omega
    obtain ⟨g, sz, xs, e⟩ := hr os[id - p] (List.getElem_mem hj)
    rw [k1, k2, List.getElem?_eq_getElem hj, e]
    exact ⟨fun e => by cases e; exact (h1 rfl).elim, fun e => by cases e; exact (h2 _ _ _ rfl).elim⟩
  · rw [a2 id (by omega)]

theorem swapT {all : Array Oper} {x y : Oper} {s : Slots} {H H1 H2 : Heap} {vx vy : AV} (hc : idleT P cfg f x y = true) (h1 : stepO2 P cfg O f lo all x s H = some (vx, H1)) (h2 : stepO2 P cfg O f lo all y s H1 = some (vy, H2)) :
    (∃ H2', stepO2 P cfg O f lo all y s H = some (vy, H2') ∧ stepO2 P cfg O f lo all x s H2' = some (vx, H2)) ∧ H.length ≤ H1.length := by
  unfold idleT at hc
  simp only [Bool.or_eq_true, Bool.and_eq_true] at hc
  rcases hc with (((hc | ⟨ny, hc⟩) | ⟨hx, hy⟩) | ⟨hx, hy⟩) | ⟨⟨hx, ny⟩, hy⟩
  · unfold thwApart at hc
    split at hc
    · rename_i a b ha hb
      rw [Bool.and_eq_true, Bool.or_eq_true] at hc
      obtain ⟨c1, c2⟩ := hc
      have c1 := Nat.eq_of_beq_eq_true c1
      obtain ⟨p1, p2, os, p3, p4, p5, p6⟩ := thw_out ha h1
      obtain ⟨q1, q2, os', q3, q4, q5, q6⟩ := thw_out hb h2
      have hl := (layAll_spec _ _ _ _ p5).1
      obtain ⟨H2', e1, e2⟩ := lay_swap p5 q5 (by
        rcases c2 with c2 | c2
        · have := Nat.le_of_ble_eq_true c2; left; omega
        · have := Nat.le_of_ble_eq_true c2; right; omega)
      exact ⟨⟨H2', q6 H hl.symm _ e1, p6 H2' (layAll_spec _ _ _ _ e1).1 _ e2⟩, by omega⟩
    · cases hc
  · unfold thwFill at hc
    split at hc
    · rename_i a b ha hb
      rw [Bool.and_eq_true, Bool.and_eq_true, Bool.or_eq_true] at hc
      obtain ⟨⟨c1, c3⟩, c2⟩ := hc
      have c1 := Nat.eq_of_beq_eq_true c1
      have c3 : b.2 < b.1 := Nat.le_of_ble_eq_true c3
      obtain ⟨p1, p2, os, p3, p4, p5, p6⟩ := thw_out ha h1
      obtain ⟨l1, l2, l3⟩ := layAll_spec _ _ _ _ p5
      rw [stepO2_no ny] at h2
      simp only [stepO2_no ny]
      refine ⟨?_, by omega⟩
      rcases stepO_fill hb h2 with ⟨c, k1, k2⟩ | ⟨rfl, k⟩
      · have hA : ∀ H : Heap, holeAt b.1 b.2 H = H.length - b.1 + b.2 := fun H => if_neg (by omega)
        unfold fillA at k1
        rw [hA] at k1
        split at k1
        · rename_i cs hcs ho
          split at k1
          · rename_i hq
            cases k1
            have hout : H.length - b.1 + b.2 < H.length - a.1 + a.2.1 ∨ H.length - a.1 + a.2.1 + os.length ≤ H.length - b.1 + b.2 := by
              rcases c2 with c2 | c2
              · have := Nat.le_of_ble_eq_true c2; right; omega
              · have : b.2 < a.2.1 := Nat.le_of_ble_eq_true c2; left; omega
            rw [l1] at ho ⊢
            have ho' : H[H.length - b.1 + b.2]? = some .hole := by rw [← l2 _ hout]; exact ho
            refine ⟨H.set (H.length - b.1 + b.2) (.box (cs.map .p)), ?_, ?_⟩
            · rw [k2]
              unfold fillA
              rw [hA, hcs, ho']
              simp only
              rw [l1] at hq
              rw [if_pos hq]
            · obtain ⟨H3, e⟩ := layAll_of os (H.length - a.1 + a.2.1) (H.set (H.length - b.1 + b.2) (.box (cs.map .p))) (fun j hj => by
                rw [List.getElem?_set_ne (by omega)]; exact (l3 j hj).1)
              have : H3 = H1.set (H.length - b.1 + b.2) (.box (cs.map .p)) := by
                obtain ⟨m1, m2, m3⟩ := layAll_spec _ _ _ _ e
                apply List.ext_getElem?
                intro i
                by_cases hi : H.length - a.1 + a.2.1 ≤ i ∧ i < H.length - a.1 + a.2.1 + os.length
                · have k := m3 (i - (H.length - a.1 + a.2.1)) (by omega)
                  have k' := l3 (i - (H.length - a.1 + a.2.1)) (by omega)
                  rw [show H.length - a.1 + a.2.1 + (i - (H.length - a.1 + a.2.1)) = i by omega] at k k'
                  rw [k.2, List.getElem?_set_ne (by omega), k'.2]
                · rw [m2 i (by omega)]
                  by_cases e : H.length - b.1 + b.2 = i
                  · subst e
                    rw [List.getElem?_set_self (by have := getElem?_lt ho'; exact this), List.getElem?_set_self (by have := getElem?_lt ho; exact this)]
                  · rw [List.getElem?_set_ne e, List.getElem?_set_ne e, l2 i (by omega)]
              subst this
              exact p6 _ (by simp) _ e
          · cases k1
        · cases k1
      · exact ⟨H, k H, h1⟩
    · cases hc
  · obtain ⟨a, ha⟩ := Option.isSome_iff_exists.mp hx
    obtain ⟨p1, p2, os, p3, p4, p5, p6⟩ := thw_out ha h1
    obtain ⟨rfl, k⟩ := calm_out (H' := H) hy (fun id zs h => (lay_other p5 p4 id (.box zs) (by simp) (by simp)).mpr h) (fun id es c => (lay_other p5 p4 id (.map es c) (by simp) (by simp)).symm) h2
    exact ⟨⟨H, k, h1⟩, by rw [(layAll_spec _ _ _ _ p5).1]; exact Nat.le_refl _⟩
  · obtain ⟨a, ha⟩ := Option.isSome_iff_exists.mp hy
    obtain ⟨rfl, _⟩ := calm_out (H' := H) hx (fun _ _ h => h) (fun _ _ _ => Iff.rfl) h1
    obtain ⟨p1, p2, os, p3, p4, p5, p6⟩ := thw_out ha h2
    obtain ⟨_, k⟩ := calm_out hx (fun id zs h => (lay_other p5 p4 id (.box zs) (by simp) (by simp)).mp h) (fun id es c => lay_other p5 p4 id (.map es c) (by simp) (by simp)) h1
    exact ⟨⟨_, h2, k⟩, Nat.le_refl _⟩
  · obtain ⟨rfl, _⟩ := calm_out (H' := H) hx (fun _ _ h => h) (fun _ _ _ => Iff.rfl) h1
    obtain ⟨b, hb⟩ := Option.isSome_iff_exists.mp hy
    refine ⟨?_, Nat.le_refl _⟩
    have h2' := h2
    rw [stepO2_no ny] at h2'
    rcases stepO_fill hb h2' with ⟨c, k1, k2⟩ | ⟨rfl, k⟩
    · unfold fillA at k1
      split at k1
      · rename_i cs hcs ho
        split at k1
        · cases k1
          generalize holeAt b.1 b.2 H1 = i at ho h2 ⊢
          obtain ⟨_, k⟩ := calm_out (H' := H1.set i (.box (cs.map .p))) hx (fun id zs h => by
            rw [List.getElem?_set_ne (fun e => by subst e; rw [ho] at h; cases h)]; exact h) (fun id es c => by
            by_cases e : i = id
            · subst e
              rw [ho, List.getElem?_set_self (getElem?_lt ho)]
              exact ⟨fun e => (by cases e), fun e => (by cases e)⟩
            · rw [List.getElem?_set_ne e]) h1
          exact ⟨_, h2, k⟩
        · cases k1
      · cases k1
    · exact ⟨_, h2, h1⟩
theorem idleT_len {all : Array Oper} {x y : Oper} {s : Slots} {H H1 : Heap} {v : AV} (hc : idleT P cfg f x y = true) (h1 : stepO2 P cfg O f lo all x s H = some (v, H1)) : H.length ≤ H1.length := by
  have thw : (isThw cfg f x).isSome = true → H.length ≤ H1.length := fun h => by
    obtain ⟨q, hq⟩ := Option.isSome_iff_exists.mp h
    obtain ⟨_, _, os, _, _, k, _⟩ := thw_out hq h1
    rw [(layAll_spec _ _ _ _ k).1]; exact Nat.le_refl _
  have cal : calm cfg f x = true → H.length ≤ H1.length := fun h => by
    obtain ⟨rfl, _⟩ := calm_out (H' := H) h (fun _ _ h => h) (fun _ _ _ => Iff.rfl) h1
    exact Nat.le_refl _
  unfold idleT at hc
  simp only [Bool.or_eq_true, Bool.and_eq_true] at hc
  rcases hc with (((hc | ⟨_, hc⟩) | ⟨hx, _⟩) | ⟨hx, _⟩) | ⟨⟨hx, _⟩, _⟩
  · unfold thwApart at hc
    split at hc
    · rename_i a b ha hb; exact thw (by rw [ha]; rfl)
    · cases hc
  · unfold thwFill at hc
    split at hc
    · rename_i a b ha hb; exact thw (by rw [ha]; rfl)
    · cases hc
  · exact thw hx
  · exact cal hx
  · exact cal hx

theorem pcPast_len {o : Oper} {s : Slots} {H H1 : Heap} {v : AV} {all : Array Oper} (h : pcPast cfg f o = true) (e : stepO2 P cfg O f lo all o s H = some (v, H1)) : H.length ≤ H1.length := by
  unfold pcPast at h
  rw [Bool.or_eq_true, Bool.or_eq_true, Bool.or_eq_true, Bool.and_eq_true, Bool.or_eq_true] at h
  rcases h with ((h | h) | h) | ⟨hn, h | h⟩
  · obtain ⟨q, hq⟩ := Option.isSome_iff_exists.mp h
    obtain ⟨_, _, os, _, _, k, _⟩ := thw_out hq e
    rw [(layAll_spec _ _ _ _ k).1]; exact Nat.le_refl _
  · obtain ⟨rfl, _⟩ := ldn_out h e; exact Nat.le_refl _
  · obtain ⟨rfl, _⟩ := ldx_out h e; exact Nat.le_refl _
  · rw [stepO2_no hn] at e
    cases stepO_quiet3 h e
    exact Nat.le_refl _
  · rw [stepO2_no hn] at e
    rcases stepO_pushes h e with rfl | ⟨q, rfl⟩
    · exact Nat.le_refl _
    · simp

theorem swap2 {all : Array Oper} {x y : Oper} {s : Slots} {H H1 H2 : Heap} {vx vy : AV} (hc : idle2 P cfg f x y = true) (h1 : stepO2 P cfg O f lo all x s H = some (vx, H1)) (h2 : stepO2 P cfg O f lo all y s H1 = some (vy, H2)) :
    (∃ H2', stepO2 P cfg O f lo all y s H = some (vy, H2') ∧ stepO2 P cfg O f lo all x s H2' = some (vx, H2)) ∧ (quiet0 cfg f y = true ∨ H.length ≤ H1.length) := by
  unfold idle2 at hc
  simp only [Bool.or_eq_true, Bool.and_eq_true] at hc
  rcases hc with (((((ht | (hx | ⟨hy, hx⟩)) | (⟨hx, hy⟩ | ⟨hx, hy⟩)) | ⟨hx, hy⟩) | ⟨hx, hy⟩) | ⟨⟨nx, ny⟩, hc⟩) | hc
  · exact ⟨(swapT ht h1 h2).1, .inr (swapT ht h1 h2).2⟩
  · obtain ⟨rfl, k⟩ := pc_out hx h1
    exact ⟨⟨H2, h2, k H2⟩, .inr (Nat.le_refl _)⟩
  · obtain ⟨rfl, k⟩ := pc_out hy h2
    exact ⟨⟨H, k H, h1⟩, .inr (pcPast_len hx h1)⟩
  · obtain ⟨rfl, k⟩ := ld0_out hx h1
    exact ⟨⟨H2, h2, k H2 (past0_out hy h2).1⟩, .inr (Nat.le_refl _)⟩
  · obtain ⟨rfl, k⟩ := ld0_out hy h2
    exact ⟨⟨H, k H (past0_out hx h1).1.symm, h1⟩, .inr (past0_out hx h1).2⟩
  · obtain ⟨rfl, k⟩ := ldn_out hx h1
    refine ⟨⟨H2, h2, k H2 ?_⟩, .inr (Nat.le_refl _)⟩
    rcases hy with hy | ⟨hn, hy | hy⟩
    · exact fun id => .inl ((pastLdn_out hy h2).2 id)
    · rw [stepO2_no hn] at h2
      rcases stepO_pushes hy h2 with rfl | ⟨q, rfl⟩
      · exact fun _ => .inl rfl
      · intro id
        by_cases hl : id < H1.length
        · rw [List.getElem?_append_left hl]; exact .inl rfl
        · rw [List.getElem?_eq_none (by omega)]; exact .inr rfl
    · rw [stepO2_no hn] at h2
      obtain ⟨p, hp⟩ := Option.isSome_iff_exists.mp hy
      rcases stepO_fill hp h2 with ⟨c, k1, _⟩ | ⟨rfl, _⟩
      · unfold fillA at k1
        split at k1
        · rename_i cs hcs ho
          split at k1
          · cases k1
            intro id
            by_cases e : holeAt p.1 p.2 H1 = id
            · subst e; rw [ho]; exact .inr rfl
            · rw [List.getElem?_set_ne e]; exact .inl rfl
          · cases k1
        · cases k1
      · exact fun _ => .inl rfl
  · obtain ⟨k1, k2⟩ := pastLdn_out hx h1
    obtain ⟨rfl, k⟩ := ldn_out hy h2
    exact ⟨⟨H, k H fun id => .inl (k2 id).symm, h1⟩, .inr k1⟩
  · obtain ⟨t, z, cs, hf, hop, hz, hcs, hx⟩ := lastFill_inv hc
    rw [stepO2_no nx] at h1
    rw [stepO2_no ny] at h2
    simp only [stepO2_no nx, stepO2_no ny]
    refine ⟨?_, .inr (stepO_any (R := fun H H1 => H.length ≤ H1.length ∧ ∀ id : Nat, hideO H[id]? = hideO H1[id]?) (fun _ => ⟨Nat.le_refl _, fun _ => rfl⟩) (fun _ _ e => callBools_out (callLast_bools hx) e) h1).1⟩
    rcases stepO_alloc0 hf hop hz h2 with ⟨q1, q2⟩ | ⟨rfl, q2⟩
    · have hA : ∀ H : Heap, holeAt 1 0 H = H.length - 1 := fun H => rfl
      unfold fillA at q1
      rw [hA, hcs] at q1
      split at q1
      · rename_i cs' hcs' ho
        cases hcs'
        split at q1
        · rename_i hq
          cases q1
          obtain ⟨r1, r2, r3⟩ := stepO_callLast hx h1 ho
          refine ⟨H.set (H.length - 1) (.box (cs.map .p)), ?_, ?_⟩
          · rw [q2]
            unfold fillA
            rw [hA, hcs, r2]
            simp only
            rw [if_pos ⟨.inr ⟨by omega, by omega⟩, hq.2⟩, r1]
          · rw [r1]; exact r3
        · cases q1
      · cases q1
    · exact ⟨H, q2 H, h1⟩
  · exact swap3 hc h1 h2

theorem idle2_len {all : Array Oper} {x y : Oper} {s : Slots} {H H1 : Heap} {v : AV} (hc : idle2 P cfg f x y = true) (h1 : stepO2 P cfg O f lo all x s H = some (v, H1)) : quiet0 cfg f y = true ∨ H.length ≤ H1.length := by
  unfold idle2 at hc
  simp only [Bool.or_eq_true, Bool.and_eq_true] at hc
  rcases hc with (((((ht | (hx | ⟨_, hx⟩)) | (⟨hx, _⟩ | ⟨hx, _⟩)) | ⟨hx, _⟩) | ⟨hx, _⟩) | ⟨⟨nx, ny⟩, hc⟩) | hc
  · exact .inr (idleT_len ht h1)
  · obtain ⟨rfl, _⟩ := pc_out hx h1
    exact .inr (Nat.le_refl _)
  · exact .inr (pcPast_len hx h1)
  · obtain ⟨rfl, _⟩ := ld0_out hx h1
    exact .inr (Nat.le_refl _)
  · exact .inr (past0_out hx h1).2
  · obtain ⟨rfl, _⟩ := ldn_out hx h1
    exact .inr (Nat.le_refl _)
  · exact .inr (pastLdn_out hx h1).1
  · obtain ⟨t, z, cs, hf, hop, hz, hcs, hx⟩ := lastFill_inv hc
    rw [stepO2_no nx] at h1
    exact .inr (stepO_any (R := fun H H1 => H.length ≤ H1.length ∧ ∀ id : Nat, hideO H[id]? = hideO H1[id]?) (fun _ => ⟨Nat.le_refl _, fun _ => rfl⟩) (fun _ _ e => callBools_out (callLast_bools hx) e) h1).1
  · exact idle3_len hc h1

/-- Two operations that may change places. -/
theorem swap {all : Array Oper} {x y : Oper} {rest : List Oper} {s : Slots} {H : Heap} {K : Slots → Heap → Res} {r : List AV × Heap} (hi : idle P cfg f all x y = true) (hcl : quiet0 cfg f y = true ∨ Cl H.length s y) (h : opsRun P cfg O f lo all (x :: y :: rest) s H K = some r) :
    opsRun P cfg O f lo all (y :: x :: rest) s H K = some r := by
  unfold idle at hi
  rw [Bool.and_eq_true] at hi
  obtain ⟨ha, hc⟩ := hi
  obtain ⟨a1, a2, a3⟩ := Oper.apart_spec ha
  rw [opsRun_cons] at h
  obtain ⟨vx, H1, h1, h⟩ := h
  rw [opsRun_cons] at h
  obtain ⟨vy, H2, h2, h⟩ := h
  rw [stepO2_congr a1] at h2
  have key : ∃ H2', stepO2 P cfg O f lo all y s H = some (vy, H2') ∧ stepO2 P cfg O f lo all x s H2' = some (vx, H2) := by
    rw [Bool.or_eq_true] at hc
    rcases hc with hc | hc
    case inr => exact (swap2 hc h1 h2).1
    rw [Bool.and_eq_true, Bool.and_eq_true] at hc
    obtain ⟨⟨nx, ny⟩, hc⟩ := hc
    rw [stepO2_no nx] at h1
    rw [stepO2_no ny] at h2
    simp only [stepO2_no nx, stepO2_no ny]
    unfold idle1 at hc
    rcases hcl with hc0 | hcl
    · obtain ⟨rfl, k⟩ := stepO_quiet0 hc0 h2
      exact ⟨H, k H, h1⟩
    rw [Bool.or_eq_true, Bool.or_eq_true, Bool.or_eq_true, Bool.or_eq_true, Bool.or_eq_true, Bool.or_eq_true, Bool.or_eq_true, Bool.or_eq_true, Bool.or_eq_true, Bool.or_eq_true] at hc
    rcases hc with (((((((((hc | hc) | hc) | hc) | hc) | hc) | hc) | hc) | hc) | hc) | hc
    · obtain ⟨rfl, k⟩ := stepO_quiet0 hc h1
      exact ⟨H2, h2, k H2⟩
    · obtain ⟨rfl, k⟩ := stepO_quiet0 hc h2
      exact ⟨H, k H, h1⟩
    · rw [Bool.and_eq_true] at hc
      cases stepO_quiet3 hc.1 h1
      cases stepO_quiet3 hc.2 h2
      exact ⟨_, h2, h1⟩
    · rw [Bool.and_eq_true] at hc
      cases stepO_quiet1 hc.1 h1
      rcases stepO_pushes hc.2 h2 with rfl | ⟨q, rfl⟩
      · exact ⟨_, h2, h1⟩
      · exact ⟨_, h2, stepO_quiet1_push hc.1 h1⟩
    · rw [Bool.and_eq_true] at hc
      obtain ⟨rfl, _⟩ := stepO_strict hc.1 (fun _ _ h => h) h1
      exact ⟨_, h2, (stepO_strict hc.1 (fun id zs h => ((stepO_rowOnly' hc.2 h2).2 id zs).mp h) h1).2⟩
    · rw [Bool.and_eq_true] at hc
      obtain ⟨rfl, _⟩ := stepO_strict hc.2 (fun _ _ h => h) h2
      exact ⟨H, (stepO_strict hc.2 (fun id zs h => ((stepO_rowOnly' hc.1 h1).2 id zs).mpr h) h2).2, h1⟩
    · rw [Bool.and_eq_true] at hc
      rcases stepO_pushes hc.1 h1 with rfl | ⟨q, rfl⟩
      · cases stepO_quiet1 hc.2 h2
        exact ⟨_, h2, h1⟩
      · obtain ⟨rfl, k⟩ := stepO_quiet1_pop hc.2 hcl h2
        exact ⟨_, k, h1⟩
    · rw [Bool.and_eq_true] at hc
      have hr := stepO_rws hc.1 h1
      obtain ⟨rfl, k⟩ := stepO_cutter (H' := H) hc.2 (fun id sz hy hrow => by
        obtain ⟨z, hz, g, off, n, he⟩ := hy
        have hlt := hcl z hz
        rw [he] at hlt
        cases hlt with
        | row hlt => exact (hr.2 id hlt sz).mpr hrow) h2
      exact ⟨H, k, h1⟩
    · rw [Bool.and_eq_true] at hc
      obtain ⟨rfl, _⟩ := stepO_cutter (H' := H) hc.1 (fun _ _ _ h => h) h1
      have hr := stepO_rws hc.2 h2
      refine ⟨_, h2, (stepO_cutter (H' := H2) hc.1 (fun id sz hy hrow => ?_) h1).2⟩
      obtain ⟨g, xs, ho⟩ := hrow
      exact (hr.2 id (getElem?_lt ho) sz).mp ⟨g, xs, ho⟩
    · unfold fillApart at hc
      split at hc
      · rename_i a b ha hb
        simp only [Bool.and_eq_true, Bool.not_eq_true'] at hc
        obtain ⟨⟨⟨c1, c2⟩, c3⟩, c4⟩ := hc
        have c1' := Nat.eq_of_beq_eq_true c1
        have c2' : a.2 < a.1 := by simpa [Nat.blt_eq] using c2
        have c3' : b.2 < b.1 := by simpa [Nat.blt_eq] using c3
        have c4' : a.2 ≠ b.2 := fun e => by rw [e, Nat.beq_refl] at c4; cases c4
        rcases stepO_fill ha h1 with ⟨c, k1, k2⟩ | ⟨rfl, k2⟩
        · rcases stepO_fill hb h2 with ⟨d, q1, q2⟩ | ⟨rfl, q2⟩
          · rw [← c1'] at q1 q2 c3'
            obtain ⟨H3, p1, p2⟩ := fill_comm c2' c3' c4' k1 q1
            exact ⟨H3, by rw [q2]; exact p1, by rw [k2]; exact p2⟩
          · exact ⟨H, q2 H, h1⟩
        · exact ⟨H2, h2, k2 H2⟩
      · cases hc
    · obtain ⟨r, t, z, cs, hf, hop, hz, hcs, hx⟩ := pastFill_inv hc
      rcases stepO_alloc0 hf hop hz h2 with ⟨q1, q2⟩ | ⟨rfl, q2⟩
      · obtain ⟨p0, p1, p2, p3⟩ := fill0_inv hcs q1
        rcases hx with hx | hx
        · obtain ⟨rfl, _⟩ := stepO_strict hx (fun _ _ h => h) h1
          refine ⟨H2, by rw [q2]; exact q1, ?_⟩
          refine (stepO_strict hx (fun id ws hb => ?_) h1).2
          subst p3
          by_cases e : H1.findIdx isHole = id
          · subst e
            rw [p1] at hb
            cases hb
          · rw [List.getElem?_set_ne e]; exact hb
        · obtain ⟨r1, r2, r3⟩ := stepO_callPast hx h1 p1
          subst p3
          refine ⟨H.set (H1.findIdx isHole) (.box (cs.map .p)), ?_, r3⟩
          rw [q2, p2, ← r1]
          unfold fillA
          have hA : holeAt 0 r H = H.findIdx isHole := if_pos rfl
          rw [hA, hcs, r2]
          simp only
          rw [if_pos ⟨.inl trivial, p0⟩]
      · exact ⟨H, q2 H, h1⟩
  obtain ⟨H2', k1, k2⟩ := key
  rw [opsRun_cons]
  refine ⟨vy, H2', k1, ?_⟩
  rw [opsRun_cons]
  refine ⟨vx, H2, ?_, ?_⟩
  · rw [stepO2_congr a3]; exact k2
  · rw [← setDst_comm a2]; exact h

/-- What may be left ahead of an operation that is not idle by itself makes no heap shorter. -/
theorem idle_len {all : Array Oper} {x y : Oper} {s : Slots} {H H1 : Heap} {v : AV} (hi : idle P cfg f all x y = true) (h1 : stepO2 P cfg O f lo all x s H = some (v, H1)) : quiet0 cfg f y = true ∨ H.length ≤ H1.length := by
  unfold idle at hi
  rw [Bool.and_eq_true] at hi
  obtain ⟨_, hc⟩ := hi
  rw [Bool.or_eq_true] at hc
  rcases hc with hc | hc
  case inr => exact idle2_len hc h1
  rw [Bool.and_eq_true, Bool.and_eq_true] at hc
  obtain ⟨⟨nx, ny⟩, hc⟩ := hc
  rw [stepO2_no nx] at h1
  unfold idle1 at hc
  rw [Bool.or_eq_true, Bool.or_eq_true, Bool.or_eq_true, Bool.or_eq_true, Bool.or_eq_true, Bool.or_eq_true, Bool.or_eq_true, Bool.or_eq_true, Bool.or_eq_true, Bool.or_eq_true] at hc
  rcases hc with (((((((((hc | hc) | hc) | hc) | hc) | hc) | hc) | hc) | hc) | hc) | hc
  · obtain ⟨rfl, _⟩ := stepO_quiet0 hc h1; exact .inr (Nat.le_refl _)
  · exact .inl hc
  · rw [Bool.and_eq_true] at hc; cases stepO_quiet3 hc.1 h1; exact .inr (Nat.le_refl _)
  · rw [Bool.and_eq_true] at hc; cases stepO_quiet1 hc.1 h1; exact .inr (Nat.le_refl _)
  · rw [Bool.and_eq_true] at hc; obtain ⟨rfl, _⟩ := stepO_strict hc.1 (fun _ _ h => h) h1; exact .inr (Nat.le_refl _)
  · rw [Bool.and_eq_true] at hc; exact .inr (stepO_rowOnly' hc.1 h1).1
  · rw [Bool.and_eq_true] at hc
    rcases stepO_pushes hc.1 h1 with rfl | ⟨q, rfl⟩
    · exact .inr (Nat.le_refl _)
    · exact .inr (by simp)
  · rw [Bool.and_eq_true] at hc; exact .inr (stepO_rws hc.1 h1).1
  · rw [Bool.and_eq_true] at hc; obtain ⟨rfl, _⟩ := stepO_cutter (H' := H) hc.1 (fun _ _ _ h => h) h1; exact .inr (Nat.le_refl _)
  · unfold fillApart at hc
    split at hc
    · rename_i a b ha hb
      rcases stepO_fill ha h1 with ⟨c, k1, _⟩ | ⟨rfl, _⟩
      · exact .inr (Nat.le_of_eq (fill_len k1).symm)
      · exact .inr (Nat.le_refl _)
    · cases hc
  · obtain ⟨r, t, z, cs, hf, hop, hz, hcs, hx⟩ := pastFill_inv hc
    rcases hx with hx | hx
    · obtain ⟨rfl, _⟩ := stepO_strict hx (fun _ _ h => h) h1; exact .inr (Nat.le_refl _)
    · exact .inr (stepO_callRows (callPast_rows hx) h1).1

theorem Lt.mono {n m : Nat} (hm : n ≤ m) {x : AV} (h : Lt n x) : Lt m x := by
  induction h with
  | any => exact .any
  | p => exact .p _
  | fp => exact .fp _ _
  | agg _ ih => exact .agg ih
  | tup _ ih => exact .tup ih
  | row h => exact .row (Nat.lt_of_lt_of_le h hm)
  | ptr h => exact .ptr (Nat.lt_of_lt_of_le h hm)
  | bsl h => exact .bsl (Nat.lt_of_lt_of_le h hm)
  | rptr h => exact .rptr (Nat.lt_of_lt_of_le h hm)
  | mp h => exact .mp (Nat.lt_of_lt_of_le h hm)
  | it h => exact .it (Nat.lt_of_lt_of_le h hm)
  | fn _ _ ih1 ih2 => exact .fn ih1 ih2

theorem pull {all : Array Oper} {y : Oper} {rest : List Oper} {K : Slots → Heap → Res} {r : List AV × Heap} : ∀ (xs : List Oper) (s : Slots) (H : Heap), (∀ x ∈ xs, idle P cfg f all x y = true) → (quiet0 cfg f y = true ∨ Cl H.length s y) → opsRun P cfg O f lo all (xs ++ y :: rest) s H K = some r →
    opsRun P cfg O f lo all (y :: (xs ++ rest)) s H K = some r := by
  intro xs
  induction xs with
  | nil => intro s H _ _ h; exact h
  | cons x xs ih =>
    intro s H hi hcl h
    rw [List.cons_append, opsRun_cons] at h
    obtain ⟨v, H1, h1, h⟩ := h
    have hix := hi x (by simp)
    have hcl1 : quiet0 cfg f y = true ∨ Cl H1.length (setDst x.dst v s) y := by
      rcases hcl with hc | hc
      · exact .inl hc
      · rcases idle_len hix h1 with hq | hq
        · exact .inl hq
        · have ha : x.apart all y = true := by
            unfold idle at hix
            rw [Bool.and_eq_true] at hix
            exact hix.1
          exact .inr (cl_setDst (Oper.apart_spec ha).1 fun z hz => (hc z hz).mono hq)
    have h2 := ih _ _ (fun x hx => hi x (by simp [hx])) hcl1 h
    have h3 : opsRun P cfg O f lo all (x :: y :: (xs ++ rest)) s H K = some r := by
      rw [opsRun_cons]
      exact ⟨v, H1, h1, h2⟩
    exact swap hix hcl h3

/-- What is left of a region. -/
def leftOf (ops : Array Oper) (listed : Array Bool) : List Nat := (List.range ops.size).filter fun i => !listed.getD i true

def operAt (ops : Array Oper) (i : Nat) : Oper := ops.getD i default

theorem ordered_listed {ops : Array Oper} {listed : Array Bool} (hcl : ∀ (j : Nat) o, ops[j]? = some o → listed.getD j false = true → ∀ e ∈ o.after, Region.binds .any e = true → listed.getD e.on false = true) {i : Nat} :
    ∀ (n j : Nat) (o : Oper), ops[j]? = some o → (∀ e ∈ o.after, Region.binds .any e = true → listed.getD e.on false = true) → ordered ops i n j = true → listed.getD i false = true := by
  intro n
  induction n with
  | zero => intro j o _ _ h; cases h
  | succ n ih =>
    intro j o ho hp h
    simp only [ordered, ho] at h
    rw [Array.any_eq_true'] at h
    obtain ⟨e, he, h⟩ := h
    rw [Bool.and_eq_true] at h
    have hl := hp e he h.1
    have h' := h.2
    rw [Bool.or_eq_true] at h'
    rcases h' with h' | h'
    · rw [← Nat.eq_of_beq_eq_true h']; exact hl
    · rw [Bool.and_eq_true] at h'
      cases ho' : ops[e.on]? with
      | none =>
        have := h'.2
        cases n with
        | zero => cases this
        | succ n => simp only [ordered, ho'] at this; cases this
      | some o' => exact ih e.on o' ho' (hcl _ _ ho' hl) h'.2

theorem filter_split {p : Nat → Bool} {i : Nat} : ∀ (l : List Nat), l.Nodup → i ∈ l → p i = true → ∃ l1 l2, l.filter p = l1 ++ i :: l2 ∧ (l.filter fun k => p k && !(Nat.beq k i)) = l1 ++ l2 := by
  intro l
  induction l with
  | nil => intro _ h; cases h
  | cons a l ih =>
    intro hn hi hp
    rw [List.nodup_cons] at hn
    by_cases e : a = i
    · subst e
      refine ⟨[], l.filter p, by simp [hp], ?_⟩
      have : (l.filter fun k => p k && !(Nat.beq k a)) = l.filter p := List.filter_congr fun k hk => by
        have : Nat.beq k a = false := by
          cases h : Nat.beq k a with
          | false => rfl
          | true => exact (hn.1 (Nat.eq_of_beq_eq_true h ▸ hk)).elim
        simp [this]
      simp [this]
    · have hi' : i ∈ l := by
        rcases List.mem_cons.mp hi with h | h
        · exact (e h.symm).elim
        · exact h
      obtain ⟨l1, l2, h1, h2⟩ := ih hn.2 hi' hp
      have hb : Nat.beq a i = false := by
        cases h : Nat.beq a i with
        | false => rfl
        | true => exact (e (Nat.eq_of_beq_eq_true h)).elim
      cases hpa : p a with
      | true => exact ⟨a :: l1, l2, by simp [hpa, h1], by simp [hpa, hb, h2]⟩
      | false => exact ⟨l1, l2, by simp [hpa, h1], by simp [hpa, h2]⟩

theorem least_unlisted (p : Nat → Bool) : ∀ n, (∀ j, j < n → p j = false) ∨ ∃ j, j < n ∧ p j = true ∧ ∀ i, i < j → p i = false := by
  intro n
  induction n with
  | zero => exact .inl fun j hj => by omega
  | succ n ih =>
    rcases ih with h | ⟨j, h1, h2, h3⟩
    · cases hp : p n with
      | false =>
        refine .inl fun j hj => ?_
        rcases Nat.lt_succ_iff_lt_or_eq.mp hj with h' | h'
        · exact h j h'
        · rw [h']; exact hp
      | true => exact .inr ⟨n, by omega, hp, h⟩
    · exact .inr ⟨j, by omega, h2, h3⟩

theorem getD_set_ne {l : Array Bool} {i j : Nat} (h : i ≠ j) (b d : Bool) : (l.setIfInBounds i b).getD j d = l.getD j d := by
  rw [Array.getD_eq_getD_getElem?, Array.getElem?_setIfInBounds_ne h, ← Array.getD_eq_getD_getElem?]

theorem getD_set_same {l : Array Bool} {i : Nat} (h : i < l.size) (b d : Bool) : (l.setIfInBounds i b).getD i d = b := by
  simp [Array.getD_eq_getD_getElem?, h]

theorem opsDraw_sound {O : Oracle} (hO : EntOk P O) {ops : Array Oper} {r : List AV × Heap} {Q : Exit → Act → World → Prop} {nt : Nat} (hd : dstsOk nt ops = true) (hok : okDraw P cfg f ops = true) :
    ∀ (fuel : Nat) (listed : Array Bool) (H : Heap) (β : Beta) (F : Frz) (w : World) (a : Act) (s : Slots) (K : Slots → Heap → Res), listed.size = ops.size → (leftOf ops listed).length = fuel →
      (∀ (j : Nat) o, ops[j]? = some o → listed.getD j false = true → ∀ e ∈ o.after, Region.binds .any e = true → listed.getD e.on false = true) →
      opsRun P cfg O f lo ops ((leftOf ops listed).map (operAt ops)) s H K = some r → Inv H β F w → RS H β F w a s → LowAll lo H → a.tmps.size = nt → Cont r lo H β F w a s K (Q .normal) → ∀ ro, wpAnyIn (FR ro) 0 P .any ops Q fuel listed a w := by
  unfold okDraw at hok
  rw [Bool.and_eq_true, Bool.and_eq_true] at hok
  obtain ⟨⟨_, hbk⟩, hpair⟩ := hok
  intro fuel
  induction fuel with
  | zero =>
    intro listed H β F w a s K hsz hlen hcl h hI hs hlo hn hK ro
    have hnil : leftOf ops listed = [] := List.length_eq_zero_iff.mp hlen
    rw [hnil] at h
    refine ⟨?_, hK s H a w β F h hI (Ext.refl _ _ _ _) hs hlo rfl rfl⟩
    unfold Region.ready
    rw [List.filter_eq_nil_iff]
    intro i hi hc
    rw [Bool.and_eq_true] at hc
    have : i ∈ leftOf ops listed := List.mem_filter.mpr ⟨hi, hc.1⟩
    rw [hnil] at this
    cases this
  | succ fuel ih =>
    intro listed H β F w a s K hsz hlen hcl h hI hs hlo hn hK ro
    have same : ∀ k, k < ops.size → listed.getD k true = listed.getD k false := by
      intro k hk
      rw [← hsz] at hk
      simp [Array.getD, hk]
    refine ⟨fun hr => ?_, fun i hi => ?_⟩
    · exfalso
      rcases least_unlisted (fun i => !listed.getD i true) ops.size with h0 | ⟨j, h1, h2, h3⟩
      · have : leftOf ops listed = [] := by
          unfold leftOf
          rw [List.filter_eq_nil_iff]
          intro i hi hc
          rw [h0 i (by simpa using hi)] at hc
          cases hc
        rw [this] at hlen
        cases hlen
      · have ho : ops[j]? = some ops[j] := Array.getElem?_eq_getElem h1
        have : j ∈ Region.ready .any ops listed := by
          unfold Region.ready
          refine List.mem_filter.mpr ⟨by simpa using h1, ?_⟩
          rw [Bool.and_eq_true]
          refine ⟨h2, ?_⟩
          rw [ho]
          simp only [Option.map_some, Option.getD_some]
          rw [Array.all_eq_true']
          intro e he
          cases hb : Region.binds .any e with
          | false => rfl
          | true =>
            have := List.all_eq_true.mp hbk j (by simpa using h1)
            rw [ho] at this
            rw [Array.all_eq_true'] at this
            have := this e he
            rw [hb] at this
            have hlt : e.on < j := by simpa [Nat.blt_eq] using this
            have h4 := h3 e.on hlt
            rw [same e.on (by omega)] at h4
            simpa using h4
        rw [hr] at this
        cases this
    · unfold Region.ready at hi
      rw [List.mem_filter, Bool.and_eq_true] at hi
      obtain ⟨hin, hun, hed⟩ := hi
      have hin' : i < ops.size := by simpa using hin
      have ho : ops[i]? = some ops[i] := Array.getElem?_eq_getElem hin'
      have hedges : ∀ e ∈ ops[i].after, Region.binds .any e = true → listed.getD e.on false = true := by
        rw [ho] at hed
        simp only [Option.map_some, Option.getD_some] at hed
        rw [Array.all_eq_true'] at hed
        intro e he hb
        have := hed e he
        rw [hb] at this
        simpa using this
      obtain ⟨l1, l2, e1, e2⟩ := filter_split (p := fun i => !listed.getD i true) (i := i) (List.range ops.size) List.nodup_range hin hun
      have hsorted : (l1 ++ i :: l2).Pairwise (· < ·) := by
        rw [← e1]
        exact List.Pairwise.filter _ List.pairwise_lt_range
      have hl1 : ∀ k ∈ l1, k < i := fun k hk => (List.pairwise_append.mp hsorted).2.2 k hk i (by simp)
      have hl1u : ∀ k ∈ l1, listed.getD k true = false ∧ k < ops.size := by
        intro k hk
        have : k ∈ l1 ++ i :: l2 := by simp [hk]
        rw [← e1, List.mem_filter] at this
        exact ⟨by simpa using this.2, by simpa using this.1⟩
      have hidle : ∀ x ∈ l1.map (operAt ops), idle P cfg f ops x (operAt ops i) = true := by
        intro x hx
        obtain ⟨k, hk, rfl⟩ := List.mem_map.mp hx
        have hki := hl1 k hk
        obtain ⟨hku, hks⟩ := hl1u k hk
        have hp := List.all_eq_true.mp hpair i (by simpa using hin')
        have hp := List.all_eq_true.mp hp k (by simpa using hki)
        have hok : ops[k]? = some ops[k] := Array.getElem?_eq_getElem hks
        rw [ho, hok] at hp
        simp only [Bool.or_eq_true] at hp
        rcases hp with hp | hp
        · simpa [operAt, hks, hin'] using hp
        · have := ordered_listed hcl 12 i _ ho hedges hp
          rw [← same k hks, hku] at this
          cases this
      have hleft : leftOf ops listed = l1 ++ i :: l2 := e1
      have hleft' : leftOf ops (listed.setIfInBounds i true) = l1 ++ l2 := by
        rw [← e2]
        refine List.filter_congr fun k hk => ?_
        have hk' : k < listed.size := by rw [hsz]; simpa using hk
        by_cases ek : k = i
        · subst ek
          have : Nat.beq k k = true := Nat.beq_refl k
          rw [getD_set_same hk', this]
          simp
        · have : Nat.beq k i = false := by
            cases hb : Nat.beq k i with
            | false => rfl
            | true => exact (ek (Nat.eq_of_beq_eq_true hb)).elim
          rw [getD_set_ne (Ne.symm ek), this]
          simp
      rw [hleft, List.map_append, List.map_cons] at h
      have h' := pull _ _ _ hidle (.inr fun z _ => (ev_sound hs z).closed) h
      rw [← List.map_append, ← hleft'] at h'
      have hop : operAt ops i = ops[i] := by simp [operAt, hin']
      rw [hop] at h'
      have hdst : ∀ t, ops[i].dst = some t → t < a.tmps.size := by
        intro t ht
        have := List.all_eq_true.mp hd ops[i] (by simp)
        rw [Bool.and_eq_true] at this
        have := this.2
        rw [ht] at this
        rw [hn]
        simpa [Nat.blt_eq] using this
      have hmono : ∀ k, listed.getD k false = true → (listed.setIfInBounds i true).getD k false = true := by
        intro k hk
        by_cases ek : i = k
        · subst ek
          exact getD_set_same (by rw [hsz]; exact hin') _ _
        · rw [getD_set_ne ek]; exact hk
      have hcl' : ∀ (j : Nat) o, ops[j]? = some o → (listed.setIfInBounds i true).getD j false = true → ∀ e ∈ o.after, Region.binds .any e = true → (listed.setIfInBounds i true).getD e.on false = true := by
        intro j o hj hl e he hb
        by_cases ej : i = j
        · subst ej
          rw [ho] at hj
          cases hj
          exact hmono _ (hedges e he hb)
        · refine hmono _ (hcl j o hj ?_ e he hb)
          rwa [getD_set_ne ej] at hl
      have hsz' : (listed.setIfInBounds i true).size = ops.size := by simpa using hsz
      have hlen' : (leftOf ops (listed.setIfInBounds i true)).length = fuel := by
        rw [hleft'] 
        rw [hleft] at hlen
        simp at hlen ⊢
        omega
      unfold wpOpIn
      rw [ho]
      simp only
      simp only [opsRun] at h'
      rcases runOp_inv hs h' with ⟨hw, x, H1, hx, hk⟩ | ⟨hw, hk⟩
      · rw [if_pos hw]
        obtain ⟨d1, d2⟩ := exec2_sound hO hI hs hlo hx
        refine d1 _ Q (fun v w' β' F' hv hI' hE => ?_) ro ?_
        rotate_left
        · have := List.all_eq_true.mp hd ops[i] (by simp)
          rw [Bool.and_eq_true] at this
          exact this.1
        refine ih (listed.setIfInBounds i true) H1 β' F' w' (a.put ops[i].dst v) (setDst ops[i].dst x s) K hsz' hlen' hcl' hk hI' ((hs.ext hI hE).put hv hdst) d2 (by rw [size_put]; exact hn) ?_ ro
        intro s2 H2 a2 w2 β2 F2 q1 q2 q3 q4 q5 q6 q7
        exact hK s2 H2 a2 w2 β2 F2 q1 q2 (hE.trans q3) q4 q5 (by rw [q6, size_put]) (by rw [q7, defers_put])
      · rw [if_neg (by rw [hw]; simp)]
        refine ⟨fun _ _ => trivial, ?_⟩
        refine ih (listed.setIfInBounds i true) H β F w (a.put ops[i].dst undef) (setDst ops[i].dst undefA s) K hsz' hlen' hcl' hk hI (hs.put undef_ra hdst) hlo (by rw [size_put]; exact hn) ?_ ro
        intro s2 H2 a2 w2 β2 F2 q1 q2 q3 q4 q5 q6 q7
        exact hK s2 H2 a2 w2 β2 F2 q1 q2 q3 q4 q5 (by rw [q6, size_put]) (by rw [q7, defers_put])

theorem regionDraw_sound {H : Heap} {β : Beta} {F : Frz} {w : World} {O : Oracle} (hO : EntOk P O) {id : Nat} {ops : Array Oper} {r : List AV × Heap} {Q : Exit → Act → World → Prop} {a : Act} {s : Slots} {K : Slots → Heap → Res} {ro : Option Nat}
    (hd : dstsOk a.tmps.size ops = true) (hok : okDraw P cfg f ops = true) (h : opsRun P cfg O f lo ops ops.toList s H K = some r) (hI : Inv H β F w) (hs : RS H β F w a s) (hlo : LowAll lo H) (hK : Cont r lo H β F w a s K (Q .normal)) : (Code.region id ops true).wpIn (FR ro) 0 P Q a w := by
  have hm : P.follows .mixedOrders = true := by
    unfold okDraw at hok
    rw [Bool.and_eq_true, Bool.and_eq_true] at hok
    exact hok.1.1
  refine wpIn_region_any hm ?_
  obtain ⟨i1, i2⟩ := hI.same (w' := { w with drawn := w.drawn + 1 }) ⟨rfl, rfl, rfl, Nat.le_refl _, Nat.le_succ _, fun _ _ _ => rfl⟩
  have hleft : leftOf ops (Array.replicate ops.size false) = List.range ops.size := by
    unfold leftOf
    rw [List.filter_eq_self]
    intro i hi
    have hi' : i < ops.size := by simpa using hi
    simp [Array.getD, hi']
  have hops : (List.range ops.size).map (operAt ops) = ops.toList := by
    refine List.ext_getElem (by simp) fun i h1 h2 => ?_
    simp at h1
    simp [operAt, h1]
  refine opsDraw_sound hO hd hok ops.size _ H β F { w with drawn := w.drawn + 1 } a s K (by simp) (by rw [hleft]; simp) ?_ (by rw [hleft, hops]; exact h) i1 (hs.ext hI i2) hlo rfl ?_ ro
  · intro j o hj hl
    exfalso
    by_cases hjs : j < ops.size
    · simp [Array.getD, hjs] at hl
    · simp [Array.getD, hjs] at hl
  · intro s2 H2 a2 w2 β2 F2 q1 q2 q3 q4 q5 q6 q7
    exact hK s2 H2 a2 w2 β2 F2 q1 q2 (i2.trans q3) q4 q5 q6 q7

end
end Go.AM
