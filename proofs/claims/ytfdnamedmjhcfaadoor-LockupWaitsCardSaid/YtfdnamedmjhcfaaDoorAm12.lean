/-
Code: what is left to be done, loops, joins, ends.
-/
import Derived.Test.YtfdnamedmjhcfaaDoorAm11b
set_option linter.unusedVariables false
set_option linter.unusedSimpArgs false
set_option linter.unnecessarySimpa false
set_option linter.unusedSectionVars false
namespace Go.AM
variable [Know]

theorem fencedFR {P : Program} {ro : Option Nat} (m : Machine) : m.fenced P (FR ro) := by
  intro g _
  refine ⟨fun h => ?_, Or.inl trivial, fun _ _ => trivial, fun _ h => ?_⟩
  · simp [FR, Fence.wide] at h
  · simp [FR, Fence.wide] at h
theorem roomFR {ro : Option Nat} (n : Nat) : (FR ro).room n := fun _ h => by simp [FR, Fence.wide] at h

/-- A loop, from behind its head on. -/
def LoopWp (P : Program) (ro : Option Nat) (c : Code) (Q : Exit → Act → World → Prop) (a : Act) (w : World) : Prop :=
  ∀ (b : Frame) (k : List Item) (cs : List Frame), b.roundOf = ro → ∃ e a' w', Q e a' w' ∧ ArrivesIn (Machine.fenced P (FR ro)) P (lone (b.atR a (.code c :: .inLoop c :: k)) cs w) b k cs e a' w'

section
variable {P : Program} {ro : Option Nat}

theorem wp_of_loopWp {c : Code} {Q : Exit → Act → World → Prop} {a : Act} {w : World} (h : LoopWp P ro c Q a w) : (Code.loop c).wpIn (FR ro) 0 P Q a w := by
  intro b k cs hro _ _
  obtain ⟨e, a', w', hq, harr⟩ := h b k cs hro
  exact ⟨e, a', w', hq, .of_steps (.one (fencedFR _) stepR_loop) harr⟩

theorem loopWp_of_body {c : Code} {Q : Exit → Act → World → Prop} {a : Act} {w : World} (h : c.wpIn (FR ro) 0 P (Exit.then (LoopWp P ro c Q) Q) a w) : LoopWp P ro c Q a w := by
  intro b k cs hro
  obtain ⟨e, a₁, w₁, hq, harr⟩ := h b (.inLoop c :: k) cs hro trivial (roomFR _)
  cases e with
  | normal =>
    obtain ⟨e₂, a₂, w₂, hq₂, harr₂⟩ := hq b k cs hro
    exact ⟨e₂, a₂, w₂, hq₂, .of_steps (StepsIn.trans harr (.one (fencedFR _) stepR_inLoop)) harr₂⟩
  | exit id => exact ⟨_, a₁, w₁, hq, .pass (x := .inLoop c) rfl (fun _ _ => .inl (by simp)) harr⟩
  | goto l => exact ⟨_, a₁, w₁, hq, .pass (x := .inLoop c) rfl (fun _ _ => .inl (by simp)) harr⟩
  | ret => exact ⟨_, a₁, w₁, hq, .pass (x := .inLoop c) rfl (fun _ _ => .inl (by simp)) harr⟩
  | panic ch => exact ⟨_, a₁, w₁, hq, .pass (x := .inLoop c) rfl (fun _ _ => .inl (by simp)) harr⟩
  | outgrown => exact ⟨_, a₁, w₁, hq, .pass (x := .inLoop c) rfl (fun _ _ => .inl (by simp)) harr⟩

/-- What is left to be done in a function's frame, as the program's own logic has it. -/
def Kwp (P : Program) (R : Act → World → Prop) : List It → Exit → Act → World → Prop
  | [], .normal, a, w | [], .ret, a, w => R a w
  | [], _, _, _ => False
  | .code c :: k, .normal, a, w => c.wpIn (FR none) 0 P (Kwp P R k) a w
  | .code _ :: k, e, a, w => Kwp P R k e a w
  | .blk id :: k, .exit id', a, w => if id' = id then Kwp P R k .normal a w else Kwp P R k (.exit id') a w
  | .blk _ :: k, e, a, w => Kwp P R k e a w
  | .lp c _ :: k, .normal, a, w => LoopWp P none c (Kwp P R k) a w
  | .lp _ _ :: k, e, a, w => Kwp P R k e a w
  | .jn :: k, e, a, w => Kwp P R k e a w
  | .rf _ :: k, .normal, _, _ => True
  | .rf _ :: k, e, a, w => Kwp P R k e a w

theorem Kwp.ret {R : Act → World → Prop} {a : Act} {w : World} (h : R a w) : ∀ k, Kwp P R k .ret a w := by
  intro k
  induction k with
  | nil => exact h
  | cons x k ih => cases x <;> exact ih

theorem Kwp.exit {R : Act → World → Prop} {a : Act} {w : World} {id : Nat} : ∀ k k', exitToA id k = some k' → Kwp P R k' .normal a w → Kwp P R k (.exit id) a w := by
  intro k
  induction k with
  | nil => intro k' h; cases h
  | cons x k ih =>
    intro k' h hk
    cases x with
    | code c => exact ih k' h hk
    | jn => exact ih k' h hk
    | lp c b => exact ih k' h hk
    | rf R => exact ih k' h hk
    | blk id' =>
      simp only [exitToA] at h
      simp only [Kwp]
      split at h
      · rename_i e
        rw [if_pos (Nat.eq_of_beq_eq_true e).symm]
        cases h
        exact hk
      · rename_i e
        rw [if_neg (fun e2 => e (by rw [e2]; exact Nat.beq_refl _))]
        exact ih k' h hk

theorem then_kwp {R : Act → World → Prop} {c : Code} {k : List It} : Exit.then (c.wpIn (FR none) 0 P (Kwp P R k)) (Kwp P R k) = Kwp P R (.code c :: k) := by
  funext e a w
  cases e <;> rfl

theorem inBlock_kwp {R : Act → World → Prop} {id : Nat} {k : List It} : Exit.inBlock id (Kwp P R k) = Kwp P R (.blk id :: k) := by
  funext e a w
  cases e <;> rfl

theorem thenLoop_kwp {R : Act → World → Prop} {c : Code} {b : Option Nat} {k : List It} : Exit.then (LoopWp P none c (Kwp P R k)) (Kwp P R k) = Kwp P R (.lp c b :: k) := by
  funext e a w
  cases e <;> rfl

/-- The levels fall from within to without. -/
def Dec (lo : List Nat) : List It → Prop
  | .lp _ (some b) :: k => (∀ l ∈ levelsOf lo k, l ≤ b) ∧ Dec lo k
  | _ :: k => Dec lo k
  | [] => True

/-- The mark that a range over a function leaves among a frame's deferred calls. -/
def coll (D : Nat) : Deferred := { target := .collected D, args := #[] }

/-- The blocks that such marks name: empty, new since w0, nobody's. -/
def Mk (w0 : World) (ms : List Nat) (β : Beta) (w : World) : Prop :=
  ms.Nodup ∧ ∀ D ∈ ms, w0.heap.size ≤ D ∧ w.heap[D]? = some (.deferred (some [])) ∧ ∀ id s t, β id ≠ some (D, s, t)

theorem Mk.nil (w0 : World) (β : Beta) (w : World) : Mk w0 [] β w := ⟨List.nodup_nil, fun _ h => by cases h⟩

theorem heap_lt {w : World} {b : Nat} {o : Obj} (h : w.heap[b]? = some o) : b < w.heap.size := (Array.getElem?_eq_some_iff.1 h).1

theorem Mk.ext {w0 : World} {ms : List Nat} {H H' : Heap} {β β' : Beta} {F F' : Frz} {w w' : World} (h : Mk w0 ms β w) (hE : Ext H β F w H' β' F' w') : Mk w0 ms β' w' :=
  ⟨h.1, fun D hD => by
    obtain ⟨h1, h2, h3⟩ := h.2 D hD
    refine ⟨h1, (hE.block D (heap_lt h2) h3).trans h2, fun id s t e => ?_⟩
    rcases hE.own id D s t e with e1 | ⟨id', s', t', e1⟩
    · have := heap_lt h2; omega
    · exact h3 _ _ _ e1⟩

theorem Mk.cut {w0 : World} {ms : List Nat} {β : Beta} {w : World} (h : Mk w0 ms β w) (b : Nat) : Mk w0 ms (cutB b β) w :=
  ⟨h.1, fun D hD => by
    obtain ⟨h1, h2, h3⟩ := h.2 D hD
    refine ⟨h1, h2, fun id s t e => ?_⟩
    unfold cutB at e
    split at e
    · exact h3 _ _ _ e
    · cases e⟩

/-- A block that is nobody's becomes another: all stands as it stood. -/
theorem Inv.putObj {H : Heap} {β : Beta} {F : Frz} {w : World} (hI : Inv H β F w) {D : Nat} {o o' : Obj} (ho : w.heap[D]? = some o) (hc : o.isCells = false) (hn : ∀ id s t, β id ≠ some (D, s, t)) :
    Inv H β F (w.putObj D o') ∧ (∀ v x, RA H β F w v x → RA H β F (w.putObj D o') v x) := by
  have hF : ∀ b j, F b j → b ≠ D := by
    intro b j hj e
    subst e
    obtain ⟨v, hv⟩ := hI.fz b j hj
    obtain ⟨o2, h1, h2⟩ := cells_of_cell hv
    rw [ho] at h1
    cases h1
    rw [hc] at h2
    cases h2
  have hcell : ∀ b j, F b j → (w.putObj D o').cell? ⟨b, j, none⟩ = w.cell? ⟨b, j, none⟩ := fun b j hj => World.cell?_of_block (w := w) (World.putObj_heap_other (hF b j hj))
  have hra : ∀ v x, RA H β F w v x → RA H β F (w.putObj D o') v x := fun v x h => h.mono (Grow.refl _ _) (fun _ _ h => h) hcell
  have hrp : ∀ v x, RP F w v x → RP F (w.putObj D o') v x := fun v x h => h.mono (fun _ _ h => h) hcell
  have hb : ∀ id b s t, β id = some (b, s, t) → (w.putObj D o').heap[b]? = w.heap[b]? := fun id b s t e => World.putObj_heap_other fun e2 => hn id s t (by rw [e, e2])
  refine ⟨⟨fun id x hx => ?_, hI.inj, hI.dom, fun b j hj => ?_, hI.own, fun b j v hv => ?_⟩, hra⟩
  · have h := hI.obj id x hx
    cases x with
    | box xs =>
      rcases h with h | ⟨b, c, e, h1, h2, h3, h4⟩
      · exact .inl h
      · exact .inr ⟨b, c, e, h1, (hb _ _ _ _ h1).trans h2, h3, fun i hi => ⟨hra _ _ (h4 i hi).1, (h4 i hi).2⟩⟩
    | row g sz xs =>
      rcases h with h | ⟨b, s, t, c, e, h1, h2, h3, h4, h5⟩
      · exact .inl h
      · exact .inr ⟨b, s, t, c, e, h1, (hb _ _ _ _ h1).trans h2, h3, h4, fun i hi => hrp _ _ (h5 i hi)⟩
    | map es c =>
      obtain ⟨b, en, h1, h2, h3, h4⟩ := h
      refine ⟨b, en, h1, (hb _ _ _ _ h1).trans h2, h3, fun i hi => ?_⟩
      obtain ⟨e, k1, k2, k3, k4⟩ := h4 i hi
      exact ⟨e, k1, hra _ _ k2, hra _ _ k3, k4⟩
    | iter m since seen last =>
      obtain ⟨h0, b, bm, s, t, es, c, h1, h2, h3, h4, h5⟩ := h
      exact ⟨h0, b, bm, s, t, es, c, h1, h2, h3, (hb _ _ _ _ h1).trans h4, h5⟩
    | hole => exact h
  · obtain ⟨v, hv⟩ := hI.fz b j hj
    exact ⟨v, (hcell b j hj).trans hv⟩
  · obtain ⟨h1, h2⟩ := hI.kn b j v hv
    exact ⟨h1, (hcell b j h1).trans h2⟩

theorem Ext.putObj {H0 H : Heap} {β0 β : Beta} {F0 F : Frz} {w0 w : World} (h : Ext H0 β0 F0 w0 H β F w) {D : Nat} (hD : w0.heap.size ≤ D) (o' : Obj) : Ext H0 β0 F0 w0 H β F (w.putObj D o') :=
  { h with size := by rw [World.putObj_size]; exact h.size, block := fun b hb hn => (World.putObj_heap_other (by omega)).trans (h.block b hb hn) }

/-- The marks are come to, one behind the other. -/
def Takes (P : Program) : List Deferred → World → World → Prop
  | [], w, w' => w' = w
  | d :: ds, w, w' => ∃ r w1, d.target = .collected r ∧ (Instr.takeDeferred r).run P w = .ok [] w1 ∧ Takes P ds w1 w'

/-- Where a frame stands: its heap, since it began. -/
structure St (P : Program) (nt : Nat) (H0 : Heap) (β0 : Beta) (F0 : Frz) (w0 : World) (todo : List It) (lo : List Nat) (H : Heap) (β : Beta) (F : Frz) (w : World) (a : Act) : Prop where
  inv : Inv H β F w
  ext : Ext H0 β0 F0 w0 H β F w
  low : LowAll (levelsOf lo todo) H
  bs : ∀ b ∈ levelsOf [] todo, H0.length ≤ b
  size : a.tmps.size = nt
  defers : ∃ ms : List Nat, a.defers = ms.map coll ∧ Mk w0 ms β w
  dec : Dec lo todo

/-- A frame's end. -/
def Fin (P : Program) (f : FuncId) (lo : List Nat) (H0 : Heap) (β0 : Beta) (F0 : Frz) (w0 : World) (r : List AV × Heap) (a : Act) (w : World) : Prop :=
  ∃ w1, Takes P a.defers w w1 ∧ ∃ fn, P.funcs[f]? = some fn ∧ ∃ v, (results fn a.tmps).run P w1 = .ok v w1 ∧ ∃ β' F', RA r.2 β' F' w1 v (ret r.1) ∧ Inv r.2 β' F' w1 ∧ Ext H0 β0 F0 w0 r.2 β' F' w1 ∧ LowAll lo r.2

def RL (H : Heap) (β : Beta) (F : Frz) (w : World) (a : Act) (keep : List Nat) (vals : List AV) : Prop := RAs H β F w (keep.map fun k => a.tmps.getD k undef) vals

theorem RL.slots {H : Heap} {β : Beta} {F : Frz} {w : World} {a : Act} : ∀ {keep : List Nat} {vals : List AV}, RL H β F w a keep vals → RS H β F w a (mkS keep vals) := by
  intro keep
  induction keep with
  | nil => intro vals h i; exact .any _
  | cons k keep ih =>
    intro vals h
    cases vals with
    | nil => intro i; exact .any _
    | cons v vals =>
      unfold RL at h
      simp only [List.map_cons] at h
      cases h with
      | cons h h' =>
        intro i
        simp only [mkS, upd]
        cases e : Nat.beq i k with
        | true =>
          rw [Nat.eq_of_beq_eq_true e]
          exact h
        | false => exact ih h' i

theorem RS.keep {H : Heap} {β : Beta} {F : Frz} {w : World} {a : Act} {s : Slots} (h : RS H β F w a s) (keep : List Nat) : RL H β F w a keep (keep.map s) := by
  unfold RL
  induction keep with
  | nil => exact .nil
  | cons k keep ih => exact .cons (h k) ih

/-- What an oracle's answer at a label promises. -/
def LabOk (P : Program) (cfg : Cfg) (O : Oracle) : Prop :=
  ∀ f keep todo vals lo H r, O.lab f keep todo vals lo H = some r → ∀ H0 β0 F0 w0 β F w a, St P (ntOf P f) H0 β0 F0 w0 todo lo H β F w a → RL H β F w a keep vals →
    ∀ lo', (∀ (s' : Slots) H' β' F' w' a', finish P cfg f s' lo H' = some r → St P (ntOf P f) H0 β0 F0 w0 [] lo H' β' F' w' a' → RS H' β' F' w' a' s' → Fin P f lo' H0 β0 F0 w0 r a' w') → Kwp P (Fin P f lo' H0 β0 F0 w0 r) todo .normal a w

theorem levels_suffix {lo : List Nat} : ∀ (k k' : List It) (id : Nat), exitToA id k = some k' → ∀ l ∈ levelsOf lo k', l ∈ levelsOf lo k := by
  intro k
  induction k with
  | nil => intro k' id h; cases h
  | cons x k ih =>
    intro k' id h l hl
    cases x with
    | code c => exact ih k' id h l hl
    | jn => exact ih k' id h l hl
    | rf R => exact ih k' id h l hl
    | lp c b =>
      cases b with
      | none => exact ih k' id h l hl
      | some b => exact List.mem_cons_of_mem _ (ih k' id h l hl)
    | blk id' =>
      simp only [exitToA] at h
      split at h
      · cases h; exact hl
      · exact ih k' id h l hl

theorem levels_end {lo : List Nat} : ∀ (k : List It), ∀ l ∈ lo, l ∈ levelsOf lo k := by
  intro k
  induction k with
  | nil => intro l hl; exact hl
  | cons x k ih =>
    intro l hl
    cases x with
    | lp c b =>
      cases b with
      | none => exact ih l hl
      | some b => exact List.mem_cons_of_mem _ (ih l hl)
    | _ => exact ih l hl

theorem LowAll.sub {lo lo' : List Nat} {H : Heap} (h : LowAll lo H) (hs : ∀ l ∈ lo', l ∈ lo) : LowAll lo' H := fun l hl => h l (hs l hl)

theorem levels_split {lo : List Nat} : ∀ (k : List It), ∀ l ∈ levelsOf lo k, l ∈ levelsOf [] k ∨ l ∈ lo := by
  intro k
  induction k with
  | nil => intro l hl; exact .inr hl
  | cons x k ih =>
    intro l hl
    cases x with
    | lp c b =>
      cases b with
      | none => exact ih l hl
      | some b =>
        rcases List.mem_cons.mp hl with h | h
        · exact .inl (by rw [h]; exact List.mem_cons_self ..)
        · exact (ih l h).imp (List.mem_cons_of_mem _) (fun x => x)
    | _ => exact ih l hl

theorem St.mono {nt : Nat} {H0 : Heap} {β0 : Beta} {F0 : Frz} {w0 : World} {todo todo' : List It} {lo : List Nat} {H : Heap} {β : Beta} {F : Frz} {w : World} {a : Act} (h : St P nt H0 β0 F0 w0 todo lo H β F w a)
    (h1 : ∀ l ∈ levelsOf lo todo', l ∈ levelsOf lo todo) (h2 : ∀ l ∈ levelsOf [] todo', l ∈ levelsOf [] todo) (h3 : Dec lo todo → Dec lo todo') : St P nt H0 β0 F0 w0 todo' lo H β F w a :=
  ⟨h.inv, h.ext, h.low.sub h1, fun b hb => h.bs b (h2 b hb), h.size, h.defers, h3 h.dec⟩

theorem Inv.cut {H : Heap} {β : Beta} {F : Frz} {w : World} (hI : Inv H β F w) {l : Nat} (hl : Low l H) : Inv (H.take l) (cutB l β) F w := by
  have cutS : ∀ {id : Nat} {x : Nat × Nat × Nat}, cutB l β id = some x → id < l ∧ β id = some x := by
    intro id x h
    unfold cutB at h
    split at h
    · rename_i hlt; exact ⟨hlt, h⟩
    · cases h
  refine ⟨fun id o ho => ?_, fun i j b s t s' t' hij hi hj => hI.inj i j b s t s' t' hij (cutS hi).2 (cutS hj).2, fun id hid => ?_, hI.fz, fun id b s t j h hj => hI.own id b s t j (cutS h).2 hj, hI.kn⟩
  · have hlt : id < l := by have := getElem?_lt ho; simp at this; omega
    rw [take_get hlt] at ho
    have h := hI.obj id o ho
    cases o with
    | box xs =>
      rcases h with ⟨h1, h2⟩ | ⟨b, c, e, h1, h2, h3, h4⟩
      · exact .inl ⟨h1, (cutB_lt hlt).trans h2⟩
      exact .inr ⟨b, c, e, (cutB_lt hlt).trans h1, h2, h3, fun i hi => ⟨(h4 i hi).1.cut (hl id _ hlt ho _ (List.getElem_mem hi)), (h4 i hi).2⟩⟩
    | row g sz xs =>
      rcases h with ⟨h1, h2⟩ | ⟨b, s, t, c, e, h1, h2, h3, h4, h5⟩
      · exact .inl ⟨h1, (cutB_lt hlt).trans h2⟩
      · exact .inr ⟨b, s, t, c, e, (cutB_lt hlt).trans h1, h2, h3, h4, h5⟩
    | map es c' =>
      obtain ⟨b, en, h1, h2, h3, h4⟩ := h
      refine ⟨b, en, (cutB_lt hlt).trans h1, h2, h3, fun i hi => ?_⟩
      obtain ⟨e, k1, k2, k3, k4⟩ := h4 i hi
      have := hl id _ hlt ho _ (List.getElem_mem hi)
      exact ⟨e, k1, k2.cut this.1, k3.cut this.2, k4⟩
    | iter m since seen last =>
      obtain ⟨h0, b, bm, s, t, es, c', h1, h2, h3, h4, h5⟩ := h
      have hm : m < l := Nat.lt_trans h0 hlt
      exact ⟨h0, b, bm, s, t, es, c', (cutB_lt hlt).trans h1, (take_get hm).trans h2, (cutB_lt hm).trans h3, h4, h5⟩
    | hole => exact (cutB_lt hlt).trans h
  · unfold cutB
    split
    · rename_i hlt
      refine hI.dom id ?_
      simp at hid
      omega
    · rfl

theorem Inv.low {H : Heap} {β : Beta} {F : Frz} {w : World} (hI : Inv H β F w) : Low H.length H := by
  intro id o hid ho
  have h := hI.obj id _ ho
  cases o with
  | box xs =>
    intro x hx
    rcases h with ⟨h1, _⟩ | ⟨b, c', e', _, _, _, h4⟩
    · rw [h1] at hx; cases hx
    obtain ⟨i, hi, rfl⟩ := List.getElem_of_mem hx
    exact (h4 i hi).1.closed
  | row => exact True.intro
  | map es c =>
    intro x hx
    obtain ⟨b, en, _, _, _, h4⟩ := h
    obtain ⟨i, hi, rfl⟩ := List.getElem_of_mem hx
    obtain ⟨e, _, k2, k3, _⟩ := h4 i hi
    exact ⟨k2.closed, k3.closed⟩
  | iter => exact True.intro
  | hole => exact True.intro

theorem Ext.cut {H0 H : Heap} {β0 β : Beta} {F0 F : Frz} {w0 w : World} (h : Ext H0 β0 F0 w0 H β F w) {l : Nat} (hl : H0.length ≤ l) : Ext H0 β0 F0 w0 (H.take l) (cutB l β) F w where
  os := h.os
  tape := h.tape
  output := h.output
  size := h.size
  drawn := h.drawn
  block := h.block
  fz := h.fz
  fn := h.fn
  own := fun id b s t e => by
    unfold cutB at e
    split at e
    · exact h.own id b s t e
    · cases e
  grow := fun id o ho => by
    have hlt : id < l := by have := getElem?_lt ho; omega
    obtain ⟨o', h1, h2⟩ := h.grow id o ho
    refine ⟨o', (take_get hlt).trans h1, ?_⟩
    cases o
    case hole => exact trivial
    all_goals cases o' <;> first | exact h2.elim | skip
    · exact fun e => ⟨(h2 e).1, (cutB_lt hlt).trans (h2 e).2⟩
    · exact ⟨h2.1, h2.2.1, fun e => ⟨(h2.2.2 e).1, (cutB_lt hlt).trans (h2.2.2 e).2⟩⟩
    · exact Eq.trans (cutB_lt hlt) h2
    · exact ⟨h2.1, (cutB_lt hlt).trans h2.2⟩

theorem LowAll.cut {lo : List Nat} {H : Heap} (h : LowAll lo H) {b : Nat} (hb : ∀ l ∈ lo, l ≤ b) : LowAll lo (H.take b) := by
  intro l hl
  obtain ⟨h1, h2⟩ := h l hl
  refine ⟨by rw [List.length_take]; exact Nat.le_min.mpr ⟨hb l hl, h1⟩, fun id xs hid ho => h2 id xs hid ?_⟩
  rwa [take_get (by have := hb l hl; omega)] at ho


theorem Dec.suffix {lo : List Nat} : ∀ (k k' : List It) (id : Nat), exitToA id k = some k' → Dec lo k → Dec lo k' := by
  intro k
  induction k with
  | nil => intro k' id h; cases h
  | cons x k ih =>
    intro k' id h hd
    cases x with
    | code c => exact ih k' id h hd
    | jn => exact ih k' id h hd
    | rf R => exact ih k' id h hd
    | lp c b =>
      cases b with
      | none => exact ih k' id h hd
      | some b => exact ih k' id h hd.2
    | blk id' =>
      simp only [exitToA] at h
      split at h
      · cases h; exact hd
      · exact ih k' id h hd

/-- The frame's end, as the goal is told it. -/
theorem holes_ok {H : Heap} {β : Beta} {F : Frz} {w : World} (hI : Inv H β F w) : ∀ n : Nat, Inv (H ++ List.replicate n .hole) β F w ∧ Ext H β F w (H ++ List.replicate n .hole) β F w := by
  intro n
  induction n with
  | zero => simpa using ⟨hI, Ext.refl H β F w⟩
  | succ n ih =>
    obtain ⟨h1, h2⟩ := ih
    have hb : β (H ++ List.replicate n AObj.hole).length = none := h1.dom _ (Nat.le_refl _)
    have hu : updB β (H ++ List.replicate n AObj.hole).length none = β := by rw [← hb]; exact updB_id _ _
    have := Inv.push (o' := .hole) (nb := none) h1 (w' := w) ⟨rfl, rfl, rfl, Nat.le_refl _, Nat.le_refl _, fun _ _ _ => rfl⟩ (fun b s t e => by cases e) (fun _ => updB_same _ _ _)
    rw [hu] at this
    rw [List.replicate_succ', ← List.append_assoc]
    exact ⟨this.1, h2.trans this.2⟩

theorem holesIn_ok {cfg : Cfg} {f : FuncId} {id : Nat} {H : Heap} {β : Beta} {F : Frz} {w : World} {lo : List Nat} (hI : Inv H β F w) (hlo : LowAll lo H) : Inv (holesIn cfg f id H) β F w ∧ Ext H β F w (holesIn cfg f id H) β F w ∧ LowAll lo (holesIn cfg f id H) := by
  unfold holesIn
  split
  · exact ⟨hI, Ext.refl _ _ _ _, hlo⟩
  · rename_i n _
    obtain ⟨h1, h2⟩ := holes_ok hI (n + 1)
    refine ⟨h1, h2, ?_⟩
    generalize n + 1 = k
    clear h1 h2
    induction k with
    | zero => simpa using hlo
    | succ k ih => rw [List.replicate_succ', ← List.append_assoc]; exact ih.push _

def Ends (P : Program) (cfg : Cfg) (f : FuncId) (lo lo' : List Nat) (H0 : Heap) (β0 : Beta) (F0 : Frz) (w0 : World) (r : List AV × Heap) : Prop :=
  ∀ (s' : Slots) H' β' F' w' a', finish P cfg f s' lo H' = some r → St P (ntOf P f) H0 β0 F0 w0 [] lo H' β' F' w' a' → RS H' β' F' w' a' s' → Fin P f lo' H0 β0 F0 w0 r a' w'

theorem ownVals_sound {H : Heap} {β : Beta} {F : Frz} {w : World} : ∀ (own : List (Nat × Nat)) (vs : List Value) (xs : List AV) (H : Heap) (β : Beta) (xs' : List AV) (H' : Heap), Inv H β F w → ownCells own xs H = some (xs', H') → RAs H β F w vs xs →
    ∃ β', RAs H' β' F w vs xs' ∧ Inv H' β' F w ∧ Ext H β F w H' β' F w := by
  intro own
  induction own with
  | nil => intro vs xs H β xs' H' hI h hr; cases h; exact ⟨β, hr, hI, Ext.refl _ _ _ _⟩
  | cons p own ih =>
    intro vs xs H β xs' H' hI h hr
    obtain ⟨j, sz⟩ := p
    simp only [ownCells] at h
    split at h
    · rename_i tg n ys hx
      obtain ⟨β1, r1, i1, e1⟩ := virt_new hI (sz := sz) (a := none)
      have hset : ∀ (j : Nat) (vs : List Value) (xs : List AV), RAs H β F w vs xs → xs[j]? = some (.p (.sl (some true) tg n ys)) → RAs (H ++ [.row 0 sz []]) β1 F w vs (xs.set j (.row H.length 0 0 0)) := by
        intro j
        induction j with
        | zero =>
          intro vs xs hr hx
          cases hr with
          | nil => cases hx
          | cons h h' =>
            simp at hx
            subst hx
            refine .cons ?_ (h'.mono fun v x h => h.ext hI e1)
            cases h with
            | p h =>
              cases h with
              | nil => exact r1
              | emp h1 => exact (h1 rfl).elim
              | sl c h1 => exact (h1 rfl).elim
        | succ j ihj =>
          intro vs xs hr hx
          cases hr with
          | nil => cases hx
          | cons h h' => exact .cons (h.ext hI e1) (ihj _ _ h' (by simpa using hx))
      obtain ⟨β2, r2, i2, e2⟩ := ih vs _ _ β1 xs' H' i1 h (hset j vs xs hr hx)
      exact ⟨β2, r2, i2, e1.trans e2⟩
    · cases h

theorem takes_ok {H : Heap} {β : Beta} {F : Frz} {H0 : Heap} {β0 : Beta} {F0 : Frz} {w0 : World} : ∀ (ms : List Nat) (w : World), Inv H β F w → Ext H0 β0 F0 w0 H β F w → Mk w0 ms β w →
    ∃ w1, Takes P (ms.map coll) w w1 ∧ Inv H β F w1 ∧ Ext H0 β0 F0 w0 H β F w1 ∧ (∀ v x, RA H β F w v x → RA H β F w1 v x) := by
  intro ms
  induction ms with
  | nil => intro w hI hE _; exact ⟨w, rfl, hI, hE, fun _ _ h => h⟩
  | cons D ms ih =>
    intro w hI hE hM
    obtain ⟨h1, h2, h3⟩ := hM.2 D (by simp)
    obtain ⟨i1, r1⟩ := hI.putObj (o' := .deferred none) h2 rfl h3
    have hnd := List.nodup_cons.mp hM.1
    obtain ⟨w1, k1, k2, k3, k4⟩ := ih (w.putObj D (.deferred none)) i1 (hE.putObj h1 _) ⟨hnd.2, fun E hE' => by
      obtain ⟨q1, q2, q3⟩ := hM.2 E (by simp [hE'])
      exact ⟨q1, (World.putObj_heap_other (show E ≠ D from fun e => hnd.1 (by rw [← e]; exact hE'))).trans q2, q3⟩⟩
    exact ⟨w1, ⟨D, _, rfl, run_takeDeferred h2, k1⟩, k2, k3, fun v x h => k4 v x (r1 v x h)⟩

/-- What is said of slices.Backward's function: it calls what it is handed for each place of the list, from the last one down, till it is told to stop. -/
def BackOk (P : Program) (gf : FuncId) (agg : Bool) (sz : Nat) : Prop :=
  (∃ fn, P.funcs[gf]? = some fn ∧ fn.body.isSome = true ∧ (fn.name == "runtime.NumGoroutine") = false) ∧
  ∃ ts te, sliceElem P ts = some te ∧ (P.underlying te).isSome = true ∧ isAggT P ts = false ∧ P.cellsOf ts = 1 ∧ isAggT P te = agg ∧ P.cellsOf te = sz ∧
  ∀ (l : Nat) (p : Value) (J : Int → World → Prop) (Jx : World → Prop) (W : World) (m : Int),
    (∀ i W1, J i W1 → J i { W1 with drawn := W1.drawn + 1 }) →
    (∀ i W1, J i W1 → 0 ≤ i → ∃ sl q v, (Instr.loadAt ts p).run P W1 = .ok sl W1 ∧ (Instr.indexAt ts sl (.int .i64 i)).run P W1 = .ok q W1 ∧ (Instr.loadAt te q).run P W1 = .ok v W1 ∧
      YieldAt (FR none) 0 P l #[.int .i64 i, v] W1 (fun e W' => (e = .returned (.bool true) ∧ J (IntKind.i64.wrap (i - 1)) W') ∨ (e = .returned (.bool false) ∧ Jx W'))) →
    (∃ sl, (Instr.loadAt ts p).run P W = .ok sl W ∧ ∀ ty, (Builtin.len_ #[ts] ty #[sl]).run P W = .ok (.int .i64 m) W) → J (IntKind.i64.wrap (m - 1)) W →
    CallsIn (FR none) 0 P gf (#[.func (.yield l) #[] #[]] ++ #[p]) W fun e W' => (∃ v, e = .returned v) ∧ ((∃ i, i < 0 ∧ J i W') ∨ Jx W')

def RngOk (P : Program) (cfg : Cfg) : Prop := ∀ f k gf agg sz, cfg.rng f k = some (gf, agg, sz) → BackOk P gf agg sz
theorem RngOk.none {cfg : Cfg} (h : ∀ f k, cfg.rng f k = Option.none) : RngOk P cfg := fun f k gf agg sz e => by rw [h f k] at e; cases e

/-! ### Rounds -/
def Kr (P : Program) (L : Nat) (Q : Exit → Act → World → Prop) : List It → Exit → Act → World → Prop
  | [], e, a, w => Q e a w
  | .code c :: k, .normal, a, w => c.wpIn (FR (some L)) 0 P (Kr P L Q k) a w
  | .code _ :: k, e, a, w => Kr P L Q k e a w
  | .blk id :: k, .exit id', a, w => if id' = id then Kr P L Q k .normal a w else Kr P L Q k (.exit id') a w
  | .blk _ :: k, e, a, w => Kr P L Q k e a w
  | .jn :: k, .normal, a, w => ∃ w2, (Instr.beginRound L).run P w = .ok () w2 ∧ Kr P L Q k .normal a w2
  | .jn :: _, _, _, _ => False
  | .lp _ _ :: k, e, a, w => Kr P L Q k e a w
  | .rf _ :: k, e, a, w => Kr P L Q k e a w

section rounds
variable {L : Nat} {Q : Exit → Act → World → Prop}

theorem Kr.ret {a : Act} {w : World} (h : Q .ret a w) : ∀ k, noJn k = true → Kr P L Q k .ret a w := by
  intro k
  induction k with
  | nil => intro _; exact h
  | cons x k ih =>
    intro hn
    cases x with
    | jn => cases hn
    | _ => exact ih hn

theorem Kr.exit {a : Act} {w : World} {id : Nat} : ∀ k k', noJn k = true → exitToA id k = some k' → Kr P L Q k' .normal a w → Kr P L Q k (.exit id) a w := by
  intro k
  induction k with
  | nil => intro k' _ h; cases h
  | cons x k ih =>
    intro k' hn h hk
    cases x with
    | jn => cases hn
    | code c => exact ih k' hn h hk
    | lp c b => exact ih k' hn h hk
    | rf R => exact ih k' hn h hk
    | blk id' =>
      simp only [exitToA] at h
      simp only [Kr]
      split at h
      · rename_i e
        rw [if_pos (Nat.eq_of_beq_eq_true e).symm]
        cases h
        exact hk
      · rename_i e
        rw [if_neg (fun e2 => e (by rw [e2]; exact Nat.beq_refl _))]
        exact ih k' hn h hk

theorem Kr.out {a : Act} {w : World} {id : Nat} : ∀ k, noJn k = true → exitToA id k = none → Q (.exit id) a w → Kr P L Q k (.exit id) a w := by
  intro k
  induction k with
  | nil => intro _ _ h; exact h
  | cons x k ih =>
    intro hn h hk
    cases x with
    | jn => cases hn
    | code c => exact ih hn h hk
    | lp c b => exact ih hn h hk
    | rf R => exact ih hn h hk
    | blk id' =>
      simp only [exitToA] at h
      simp only [Kr]
      split at h
      · cases h
      · rename_i e
        rw [if_neg (fun e2 => e (by rw [e2]; exact Nat.beq_refl _))]
        exact ih hn h hk

theorem noJn_exit {id : Nat} : ∀ k k', noJn k = true → exitToA id k = some k' → noJn k' = true := by
  intro k
  induction k with
  | nil => intro k' _ h; cases h
  | cons x k ih =>
    intro k' hn h
    cases x with
    | jn => cases hn
    | code c => exact ih k' hn h
    | lp c b => exact ih k' hn h
    | rf R => exact ih k' hn h
    | blk id' =>
      simp only [exitToA] at h
      split at h
      · cases h; exact hn
      · exact ih k' hn h

theorem then_kr {c : Code} {k : List It} : Exit.then (c.wpIn (FR (some L)) 0 P (Kr P L Q k)) (Kr P L Q k) = Kr P L Q (.code c :: k) := by
  funext e a w
  cases e <;> rfl

theorem inBlock_kr {id : Nat} {k : List It} : Exit.inBlock id (Kr P L Q k) = Kr P L Q (.blk id :: k) := by
  funext e a w
  cases e <;> rfl

/-- What stands around a round: the frame's heap, its slots, the list's variable, the marks, the record. -/
structure Bst (H0 : Heap) (β0 : Beta) (F0 : Frz) (w0 : World) (lv : List Nat) (a0 : Act) (keep : List Nat) (vals : List AV) (cv : Value) (q : AV) (L : Nat) (ms : List Nat) (H : Heap) (β : Beta) (F : Frz) (w : World) : Prop where
  inv : Inv H β F w
  ext : Ext H0 β0 F0 w0 H β F w
  low : LowAll lv H
  rl : RL H β F w a0 keep vals
  rq : RA H β F w cv q
  mks : Mk w0 ms β w
  l0 : w0.heap.size ≤ L
  ln : ∀ id s t, β id ≠ some (L, s, t)
  lm : L ∉ ms

variable {H0 : Heap} {β0 : Beta} {F0 : Frz} {w0 : World} {lv : List Nat} {a0 : Act} {keep : List Nat} {vals : List AV} {cv : Value} {q : AV} {ms : List Nat}

theorem RAs.mono' {H H' : Heap} {β β' : Beta} {F F' : Frz} {w w' : World} (hm : ∀ v x, RA H β F w v x → RA H' β' F' w' v x) {vs : List Value} {xs : List AV} (h : RAs H β F w vs xs) : RAs H' β' F' w' vs xs := by
  induction h with
  | nil => exact .nil
  | cons h _ ih => exact .cons (hm _ _ h) ih

theorem Bst.step {H H' : Heap} {β β' : Beta} {F F' : Frz} {w w' : World} (h : Bst H0 β0 F0 w0 lv a0 keep vals cv q L ms H β F w) {o : Obj} (ho : w.heap[L]? = some o) (hI : Inv H' β' F' w') (hE : Ext H β F w H' β' F' w') (hl : LowAll lv H') :
    Bst H0 β0 F0 w0 lv a0 keep vals cv q L ms H' β' F' w' ∧ w'.heap[L]? = some o :=
  ⟨⟨hI, h.ext.trans hE, hl, RAs.mono' (fun v x k => k.ext h.inv hE) h.rl, h.rq.ext h.inv hE, h.mks.ext hE, h.l0, fun id s t e => by
    rcases hE.own id L s t e with e1 | ⟨id', s', t', e1⟩
    · have := heap_lt ho; omega
    · exact h.ln _ _ _ e1, h.lm⟩, (hE.block L (heap_lt ho) h.ln).trans ho⟩

theorem Bst.put {H : Heap} {β : Beta} {F : Frz} {w : World} (h : Bst H0 β0 F0 w0 lv a0 keep vals cv q L ms H β F w) {o : Obj} (o' : Obj) (ho : w.heap[L]? = some o) (hc : o.isCells = false) :
    Bst H0 β0 F0 w0 lv a0 keep vals cv q L ms H β F (w.putObj L o') ∧ (w.putObj L o').heap[L]? = some o' ∧ (∀ v x, RA H β F w v x → RA H β F (w.putObj L o') v x) := by
  obtain ⟨i1, r1⟩ := h.inv.putObj (o' := o') ho hc h.ln
  refine ⟨⟨i1, h.ext.putObj h.l0 _, h.low, RAs.mono' r1 h.rl, r1 _ _ h.rq, ⟨h.mks.1, fun D hD => ?_⟩, h.l0, h.ln, h.lm⟩, World.putObj_heap_same (heap_lt ho), r1⟩
  obtain ⟨q1, q2, q3⟩ := h.mks.2 D hD
  exact ⟨q1, (World.putObj_heap_other (show D ≠ L from fun e => h.lm (by rw [← e]; exact hD))).trans q2, q3⟩

theorem Bst.draw {H : Heap} {β : Beta} {F : Frz} {w : World} (h : Bst H0 β0 F0 w0 lv a0 keep vals cv q L ms H β F w) {o : Obj} (ho : w.heap[L]? = some o) :
    Bst H0 β0 F0 w0 lv a0 keep vals cv q L ms H β F { w with drawn := w.drawn + 1 } ∧ ({ w with drawn := w.drawn + 1 } : World).heap[L]? = some o := by
  obtain ⟨i1, i2⟩ := h.inv.same (w' := { w with drawn := w.drawn + 1 }) ⟨rfl, rfl, rfl, Nat.le_refl _, Nat.le_succ _, fun _ _ _ => rfl⟩
  exact h.step ho i1 i2 h.low

theorem Bst.cut {H : Heap} {β : Beta} {F : Frz} {w : World} (h : Bst H0 β0 F0 w0 lv a0 keep vals cv q L ms H β F w) {b : Nat} (hb : b ∈ lv) (hle : ∀ l ∈ lv, l ≤ b) (h0 : H0.length ≤ b) (hall : ((q :: vals).all fun x => AV.ltd b x) = true) :
    Bst H0 β0 F0 w0 lv a0 keep vals cv q L ms (H.take b) (cutB b β) F w := by
  rw [List.all_cons, Bool.and_eq_true] at hall
  refine ⟨h.inv.cut (h.low b hb).2, h.ext.cut h0, h.low.cut hle, ?_, h.rq.cut (lt_sound b 6 _ hall.1), h.mks.cut b, h.l0, fun id s t e => ?_, h.lm⟩
  · have h1 := h.rl
    unfold RL at h1 ⊢
    have h2 := hall.2
    clear hall h
    generalize keep.map (fun k => a0.tmps.getD k undef) = vs at h1 ⊢
    induction h1 with
    | nil => exact .nil
    | cons h _ ih =>
      rw [List.all_cons, Bool.and_eq_true] at h2
      exact .cons (h.cut (lt_sound b 6 _ h2.1)) (ih h2.2)
  · unfold cutB at e
    split at e
    · exact h.ln _ _ _ e
    · cases e

/-- A round's text. -/
theorem arnd_sound {cfg : Cfg} {O : Oracle} (hO : EntOk P O) {f : FuncId} {r : List AV × Heap} {N : Nat} {d : Rnd} {rc : LoopState → Loop} (hrs : ∀ s, (rc s).state = s) (hrb : ({ rc .ready with state := .busy } : Loop) = rc .busy)
    (hq1 : ∀ a H β F w, rndOn O f d H = some r → Bst H0 β0 F0 w0 (rndLv d.R d.lo d.k) a0 keep vals cv q L ms H β F w → w.heap[L]? = some (.loop (rc .busy)) → Q .normal a w)
    (hq2 : ∀ a H β F w, finish P cfg f (mkS d.keep d.vals) d.lo H = some r → Bst H0 β0 F0 w0 (rndLv d.R d.lo d.k) a0 keep vals cv q L ms H β F w → w.heap[L]? = some (.loop (rc .busy)) → Q .ret a w)
    (hq3 : ∀ a H β F w id k', exitToA id d.k = some k' → arun P cfg O f d.lo N k' (mkS d.keep d.vals) H = some r → Bst H0 β0 F0 w0 (rndLv d.R d.lo d.k) a0 keep vals cv q L ms H β F w → w.heap[L]? = some (.loop (rc .busy)) → Q (.exit id) a w) :
    ∀ (n : Nat) (todo : List It) (s : Slots) (H : Heap) (β : Beta) (F : Frz) (w : World) (a : Act), arnd P cfg O f N d n todo s H = some r → Bst H0 β0 F0 w0 (rndLv d.R d.lo d.k) a0 keep vals cv q L ms H β F w →
      w.heap[L]? = some (.loop (rc (if noJn todo = true then .busy else .ready))) → a.tmps.size = ntOf P f → RS H β F w a s → Kr P L Q todo .normal a w := by
  intro n
  induction n with
  | zero => intro todo s H β F w a h; cases h
  | succ n ih =>
    intro todo s H β F w a h hb hl hsz hs
    cases todo with
    | nil => exact hq1 a H β F w h hb hl
    | cons x k =>
      cases x with
      | blk id => exact ih k s H β F w a h hb hl hsz hs
      | jn =>
        have hl : w.heap[L]? = some (.loop (rc .ready)) := hl
        refine ⟨_, run_beginRound hl (hrs _), ?_⟩
        rw [hrb]
        obtain ⟨b1, b2, b3⟩ := hb.put (.loop (rc .busy)) hl rfl
        simp only [arnd] at h
        split at h
        · rename_i hj
          exact ih k s H β F _ a h b1 (by rw [if_pos hj]; exact b2) hsz (fun i => b3 _ _ (hs i))
        · cases h
      | lp c b => cases h
      | rf R => cases h
      | code c =>
        have hl' : w.heap[L]? = some (.loop (rc (if noJn k = true then .busy else .ready))) := hl
        simp only [Kr]
        cases c with
        | skip => exact wpIn_skip (ih k s H β F w a h hb hl' hsz hs)
        | seq x y =>
          refine wpIn_seq ?_
          rw [then_kr]
          exact ih (.code x :: .code y :: k) s H β F w a h hb hl hsz hs
        | region id ops draw =>
          simp only [arnd] at h
          split at h
          · rename_i hc
            rw [Bool.and_eq_true] at hc
            have step : ∀ s' H' a' w' β' F', arnd P cfg O f N d n k s' H' = some r → Inv H' β' F' w' → Ext H β F w H' β' F' w' → RS H' β' F' w' a' s' → LowAll (rndLv d.R d.lo d.k) H' → a'.tmps.size = a.tmps.size → a'.defers = a.defers → Kr P L Q k .normal a' w' := by
              intro s' H' a' w' β' F' q1 q2 q3 q4 q5 q6 q7
              obtain ⟨c1, c2⟩ := hb.step hl' q2 q3 q5
              exact ih k s' H' β' F' w' a' q1 c1 c2 (by rw [q6]; exact hsz) q4
            cases draw with
            | false => exact region_sound (Q := Kr P L Q k) hO (by rw [hsz]; exact hc.1) h hb.inv hs hb.low step
            | true =>
              obtain ⟨k1, k2, k3⟩ := holesIn_ok (cfg := cfg) (f := f) (id := id) hb.inv hb.low
              exact regionDraw_sound (Q := Kr P L Q k) hO (by rw [hsz]; exact hc.1) (by simpa using hc.2) h k1 (hs.ext hb.inv k2) k3
                (fun s' H' a' w' β' F' q1 q2 q3 => step s' H' a' w' β' F' q1 q2 (k2.trans q3))
          · cases h
        | cond x y z =>
          simp only [arnd, cond] at h
          have hx := ev_sound (x := x) hs
          split at h
          · rename_i ht
            rw [truth_inv ht] at hx
            exact wpIn_cond_true hx.v_inv.1 (ih (.code y :: k) s H β F w a h hb hl hsz hs)
          · rename_i ht
            rw [truth_inv ht] at hx
            exact wpIn_cond_false hx.v_inv.1 (ih (.code z :: k) s H β F w a h hb hl hsz hs)
          · cases h
        | block id c =>
          refine wpIn_block ?_
          rw [inBlock_kr]
          exact ih (.code c :: .blk id :: k) s H β F w a h hb hl hsz hs
        | exit id =>
          simp only [arnd] at h
          split at h
          · rename_i hj
            rw [if_pos hj] at hl'
            refine wpIn_exit ?_
            split at h
            · rename_i k' hk'
              exact Kr.exit k k' hj hk' (ih k' s H β F w a h hb (by rw [if_pos (noJn_exit k k' hj hk')]; exact hl') hsz hs)
            · rename_i hk'
              split at h
              · rename_i k2 hk2
                exact Kr.out k hj hk' (hq3 a H β F w id k2 hk2 h hb hl')
              · cases h
          · cases h
        | ret =>
          simp only [arnd] at h
          split at h
          · rename_i hj
            rw [if_pos hj] at hl'
            exact wpIn_ret (Kr.ret (hq2 a H β F w h hb hl') k hj)
          · cases h
        | _ => cases h
end rounds

/-- What is asked of a range over a function. -/
def RngWp (P : Program) (cfg : Cfg) (O : Oracle) (f : FuncId) (lo lo' : List Nat) (H0 : Heap) (β0 : Beta) (F0 : Frz) (w0 : World) (r : List AV × Heap) : Prop :=
  ∀ (n : Nat) (k : List It) (g : Operand) (ps : Array Tmp) (x y : Code) (s : Slots) (H : Heap) (β : Beta) (F : Frz) (w : World) (a : Act), arun P cfg O f lo n (.code (.rangeFunc g ps x y) :: k) s H = some r →
    St P (ntOf P f) H0 β0 F0 w0 (.code (.rangeFunc g ps x y) :: k) lo H β F w a → RS H β F w a s → (Code.rangeFunc g ps x y).wpIn (FR none) 0 P (Kwp P (Fin P f lo' H0 β0 F0 w0 r) k) a w

theorem arun_sound {cfg : Cfg} {O : Oracle} (hO : EntOk P O) (hL : LabOk P cfg O) {f : FuncId} {lo lo' : List Nat} {r : List AV × Heap} {H0 : Heap} {β0 : Beta} {F0 : Frz} {w0 : World} (hend : Ends P cfg f lo lo' H0 β0 F0 w0 r) (hR : RngWp P cfg O f lo lo' H0 β0 F0 w0 r) :
    ∀ (n : Nat) (todo : List It) (s : Slots) (H : Heap) (β : Beta) (F : Frz) (w : World) (a : Act), arun P cfg O f lo n todo s H = some r → St P (ntOf P f) H0 β0 F0 w0 todo lo H β F w a → RS H β F w a s →
      Kwp P (Fin P f lo' H0 β0 F0 w0 r) todo .normal a w := by
  intro n
  induction n with
  | zero => intro todo s H β F w a h; cases h
  | succ n ih =>
    intro todo s H β F w a h hst hs
    cases todo with
    | nil => exact hend s H β F w a h hst hs
    | cons x k =>
      cases x with
      | blk id => exact ih k s H β F w a h (hst.mono (fun _ h => h) (fun _ h => h) (fun h => h)) hs
      | jn =>
        simp only [arun] at h
        split at h
        · rename_i c k'
          split at h
          · rename_i l hl
            exact hL _ _ _ _ _ _ _ h H0 β0 F0 w0 β F w a (hst.mono (fun _ h => h) (fun _ h => h) (fun h => h)) (hs.keep _) lo' hend
          · cases h
        · cases h
      | lp c b =>
        simp only [arun, loopOn] at h
        split at h
        · cases h
        · rename_i l hl
          cases b with
          | none => exact hL _ _ _ _ _ _ _ h H0 β0 F0 w0 β F w a hst (hs.keep _) lo' hend
          | some b =>
            simp only at h
            split at h
            · rename_i hall
              have hlow := (hst.low b (by exact List.mem_cons_self ..))
              have hb0 : H0.length ≤ b := hst.bs b (by exact List.mem_cons_self ..)
              refine hL _ _ _ _ _ _ _ h H0 β0 F0 w0 (cutB b β) F w a ⟨hst.inv.cut hlow.2, hst.ext.cut hb0, ?_, hst.bs, hst.size, (hst.defers.imp fun ms h => ⟨h.1, h.2.cut b⟩), hst.dec⟩ ?_ lo' hend
              · refine hst.low.cut fun l' hl' => ?_
                rcases List.mem_cons.mp hl' with e | e
                · omega
                · exact hst.dec.1 l' e
              · unfold RL
                have hk := hs.keep l.keep
                unfold RL at hk
                rw [List.all_eq_true] at hall
                clear h hst
                have : ∀ (ks : List Nat), (∀ t ∈ ks, AV.ltd b (s t) = true) → RAs H β F w (ks.map fun k => a.tmps.getD k undef) (ks.map s) → RAs (H.take b) (cutB b β) F w (ks.map fun k => a.tmps.getD k undef) (ks.map s) := by
                  intro ks
                  induction ks with
                  | nil => intro _ _; exact .nil
                  | cons t ks ihk =>
                    intro hall hr
                    cases hr with
                    | cons h h' => exact .cons (h.cut (lt_sound b 6 _ (hall t (by simp)))) (ihk (fun t ht => hall t (by simp [ht])) h')
                exact this l.keep hall hk
            · cases h
      | rf R => cases h
      | code c =>
        have hst' : St P (ntOf P f) H0 β0 F0 w0 k lo H β F w a := hst.mono (fun _ h => h) (fun _ h => h) (fun h => h)
        simp only [Kwp]
        cases c with
        | skip => exact wpIn_skip (ih k s H β F w a h hst' hs)
        | seq x y =>
          refine wpIn_seq ?_
          rw [then_kwp]
          simp only [arun] at h
          split at h
          · have := ih (.code x :: .jn :: .code y :: k) s H β F w a h (hst.mono (fun _ h => h) (fun _ h => h) (fun h => h)) hs
            have e : Kwp P (Fin P f lo' H0 β0 F0 w0 r) (.jn :: .code y :: k) = Kwp P (Fin P f lo' H0 β0 F0 w0 r) (.code y :: k) := by funext e a w; cases e <;> rfl
            have e2 : Kwp P (Fin P f lo' H0 β0 F0 w0 r) (.code x :: .jn :: .code y :: k) .normal a w = x.wpIn (FR none) 0 P (Kwp P (Fin P f lo' H0 β0 F0 w0 r) (.jn :: .code y :: k)) a w := rfl
            rw [e2, e] at this
            exact this
          · exact ih (.code x :: .code y :: k) s H β F w a h (hst.mono (fun _ h => h) (fun _ h => h) (fun h => h)) hs
        | region id ops draw =>
          simp only [arun] at h
          split at h
          · rename_i hc
            rw [Bool.and_eq_true] at hc
            have step : ∀ s' H' a' w' β' F', arun P cfg O f lo n k s' H' = some r → Inv H' β' F' w' → Ext H β F w H' β' F' w' → RS H' β' F' w' a' s' → LowAll (levelsOf lo k) H' → a'.tmps.size = a.tmps.size → a'.defers = a.defers → Kwp P (Fin P f lo' H0 β0 F0 w0 r) k .normal a' w' := by
              intro s' H' a' w' β' F' q1 q2 q3 q4 q5 q6 q7
              exact ih k s' H' β' F' w' a' q1 ⟨q2, hst.ext.trans q3, q5, hst'.bs, by rw [q6]; exact hst.size, (hst.defers.imp fun ms h => ⟨by rw [q7]; exact h.1, h.2.ext q3⟩), hst'.dec⟩ q4
            cases draw with
            | false => exact region_sound (Q := Kwp P (Fin P f lo' H0 β0 F0 w0 r) k) hO (by rw [hst.size]; exact hc.1) h hst.inv hs hst'.low step
            | true =>
              obtain ⟨k1, k2, k3⟩ := holesIn_ok (cfg := cfg) (f := f) (id := id) hst.inv hst'.low
              exact regionDraw_sound (Q := Kwp P (Fin P f lo' H0 β0 F0 w0 r) k) hO (by rw [hst.size]; exact hc.1) (by simpa using hc.2) h k1 (hs.ext hst.inv k2) k3
                (fun s' H' a' w' β' F' q1 q2 q3 => step s' H' a' w' β' F' q1 q2 (k2.trans q3))
          · cases h
        | cond x y z =>
          simp only [arun, cond] at h
          have hx := ev_sound (x := x) hs
          split at h
          · rename_i ht
            rw [truth_inv ht] at hx
            exact wpIn_cond_true hx.v_inv.1 (ih (.code y :: k) s H β F w a h (hst.mono (fun _ h => h) (fun _ h => h) (fun h => h)) hs)
          · rename_i ht
            rw [truth_inv ht] at hx
            exact wpIn_cond_false hx.v_inv.1 (ih (.code z :: k) s H β F w a h (hst.mono (fun _ h => h) (fun _ h => h) (fun h => h)) hs)
          · cases h
        | block id c =>
          refine wpIn_block ?_
          rw [inBlock_kwp]
          exact ih (.code c :: .blk id :: k) s H β F w a h (hst.mono (fun _ h => h) (fun _ h => h) (fun h => h)) hs
        | loop c =>
          refine wp_of_loopWp ?_
          simp only [arun, loopIn] at h
          split at h
          · cases h
          · rename_i l hl
            have mk : ∀ (H1 : Heap) (β1 : Beta) (vals : List AV), O.lab f l.keep (.lp c (if l.trunc then some H1.length else none) :: k) vals lo H1 = some r → Inv H1 β1 F w → Ext H0 β0 F0 w0 H1 β1 F w → LowAll (levelsOf lo k) H1 → RL H1 β1 F w a l.keep vals → (∃ ms : List Nat, a.defers = ms.map coll ∧ Mk w0 ms β1 w) →
                LoopWp P none c (Kwp P (Fin P f lo' H0 β0 F0 w0 r) k) a w := by
              intro H1 β1 vals hlab hI1 hE1 hlow1 hrl hms
              cases htr : l.trunc with
              | false =>
                rw [htr] at hlab
                exact hL _ _ _ _ _ _ _ hlab H0 β0 F0 w0 β1 F w a ⟨hI1, hE1, hlow1, hst'.bs, hst.size, hms, hst'.dec⟩ hrl lo' hend
              | true =>
                rw [htr] at hlab
                have hle : H0.length ≤ H1.length := by
                  rcases Nat.lt_or_ge H1.length H0.length with h' | h'
                  · obtain ⟨o', h1, _⟩ := hE1.grow H1.length _ (List.getElem?_eq_getElem h')
                    have := getElem?_lt h1
                    omega
                  · exact h'
                refine hL _ _ _ _ _ _ _ hlab H0 β0 F0 w0 β1 F w a ⟨hI1, hE1, ?_, ?_, hst.size, hms, fun l' hl' => (hlow1 l' hl').1, hst'.dec⟩ hrl lo' hend
                · intro l' hl'
                  rcases List.mem_cons.mp hl' with e | e
                  · subst e
                    exact ⟨Nat.le_refl _, hI1.low⟩
                  · exact hlow1 l' e
                · intro b hb
                  rcases List.mem_cons.mp hb with e | e
                  · omega
                  · exact hst'.bs b e
            split at h
            · exact mk H β _ h hst.inv hst.ext hst'.low (hs.keep _) hst.defers
            · rw [Option.bind_eq_some_iff] at h
              obtain ⟨⟨vals, H1⟩, h1, h⟩ := h
              obtain ⟨β1, r1, i1, e1⟩ := ownVals_sound (H := H) (β := β) _ _ _ H β vals H1 hst.inv h1 (hs.keep l.keep)
              exact mk H1 β1 vals h i1 (hst.ext.trans e1) (ownCells_low _ _ _ _ _ hst'.low h1) r1 (hst.defers.imp fun ms h => ⟨h.1, h.2.ext e1⟩)
        | exit id =>
          simp only [arun] at h
          split at h
          · rename_i k' hk'
            refine wpIn_exit (Kwp.exit k k' hk' ?_)
            exact ih k' s H β F w a h (hst'.mono (levels_suffix k k' id hk') (levels_suffix k k' id hk') (Dec.suffix k k' id hk')) hs
          · cases h
        | ret =>
          refine wpIn_ret (Kwp.ret ?_ k)
          exact hend s H β F w a h (hst'.mono (levels_end k) (fun l hl => by cases hl) (fun _ => trivial)) hs
        | rangeFunc g ps x y => exact hR (n + 1) k g ps x y s H β F w a h hst hs
        | _ => cases h

end
end Go.AM
