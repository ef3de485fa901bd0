/-
append, copy, make, literals, new variables.
-/
import Derived.Test.YtfdnamedmjhcfaaDoorAm6
set_option linter.unusedVariables false
set_option linter.unusedSimpArgs false
set_option linter.unnecessarySimpa false
set_option linter.unusedSectionVars false
namespace Go.AM
variable [Know]
section
variable {P : Program} {H : Heap} {β : Beta} {F : Frz} {w : World}

theorem run_typeInfo {t : TypeId} {i : TypeInfo} (h : P.info? t = some i) : (typeInfo t).run P w = .ok i w := by
  unfold typeInfo
  simp [h]

theorem run_zeroValue {t : TypeId} {i : TypeInfo} {z : Value} (h : P.info? t = some i) (hz : i.zero = some z) : (zeroValue t).run P w = .ok z w := by
  unfold zeroValue
  simp [run_typeInfo h, hz]

/-- What an append comes to, where there is room: it is stored in place. -/
theorem append_room {t0 t1 e ty : TypeId} {d1 d : TypeDesc} (h0 : P.underlying t0 = some (.slice e)) (hd : P.underlying e = some d) (h1 : P.underlying t1 = some d1) (hd1 : (∃ e', d1 = .slice e') ∨ d1 = .string)
    {base : Option Addr} {sLen sCap n : Nat} {x : Value} {new : List Value} (hlen : (Builtin.lenOf x).run P w = .ok n w) (hnew : (Builtin.firstCells (P.cellsOf e) n x).run P w = .ok new.toArray w) (hle : sLen + n ≤ sCap) :
    (Builtin.append_ #[t0, t1] ty #[.slice base sLen sCap, x]).run P w =
      ((match base with | some a => (storeCells (a.add (sLen * P.cellsOf e)) new).run P w | none => .ok () w) : Result Unit).andThen fun _ w' => .ok (.slice base (sLen + n) sCap) w' := by
  rcases hd1 with ⟨e', rfl⟩ | rfl <;> cases base <;> simp [Builtin.append_, run_underlying h0, run_underlying h1, run_sizeOf hd, hlen, hnew, hle]

theorem grownCap_le (w : World) (need old : Nat) (e : TypeId) (h : need < 9223372036854775808) : grownCap w need old e ≤ 9223372036854775807 := by
  unfold grownCap Question.cut
  simp only
  have := Nat.mod_lt (w.tape w.drawn (.appendCap need old e)) (show 0 < 2 ^ 63 - need by omega)
  omega

/-- What an append comes to, where there is none: a new row. -/
theorem append_grow {t0 t1 e ty : TypeId} {d1 d : TypeDesc} {i : TypeInfo} {z : Value} (h0 : P.underlying t0 = some (.slice e)) (hd : P.underlying e = some d) (hi : P.info? e = some i) (hz : i.zero = some z)
    (h1 : P.underlying t1 = some d1) (hd1 : (∃ e', d1 = .slice e') ∨ d1 = .string)
    {base : Option Addr} {sLen sCap n : Nat} {x : Value} {new old : List Value} (hlen : (Builtin.lenOf x).run P w = .ok n w) (hnew : (Builtin.firstCells (P.cellsOf e) n x).run P w.drew = .ok new.toArray w.drew)
    (hold : (Builtin.firstCells (P.cellsOf e) sLen (.slice base sLen sCap)).run P w.drew = .ok old.toArray w.drew) (hb : i.bytes ≠ 0) (hroom : (sLen + n) * i.bytes ≤ 140737488355328) (hle : ¬ sLen + n ≤ sCap) :
    ∃ newCap, (sLen + n ≤ newCap ∧ newCap ≤ 9223372036854775807) ∧ (Builtin.append_ #[t0, t1] ty #[.slice base sLen sCap, x]).run P w =
      .ok (.slice (some ⟨w.heap.size, 0, none⟩) (sLen + n) newCap) (w.drew.alloc (.cells (old.toArray ++ (new.toArray ++ Builtin.zeroCells z.cells (newCap - (sLen + n)))) e)) := by
  have h48 : ¬ (281474976710656 < Builtin.nextslicecap (sLen + n) sCap * i.bytes) := by
    have := growslice_fits (need := sLen + n) (old := sCap) (bytes := i.bytes) (by omega) hroom
    omega
  have hnd : sLen + n < 9223372036854775808 := by
    have : (sLen + n) * 1 ≤ (sLen + n) * i.bytes := Nat.mul_le_mul_left _ (by omega)
    omega
  refine ⟨grownCap w (sLen + n) sCap e, ⟨grownCap_ge w _ _ _, grownCap_le w _ _ _ hnd⟩, ?_⟩
  rcases hd1 with ⟨e', rfl⟩ | rfl <;>
    simp [Builtin.append_, run_underlying h0, run_underlying h1, run_sizeOf hd, run_typeInfo hi, run_zeroValue hi hz, hlen, hnew, hold, hle, hb, h48, Question.forced, newRow, grownCap, -List.append_toArray]


theorem elemOk_inv {e : TypeId} (h : elemOk P e = true) : ∃ d i z, P.underlying e = some d ∧ P.info? e = some i ∧ i.zero = some z ∧ z.cells.size = P.cellsOf e ∧ (∀ v ∈ z.cells.toList, leafyV v = true) ∧ P.bytesOf e = i.bytes ∧ i.bytes ≠ 0 := by
  unfold elemOk at h
  rw [Bool.and_eq_true] at h
  obtain ⟨h1, h2⟩ := h
  obtain ⟨d, hd⟩ := Option.isSome_iff_exists.mp h1
  cases hi : P.info? e with
  | none => rw [hi] at h2; cases h2
  | some i =>
    rw [hi] at h2
    cases hz : i.zero with
    | none => simp only [hz] at h2; cases h2
    | some z =>
      simp only [hz, Bool.and_eq_true, decide_eq_true_eq] at h2
      exact ⟨d, i, z, hd, rfl, hz, by simp [Program.cellsOf, hi, h2.1.1], List.all_eq_true.mp h2.1.2, by simp [Program.bytesOf, hi], h2.2⟩

/-- What is appended: so many elements, these cells. -/
structure AppSrc (P : Program) (w : World) (t0 t1 e ty : TypeId) (x : Value) (n : Nat) (new : List Value) : Prop where
  room : ∀ (base : Option Addr) (sLen sCap : Nat), sLen + n ≤ sCap → (Builtin.append_ #[t0, t1] ty #[.slice base sLen sCap, x]).run P w =
      ((match base with | some a => (storeCells (a.add (sLen * P.cellsOf e)) new).run P w | none => .ok () w) : Result Unit).andThen fun _ w' => .ok (.slice base (sLen + n) sCap) w'
  grow : ∀ (i : TypeInfo) (z : Value) (base : Option Addr) (sLen sCap : Nat) (old : List Value), P.info? e = some i → i.zero = some z →
    (Builtin.firstCells (P.cellsOf e) sLen (.slice base sLen sCap)).run P w.drew = .ok old.toArray w.drew → i.bytes ≠ 0 → (sLen + n) * i.bytes ≤ 140737488355328 → ¬ sLen + n ≤ sCap →
    ∃ newCap, (sLen + n ≤ newCap ∧ newCap ≤ 9223372036854775807) ∧ (Builtin.append_ #[t0, t1] ty #[.slice base sLen sCap, x]).run P w =
      .ok (.slice (some ⟨w.heap.size, 0, none⟩) (sLen + n) newCap) (w.drew.alloc (.cells (old.toArray ++ (new.toArray ++ Builtin.zeroCells z.cells (newCap - (sLen + n)))) e))

theorem AppSrc.cells {t0 t1 e ty : TypeId} {d1 d : TypeDesc} (h0 : P.underlying t0 = some (.slice e)) (hd : P.underlying e = some d) (h1 : P.underlying t1 = some d1) (hd1 : (∃ e', d1 = .slice e') ∨ d1 = .string)
    {n : Nat} {x : Value} {new : List Value} (hlen : (Builtin.lenOf x).run P w = .ok n w)
    (hf : (Builtin.firstCells (P.cellsOf e) n x).run P w = .ok new.toArray w ∧ (Builtin.firstCells (P.cellsOf e) n x).run P w.drew = .ok new.toArray w.drew) : AppSrc P w t0 t1 e ty x n new where
  room := fun base sLen sCap hle => append_room h0 hd h1 hd1 hlen hf.1 hle
  grow := fun i z base sLen sCap old hi hz hold hb hr hle => append_grow h0 hd hi hz h1 hd1 hlen hf.2 hold hb hr hle

/-- Zeros, so many. -/
theorem AppSrc.zeros {t0 t1 e ty : TypeId} {d : TypeDesc} {k1 k2 : IntKind} {i : TypeInfo} {z : Value} (h0 : P.underlying t0 = some (.slice e)) (hd : P.underlying e = some d) (h1 : P.underlying t1 = some (.int k1))
    (hi : P.info? e = some i) (hz : i.zero = some z) (hzs : z.cells.size = P.cellsOf e) (hb0 : i.bytes ≠ 0) {n : Nat} (hn : n * i.bytes ≤ 140737488355328) :
    AppSrc P w t0 t1 e ty (.int k2 n) n (Builtin.zeroCells z.cells n).toList where
  room := fun base sLen sCap hle => by
    have hn' : n ≤ 140737488355328 := by
      have : n * 1 ≤ n * i.bytes := Nat.mul_le_mul_left _ (by omega)
      omega
    have wk : IntKind.i64.wrap (n : Int) = n := by simp [IntKind.wrap, IntKind.bits, IntKind.signed]; omega
    have tk : ¬ ((n : Int) < 0) := by omega
    have tb : ¬ (281474976710656 < (n : Int) * (i.bytes : Int)) := by
      have : ((n * i.bytes : Nat) : Int) = (n : Int) * (i.bytes : Int) := by simp
      omega
    by_cases hz0 : n * P.cellsOf e = 0
    · have hnil : (Builtin.zeroCells z.cells n) = #[] := by
        simp [Builtin.zeroCells, hzs, hz0]
      rw [hnil]
      cases base <;> simp [Builtin.append_, asInt, asIntOf, run_underlying h0, run_underlying h1, run_sizeOf hd, run_typeInfo hi, wk, tk, tb, hle, hz0]
    · cases base <;> simp [Builtin.append_, asInt, asIntOf, run_underlying h0, run_underlying h1, run_sizeOf hd, run_typeInfo hi, run_zeroValue hi hz, wk, tk, tb, hle, hz0]
  grow := fun i' z' base sLen sCap old hi' hz' hold hb hr hle => by
    rw [hi] at hi'
    cases hi'
    rw [hz] at hz'
    cases hz'
    have hn' : n ≤ 140737488355328 := by
      have : n * 1 ≤ n * i.bytes := Nat.mul_le_mul_left _ (by omega)
      omega
    have hs' : sLen + n ≤ 140737488355328 := by
      have : (sLen + n) * 1 ≤ (sLen + n) * i.bytes := Nat.mul_le_mul_left _ (by omega)
      omega
    have wk : IntKind.i64.wrap (n : Int) = n := by simp [IntKind.wrap, IntKind.bits, IntKind.signed]; omega
    have tk : ¬ ((n : Int) < 0) := by omega
    have tb : ¬ (281474976710656 < (n : Int) * (i.bytes : Int)) := by
      have : ((n * i.bytes : Nat) : Int) = (n : Int) * (i.bytes : Int) := by simp
      omega
    have tm : ¬ (IntKind.i64.max < ((sLen + n : Nat) : Int)) := by
      have : IntKind.i64.max = 9223372036854775807 := rfl
      omega
    have h48 : ¬ (281474976710656 < Builtin.nextslicecap (sLen + n) sCap * i.bytes) := by
      have := growslice_fits (need := sLen + n) (old := sCap) (bytes := i.bytes) (by omega) hr
      omega
    refine ⟨grownCap w (sLen + n) sCap e, ⟨grownCap_ge w _ _ _, grownCap_le w _ _ _ (by omega)⟩, ?_⟩
    have tm' : ¬ ((9223372036854775807 : Int) < (sLen : Int) + (n : Int)) := by omega
    by_cases hz0 : n * P.cellsOf e = 0
    · have hnil : (Builtin.zeroCells z.cells n) = #[] := by
        simp [Builtin.zeroCells, hzs, hz0]
      rw [hnil]
      simp [Builtin.append_, asInt, asIntOf, run_underlying h0, run_underlying h1, run_sizeOf hd, run_typeInfo hi, run_zeroValue hi hz, wk, tk, tb, tm', hold, hle, hb, h48, hz0, Question.forced, newRow, grownCap, -List.append_toArray]
    · simp [Builtin.append_, asInt, asIntOf, run_underlying h0, run_underlying h1, run_sizeOf hd, run_typeInfo hi, run_zeroValue hi hz, wk, tk, tb, tm', hold, hle, hb, h48, hz0, Question.forced, newRow, grownCap, -List.append_toArray]

/-- What a slice or a string holds, as append and copy take it. -/
theorem cellsA_sound (hI : Inv H β F w) {sz k : Nat} {new : List PV} {y : AV} {v : Value} (h : cellsA sz y H = some (k, new)) (hy : RA H β F w v y) :
    new.length = k * sz ∧ (Builtin.lenOf v).run P w = .ok k w ∧ ∃ vs : List Value, RPs F w vs new ∧ ∀ m, m ≤ k → (Builtin.firstCells sz m v).run P w = .ok (vs.take (m * sz)).toArray w ∧ (Builtin.firstCells sz m v).run P w.drew = .ok (vs.take (m * sz)).toArray w.drew := by
  have mk : ∀ (n : Nat) (xs : List PV) (c : Nat → Value), (∀ i (hi : i < xs.length), RP F w (c i) xs[i]) → RPs F w ((List.range xs.length).map c) xs := by
    intro n xs
    induction xs with
    | nil => intro c _; exact .nil
    | cons x xs ih =>
      intro c hc
      rw [List.length_cons, List.range_succ_eq_map, List.map_cons, List.map_map]
      exact .cons (hc 0 (by simp)) (ih _ fun i hi => hc (i + 1) (by simpa using hi))
  have rd : ∀ (b s n cap : Nat) (xs : List PV) (c : Nat → Value), xs.length = n * sz → (∀ i, i < xs.length → w.cell? ⟨b, s + i, none⟩ = some (c i)) → ∀ m, m ≤ n →
      (Builtin.firstCells sz m (.slice (some ⟨b, s, none⟩) n cap)).run P w = .ok (((List.range xs.length).map c).take (m * sz)).toArray w ∧
      (Builtin.firstCells sz m (.slice (some ⟨b, s, none⟩) n cap)).run P w.drew = .ok (((List.range xs.length).map c).take (m * sz)).toArray w.drew := by
    intro b s n cap xs c hl hc m hm
    have hle : m * sz ≤ n * sz := Nat.mul_le_mul_right _ hm
    have hlen : (((List.range xs.length).map c).take (m * sz)).length = m * sz := by simp; omega
    have hcs : ∀ j v, (((List.range xs.length).map c).take (m * sz))[j]? = some v → w.cell? ((⟨b, s, none⟩ : Addr).add j) = some v := by
      intro j v hv
      have hj := getElem?_lt hv
      rw [hlen] at hj
      rw [List.getElem?_take, if_pos hj] at hv
      simp [show j < xs.length by omega] at hv
      rw [Addr.add_lit, ← hv]
      exact hc j (by omega)
    exact ⟨run_firstCells_some w sz m _ n cap _ hlen hcs, run_firstCells_some w.drew sz m _ n cap _ hlen (by simpa using hcs)⟩
  unfold cellsA at h
  split at h
  · rename_i nl tg n xs
    split at h
    · rename_i hl
      cases h
      cases hy with
      | p hy =>
        cases hy with
        | nil =>
          refine ⟨by simpa using hl, by simp [Builtin.lenOf], [], .nil, fun m hm => ?_⟩
          simp [Builtin.firstCells]
        | emp =>
          refine ⟨by simpa using hl, by simp [Builtin.lenOf], [], .nil, fun m hm => ?_⟩
          have hm0 : m = 0 := by omega
          subst hm0
          simp [Builtin.firstCells, loadCells, loadCellsFrom]
        | @sl b s _ cap _ _ _ c n1 n2 n3 n4 n5 =>
          exact ⟨hl, by simp [Builtin.lenOf], _, mk k _ c n5, rd b s k cap _ c hl (fun i hi => (n4 i hi).2)⟩
    · cases h
  · rename_i id g off n
    split at h
    · rename_i g' sz' xs ho
      split at h
      · rename_i hc
        obtain ⟨rfl, rfl, hle⟩ := hc
        cases h
        cases hy with
        | row hl ho' hg hr =>
          rw [ho] at ho'
          cases ho'
          have hlen : ((xs.drop off).take (k * sz')).length = k * sz' := by simp; omega
          have hr' := hr rfl
          unfold RowAt at hr'
          split at hr'
          · obtain ⟨rfl, rfl, h3, a, rfl, hsp⟩ := hr'
            refine ⟨hlen, by simp [Builtin.lenOf], [], ?_, fun m hm => ?_⟩
            · simp only [Nat.zero_mul, List.take_zero]; exact .nil
            · have : m = 0 := by omega
              subst this
              cases a <;> simp [Builtin.firstCells, loadCells, loadCellsFrom]
          · rename_i b s t hb
            obtain ⟨A, cap, rfl, hA, h5, h6, h7⟩ := hr'
            rcases hI.obj id _ ho with ⟨_, k1⟩ | ⟨b', s', t'', c, e, k1, k2, k3, k4, k5⟩
            · rw [hb] at k1; cases k1
            · rw [hb] at k1
              cases k1
              have hpv : ∀ i (hi : i < ((xs.drop off).take (k * sz')).length), RP F w (c.getD (s + off + i) undef) ((xs.drop off).take (k * sz'))[i] := by
                intro i hi
                rw [hlen] at hi
                simp only [List.getElem_take, List.getElem_drop]
                have := k5 (off + i) (by omega)
                rwa [← Nat.add_assoc] at this
              rcases hA with rfl | ⟨rfl, rfl, hsp⟩
              · exact ⟨hlen, by simp [Builtin.lenOf], _, mk k _ (fun i => c.getD (s + off + i) undef) hpv, rd b (s + off) k cap _ _ hlen (fun i hi => cell_in k2 (by rw [hlen] at hi; omega))⟩
              · refine ⟨hlen, by simp [Builtin.lenOf], [], ?_, fun m hm => ?_⟩
                · simp only [Nat.zero_mul, List.take_zero]; exact .nil
                · have : m = 0 := by omega
                  subst this
                  simp [Builtin.firstCells, loadCells, loadCellsFrom]
      · cases h
    · cases h
  · rename_i s
    split at h
    · rename_i hs
      subst hs
      cases h
      cases hy.v_inv.1
      refine ⟨by rw [List.length_map, Nat.mul_one]; rfl, by simp [Builtin.lenOf], s.data.toList.map fun b => .int .u8 b.toNat, ?_, fun m hm => ?_⟩
      · generalize s.data.toList = l
        induction l with
        | nil => exact .nil
        | cons b l ih => exact .cons (.v rfl) ih
      · have : ((s.extract 0 m).data.map fun b => Value.int .u8 (b.toNat : Int)) = ((s.data.toList.map fun b => Value.int .u8 (b.toNat : Int)).take (m * 1)).toArray := by
          apply Array.ext'
          rw [ByteArray.data_extract, Array.toList_map, Array.toList_extract, Nat.mul_one, List.extract_eq_take_drop, List.drop_zero, Nat.sub_zero, List.map_take]
        exact ⟨congrArg (fun x => Result.ok x w) this, congrArg (fun x => Result.ok x w.drew) this⟩
    · cases h
  · cases h


/-- A row of cells that stand for pure values, laid in a block. -/
theorem RPs.at_ {F' : Frz} {w' : World} {vs : List Value} {xs : List PV} (h : RPs F' w' vs xs) (c : Array Value) (s : Nat) (hc : ∀ i, i < vs.length → c.getD (s + i) undef = vs.getD i undef) : ∀ i (hi : i < xs.length), RP F' w' (c.getD (s + i) undef) xs[i] := by
  obtain ⟨h1, h2⟩ := h.get
  intro i hi
  rw [hc i (by omega)]
  exact h2 i hi

theorem RPs.append {F' : Frz} {w' : World} {vs us : List Value} {xs ys : List PV} (h : RPs F' w' vs xs) (h' : RPs F' w' us ys) : RPs F' w' (vs ++ us) (xs ++ ys) := by
  induction h with
  | nil => exact h'
  | cons h _ ih => exact .cons h ih

theorem RPs.leafy {F' : Frz} {w' : World} {vs : List Value} {xs : List PV} (h : RPs F' w' vs xs) : ∀ v ∈ vs, leafyV v = true := by
  induction h with
  | nil => intro v hv; cases hv
  | cons h _ ih =>
    intro v hv
    cases hv with
    | head => exact h.leafy
    | tail _ hv => exact ih v hv

theorem alloc_touch (o : Obj) (may : Nat → Prop) : Touch w (w.alloc o) may := ⟨rfl, rfl, rfl, by simp, Nat.le_refl _, fun k hk _ => Below.heap_alloc_old' hk⟩
where
  Below.heap_alloc_old' {k : Nat} (hk : k < w.heap.size) : (w.alloc o).heap[k]? = w.heap[k]? := by
    show (w.heap.push o)[k]? = _
    rw [Array.getElem?_push, if_neg (by omega)]

theorem drew_touch (may : Nat → Prop) : Touch w w.drew may := ⟨rfl, rfl, rfl, Nat.le_refl _, Nat.le_succ _, fun _ _ _ => rfl⟩

theorem heap_alloc_new' (o : Obj) : (w.alloc o).heap[w.heap.size]? = some o := by
  show (w.heap.push o)[w.heap.size]? = _
  rw [Array.getElem?_push, if_pos rfl]

/-- A new row, behind a draw. -/
theorem grown_row {vs : List Value} {xs : List PV} {rest : Array Value} {e : TypeId} (hv : RPs F w vs xs) {may : Nat → Prop} :
    Touch w (w.drew.alloc (.cells (vs.toArray ++ rest) e)) may ∧ (w.drew.alloc (.cells (vs.toArray ++ rest) e)).heap[w.heap.size]? = some (.cells (vs.toArray ++ rest) e (0, 0)) ∧
      ∀ i, i < vs.length → (vs.toArray ++ rest).getD (0 + i) undef = vs.getD i undef := by
  refine ⟨(drew_touch may).trans (alloc_touch _ _), heap_alloc_new' (w := w.drew) _, fun i hi => ?_⟩
  rw [Nat.zero_add, Array.getD_eq_getD_getElem?, Array.getElem?_append_left (by simpa using hi)]
  simp

theorem appTo_new (hI : Inv H β F w) {sz n : Nat} {vs : List Value} {xs : List PV} {rest : Array Value} {e : TypeId} {newCap : Nat} (hv : RPs F w vs xs) (hx : xs.length = n * sz) (hn : n ≤ newCap ∧ newCap ≤ 9223372036854775807) (hs : (vs.toArray ++ rest).size = newCap * sz) :
    ∃ w' β' F', w' = w.drew.alloc (.cells (vs.toArray ++ rest) e) ∧ RA (H ++ [.row 0 sz xs]) β' F' w' (.slice (some ⟨w.heap.size, 0, none⟩) n newCap) (.row H.length 0 0 n) ∧ Inv (H ++ [.row 0 sz xs]) β' F' w' ∧ Ext H β F w (H ++ [.row 0 sz xs]) β' F' w' := by
  obtain ⟨hT, hb, hc⟩ := grown_row (w := w) (rest := rest) (e := e) hv (may := fun _ => False)
  obtain ⟨h1, h2⟩ := hv.get
  have hle : n * sz ≤ newCap * sz := Nat.mul_le_mul_right _ hn.1
  obtain ⟨i1, i2⟩ := Inv.push (o' := .row 0 sz xs) (nb := some (w.heap.size, 0, newCap * sz)) hI hT (fun b s t e => by cases e; exact Nat.le_refl _)
    (fun hE => .inr ⟨w.heap.size, 0, newCap * sz, _, e, updB_same _ _ _, hb, hs, by omega, (hv.mono fun v x h => h.ext hI hE).at_ _ 0 hc⟩)
  refine ⟨_, _, F, rfl, .row ⟨_, _, rfl, hn.1, by simp⟩ (push_get _ _) (Nat.le_refl _) fun _ => ?_, i1, i2⟩
  unfold RowAt
  rw [updB_same]
  exact ⟨_, newCap, rfl, .inl rfl, hn.1, by omega, by omega, hn.2⟩

theorem appTo_update (hI : Inv H β F w) {id g sz n : Nat} {ys : List PV} {vs : List Value} {xs : List PV} {rest : Array Value} {e : TypeId} {newCap : Nat} (ho : H[id]? = some (.row g sz ys)) (hv : RPs F w vs xs) (hx : xs.length = n * sz) (hn : n ≤ newCap ∧ newCap ≤ 9223372036854775807) (hs : (vs.toArray ++ rest).size = newCap * sz) :
    ∃ w' β' F', w' = w.drew.alloc (.cells (vs.toArray ++ rest) e) ∧ RA (H.set id (.row (g + 1) sz xs)) β' F' w' (.slice (some ⟨w.heap.size, 0, none⟩) n newCap) (.row id (g + 1) 0 n) ∧ Inv (H.set id (.row (g + 1) sz xs)) β' F' w' ∧ Ext H β F w (H.set id (.row (g + 1) sz xs)) β' F' w' := by
  obtain ⟨hT, hb, hc⟩ := grown_row (w := w) (rest := rest) (e := e) hv (may := fun k => ∃ s t, β id = some (k, s, t))
  obtain ⟨h1, h2⟩ := hv.get
  have hle : n * sz ≤ newCap * sz := Nat.mul_le_mul_right _ hn.1
  obtain ⟨i1, i2⟩ := Inv.update (F' := F) (o' := .row (g + 1) sz xs) (nb := some (w.heap.size, 0, newCap * sz)) hI ho hT
    (fun b s t e => by cases e; exact ⟨.inl (Nat.le_refl _), fun j hj => by have := hI.lt hj; omega⟩) ⟨rfl, by omega, fun e => by omega⟩ (fun _ _ h => h) (fun _ _ h => .inl h)
    (fun b j hj => by
      obtain ⟨v, hv'⟩ := hI.fz b j hj
      have hlt := hI.lt hj
      refine ⟨v, ?_⟩
      rw [World.cell?_alloc_lt _ _ _ (by simpa using hlt)]
      exact hv')
    (fun hE => .inr ⟨w.heap.size, 0, newCap * sz, _, e, updB_same _ _ _, hb, hs, by omega, (hv.mono fun v x h => h.ext hI hE).at_ _ 0 hc⟩)
  refine ⟨_, _, F, rfl, .row ⟨_, _, rfl, hn.1, by simp⟩ (set_get _ ho) (Nat.le_refl _) fun _ => ?_, i1, i2⟩
  unfold RowAt
  rw [updB_same]
  exact ⟨_, newCap, rfl, .inl rfl, hn.1, by omega, by omega, hn.2⟩


theorem RPs.mk' : ∀ (xs : List PV) (c : Nat → Value), (∀ i (hi : i < xs.length), RP F w (c i) xs[i]) → RPs F w ((List.range xs.length).map c) xs := by
  intro xs
  induction xs with
  | nil => intro c _; exact .nil
  | cons x xs ih =>
    intro c hc
    rw [List.length_cons, List.range_succ_eq_map, List.map_cons, List.map_map]
    exact .cons (hc 0 (by simp)) (ih _ fun i hi => hc (i + 1) (by simpa using hi))

theorem virt_new (hI : Inv H β F w) {sz : Nat} {a : Option Addr} :
    ∃ β', RA (H ++ [.row 0 sz []]) β' F w (.slice a 0 0) (.row H.length 0 0 0) ∧ Inv (H ++ [.row 0 sz []]) β' F w ∧ Ext H β F w (H ++ [.row 0 sz []]) β' F w := by
  obtain ⟨i1, i2⟩ := Inv.push (o' := .row 0 sz []) (nb := none) hI (Touch.refl w _) (fun b s t e => by cases e) (fun hE => .inl ⟨rfl, updB_same _ _ _⟩)
  refine ⟨_, .row ⟨_, _, rfl, Nat.le_refl _, fun _ => rfl⟩ (push_get _ _) (Nat.le_refl _) fun _ => ?_, i1, i2⟩
  unfold RowAt
  rw [updB_same]
  exact ⟨rfl, rfl, rfl, a, rfl, trivial⟩

theorem virt_update (hI : Inv H β F w) {id g sz : Nat} {ys : List PV} (ho : H[id]? = some (.row g sz ys)) {a : Option Addr} :
    ∃ β', RA (H.set id (.row (g + 1) sz [])) β' F w (.slice a 0 0) (.row id (g + 1) 0 0) ∧ Inv (H.set id (.row (g + 1) sz [])) β' F w ∧ Ext H β F w (H.set id (.row (g + 1) sz [])) β' F w := by
  obtain ⟨i1, i2⟩ := Inv.update (F' := F) (o' := .row (g + 1) sz []) (nb := none) hI ho (Touch.refl w _) (fun b s t e => by cases e) ⟨rfl, by omega, fun e => by omega⟩ (fun _ _ h => h) (fun _ _ h => .inl h) hI.fz (fun hE => .inl ⟨rfl, updB_same _ _ _⟩)
  refine ⟨_, .row ⟨_, _, rfl, Nat.le_refl _, fun _ => rfl⟩ (set_get _ ho) (Nat.le_refl _) fun _ => ?_, i1, i2⟩
  unfold RowAt
  rw [updB_same]
  exact ⟨rfl, rfl, rfl, a, rfl, trivial⟩

theorem appTo_sound (hI : Inv H β F w) {t0 t1 e ty : TypeId} (h0 : P.underlying t0 = some (.slice e)) (hok : elemOk P e = true)
    {X C : AV} {H' : Heap} {vx vy : Value} {k : Nat} {new : List PV} {vs : List Value} (h : appTo (P.cellsOf e) (P.bytesOf e) X k new H = some (C, H')) (hx : RA H β F w vx X)
    (hnl : new.length = k * P.cellsOf e) (hvs : RPs F w vs new) (hs : AppSrc P w t0 t1 e ty vy k vs) :
    Runs P H β F w (Builtin.append_ #[t0, t1] ty #[vx, vy]) C H' := by
  obtain ⟨d, i, z, hd, hi, hz, hzs, hzl, hb1, hb2⟩ := elemOk_inv hok
  rw [hb1] at h
  have hvl : vs.length = k * P.cellsOf e := by rw [hvs.get.1]; exact hnl
  have znum : ∀ m, (Builtin.zeroCells z.cells m).size = m * P.cellsOf e := fun m => by rw [size_zeroCells, hzs]
  have nil0 : k = 0 → new = [] := fun e => List.length_eq_zero_iff.mp (by rw [hnl, e, Nat.zero_mul])
  have vnil0 : k = 0 → vs = [] := fun e => List.length_eq_zero_iff.mp (by rw [hvl, e, Nat.zero_mul])
  unfold appTo at h
  split at h
  · -- nil
    rename_i tg n xs
    split at h
    · rename_i hk0
      subst hk0
      cases h
      have hv : vx = .slice none 0 0 := by
        cases hx with
        | p hx =>
          cases hx with
          | nil => rfl
          | emp h1 => exact (h1 rfl).elim
          | sl c h1 => exact (h1 rfl).elim
      subst hv
      exact ⟨_, w, β, F, by rw [hs.room _ _ _ (by omega)]; rfl, hx, hI, Ext.refl _ _ _ _⟩
    split at h
    · rename_i hroom
      cases h
      have hv : vx = .slice none 0 0 := by
        cases hx with
        | p hx =>
          cases hx with
          | nil => rfl
          | emp h1 => exact (h1 rfl).elim
          | sl c h1 => exact (h1 rfl).elim
      subst hv
      by_cases hk : k = 0
      · cases nil0 hk
        subst hk
        obtain ⟨β', r1, r2, r3⟩ := virt_new hI (sz := P.cellsOf e) (a := none)
        exact ⟨_, w, β', F, by rw [hs.room _ _ _ (by omega)]; rfl, r1, r2, r3⟩
      · obtain ⟨newCap, hc, hr⟩ := hs.grow i z (none) 0 0 [] hi hz (by simp [Builtin.firstCells]) hb2 (by simpa [room] using hroom) (by omega)
        obtain ⟨w', β', F', rfl, r1, r2, r3⟩ := appTo_new hI (sz := P.cellsOf e) (n := k) (newCap := newCap) (rest := Builtin.zeroCells z.cells (newCap - (0 + k))) (e := e) hvs hnl (by omega) (by
          rw [Array.size_append, znum, List.size_toArray, hvl, ← Nat.add_mul]; congr 1; omega)
        refine ⟨_, _, β', F', hr.trans ?_, r1, r2, r3⟩
        simp
    · cases h
  · -- tight
    rename_i nl n xs _
    split at h
    · rename_i hk0
      obtain ⟨hk0, hn0⟩ := hk0
      cases nil0 hk0
      cases vnil0 hk0
      subst hk0
      cases h
      have keep : ∃ r w', (Builtin.append_ #[t0, t1] ty #[vx, vy]).run P w = .ok r w' ∧ r = vx ∧ w' = w := by
        cases hx with
        | p hx =>
          cases hx with
          | nil => omega
          | emp h1 => omega
          | sl c h1 n2 => exact ⟨_, w, by rw [hs.room _ _ _ (by omega)]; simp [storeCells], rfl, rfl⟩
      obtain ⟨r, w', e1, rfl, rfl⟩ := keep
      exact ⟨_, _, β, F, e1, hx, hI, Ext.refl _ _ _ _⟩
    split at h
    · rename_i hc
      obtain ⟨hxl, hk0, hroom⟩ := hc
      cases h
      cases hx with
      | p hx =>
        cases hx with
        | nil hnl' =>
          simp only [Nat.zero_mul, Nat.zero_add, List.nil_append] at hxl hroom ⊢
          by_cases hk : k = 0
          · cases nil0 hk
            subst hk
            obtain ⟨β', r1, r2, r3⟩ := virt_new hI (sz := P.cellsOf e) (a := none)
            exact ⟨_, w, β', F, by rw [hs.room _ _ _ (by omega)]; rfl, r1, r2, r3⟩
          · obtain ⟨newCap, hc, hr⟩ := hs.grow i z (none) 0 0 [] hi hz (by simp [Builtin.firstCells]) hb2 (by simpa [room] using hroom) (by omega)
            obtain ⟨w', β', F', rfl, r1, r2, r3⟩ := appTo_new hI (sz := P.cellsOf e) (n := k) (newCap := newCap) (rest := Builtin.zeroCells z.cells (newCap - (0 + k))) (e := e) hvs hnl (by omega) (by
              rw [Array.size_append, znum, List.size_toArray, hvl, ← Nat.add_mul]; congr 1; omega)
            refine ⟨_, _, β', F', hr.trans ?_, r1, r2, r3⟩
            simp
        | @emp A _ _ hnl' =>
          simp only [Nat.zero_mul, Nat.zero_add, List.nil_append] at hxl hroom ⊢
          by_cases hk : k = 0
          · have hk0' := hk
            cases nil0 hk
            cases vnil0 hk
            subst hk
            obtain ⟨β', r1, r2, r3⟩ := virt_new hI (sz := P.cellsOf e) (a := some A)
            exact ⟨_, w, β', F, by rw [hs.room _ _ _ (by omega)]; simp [storeCells], r1, r2, r3⟩
          · obtain ⟨newCap, hc, hr⟩ := hs.grow i z (some A) 0 0 [] hi hz (by simp [Builtin.firstCells, loadCells, loadCellsFrom]) hb2 (by simpa [room] using hroom) (by omega)
            obtain ⟨w', β', F', rfl, r1, r2, r3⟩ := appTo_new hI (sz := P.cellsOf e) (n := k) (newCap := newCap) (rest := Builtin.zeroCells z.cells (newCap - (0 + k))) (e := e) hvs hnl (by omega) (by
              rw [Array.size_append, znum, List.size_toArray, hvl, ← Nat.add_mul]; congr 1; omega)
            refine ⟨_, _, β', F', hr.trans ?_, r1, r2, r3⟩
            simp
        | @sl b s _ cap _ _ _ c n1 n2 n3 n4 n5 =>
          cases n3 rfl
          by_cases hk : k = 0
          · have hn0 : n = 0 := by omega
            cases nil0 hk
            cases vnil0 hk
            subst hk hn0
            have hx0 : xs = [] := List.length_eq_zero_iff.mp (by simpa using hxl)
            subst hx0
            obtain ⟨β', r1, r2, r3⟩ := virt_new hI (sz := P.cellsOf e) (a := some ⟨b, s, none⟩)
            exact ⟨_, w, β', F, by rw [hs.room _ _ _ (by omega)]; simp [storeCells], r1, r2, r3⟩
          · have hold : RPs F w ((List.range xs.length).map c) xs := by
              have mk : ∀ (xs : List PV) (c : Nat → Value), (∀ i (hi : i < xs.length), RP F w (c i) xs[i]) → RPs F w ((List.range xs.length).map c) xs := by
                intro xs
                induction xs with
                | nil => intro c _; exact .nil
                | cons x xs ih =>
                  intro c hc
                  rw [List.length_cons, List.range_succ_eq_map, List.map_cons, List.map_map]
                  exact .cons (hc 0 (by simp)) (ih _ fun i hi => hc (i + 1) (by simpa using hi))
              exact mk xs c n5
            have hol : ((List.range xs.length).map c).length = n * P.cellsOf e := by simp; exact hxl
            have hfo := run_firstCells_some (P := P) w.drew (P.cellsOf e) n ⟨b, s, none⟩ n n ((List.range xs.length).map c) hol (by
              intro j v hj
              have hlt := getElem?_lt hj
              simp at hlt
              simp [hlt] at hj
              rw [Addr.add_lit, ← hj]
              exact (n4 j hlt).2)
            obtain ⟨newCap, hc, hr⟩ := hs.grow i z (some ⟨b, s, none⟩) n n _ hi hz hfo hb2 (by simpa [room] using hroom) (by omega)
            obtain ⟨w', β', F', rfl, r1, r2, r3⟩ := appTo_new hI (sz := P.cellsOf e) (n := n + k) (newCap := newCap) (rest := Builtin.zeroCells z.cells (newCap - (n + k))) (e := e) (hold.append hvs) (by
              rw [List.length_append, hxl, hnl, Nat.add_mul]) (by omega) (by
              rw [Array.size_append, znum, List.size_toArray, List.length_append, hol, hvl, ← Nat.add_mul, ← Nat.add_mul]; congr 1; omega)
            refine ⟨_, _, β', F', hr.trans ?_, r1, r2, r3⟩
            congr 2
            congr 1
            apply Array.ext'
            simp [List.append_assoc]
    · cases h
  · rename_i id g off n
    split at h
    · rename_i g' sz' xs ho
      split at h
      · rename_i hc
        obtain ⟨rfl, rfl, hle, hroom⟩ := hc
        cases h
        cases hx with
        | row hl ho' hg hr0 =>
          rw [ho] at ho'
          cases ho'
          have hr' := hr0 rfl
          unfold RowAt at hr'
          split at hr'
          · rename_i hβ
            obtain ⟨rfl, rfl, h3, a, rfl, hsp⟩ := hr'
            have hx0 : xs = [] := List.length_eq_zero_iff.mp h3
            subst hx0
            simp only [Nat.zero_mul, Nat.zero_add, List.drop_nil, List.take_nil, List.nil_append] at hroom ⊢
            by_cases hk : k = 0
            · cases nil0 hk
              cases vnil0 hk
              subst hk
              obtain ⟨β', r1, r2, r3⟩ := virt_update hI ho (a := a)
              exact ⟨_, w, β', F, by rw [hs.room _ _ _ (by omega)]; cases a <;> simp [storeCells], r1, r2, r3⟩
            · obtain ⟨newCap, hc, hr⟩ := hs.grow i z (a) 0 0 [] hi hz (by cases a <;> simp [Builtin.firstCells, loadCells, loadCellsFrom]) hb2 (by simpa [room] using hroom) (by omega)
              obtain ⟨w', β', F', rfl, r1, r2, r3⟩ := appTo_update hI (n := k) (newCap := newCap) (rest := Builtin.zeroCells z.cells (newCap - (0 + k))) (e := e) ho hvs hnl (by omega) (by
                rw [Array.size_append, znum, List.size_toArray, hvl, ← Nat.add_mul]; congr 1; omega)
              refine ⟨_, _, β', F', hr.trans ?_, r1, r2, r3⟩
              simp
          · rename_i b s t hb
            obtain ⟨A, cap, rfl, hA, h5, h6, h7⟩ := hr'
            rcases hI.obj id _ ho with ⟨_, k1⟩ | ⟨b', s', t'', c, e1, k1, k2, k3, k4, k5⟩
            · rw [hb] at k1; cases k1
            · rw [hb] at k1
              cases k1
              have hol : ((xs.drop off).take (n * P.cellsOf e)).length = n * P.cellsOf e := by simp; omega
              have hold : RPs F w ((List.range ((xs.drop off).take (n * P.cellsOf e)).length).map fun i => c.getD (s + off + i) undef) ((xs.drop off).take (n * P.cellsOf e)) := RPs.mk' _ _ fun i hi => by
                rw [hol] at hi
                simp only [List.getElem_take, List.getElem_drop]
                have := k5 (off + i) (by omega)
                rwa [← Nat.add_assoc] at this
              rw [hol] at hold
              have hoo : ((List.range (n * P.cellsOf e)).map fun i => c.getD (s + off + i) undef).length = n * P.cellsOf e := by simp
              have hsum : n * P.cellsOf e + k * P.cellsOf e = (n + k) * P.cellsOf e := (Nat.add_mul _ _ _).symm
              by_cases hle2 : n + k ≤ cap
              · have hmul : (n + k) * P.cellsOf e ≤ cap * P.cellsOf e := Nat.mul_le_mul_right _ hle2
                rcases hA with rfl | ⟨rfl, rfl, hsp⟩
                · obtain ⟨w', c', r1, r2, r3, r4, r5⟩ := storeCells_run (P := P) (o := s + off + n * P.cellsOf e) vs 0 w c k2 hvs.leafy (by omega)
                  have hT := r4.own (β := β) hb
                  obtain ⟨i1, i2⟩ := Inv.update (w' := w') (F' := F) (o' := .row (g' + 1) (P.cellsOf e) ((xs.drop off).take (n * P.cellsOf e) ++ new)) (nb := some (b, s + off, c.size)) hI ho hT
                    (fun b2 s2 t2 e2 => by cases e2; exact ⟨.inr ⟨_, _, hb⟩, fun j => hI.own _ _ _ _ _ hb⟩) ⟨rfl, by omega, fun e => by omega⟩ (fun _ _ h => h) (fun _ _ h => .inl h) (fz_later hI hb r4) (fun hE => by
                      refine .inr ⟨b, s + off, c.size, c', e1, updB_same _ _ _, r2, r3, by rw [List.length_append, hol, hnl]; omega, ?_⟩
                      refine RPs.at_ (vs := ((List.range (n * P.cellsOf e)).map fun i => c.getD (s + off + i) undef) ++ vs) ((hold.append hvs).mono fun v x h => h.ext hI hE) c' (s + off) fun i hi => ?_
                      rw [List.length_append, hoo, hvl] at hi
                      rw [r5 (s + off + i)]
                      by_cases hin : i < n * P.cellsOf e
                      · rw [if_neg (by omega), List.getD_eq_getElem?_getD, List.getElem?_append_left (by simpa using hin)]
                        simp [hin]
                      · rw [if_pos (by rw [hvl]; omega), List.getD_eq_getElem?_getD, List.getD_eq_getElem?_getD, List.getElem?_append_right (by simp; omega)]
                        congr 2
                        simp
                        omega)
                  refine ⟨.slice (some ⟨b, s + off, none⟩) (n + k) cap, w', _, F, ?_, .row ⟨_, _, rfl, hle2, by simp⟩ (set_get _ ho) (Nat.le_refl _) (fun _ => ?_), i1, i2⟩
                  · rw [hs.room _ _ _ hle2]
                    simp only [Addr.add_lit, r1, Result.andThen_ok]
                  · unfold RowAt
                    rw [updB_same]
                    exact ⟨_, cap, rfl, .inl rfl, hle2, by omega, by rw [List.length_append, hol, hnl]; omega⟩
                · have hk : k = 0 := by omega
                  cases nil0 hk
                  cases vnil0 hk
                  subst hk
                  simp only [Nat.zero_mul, List.take_zero, List.append_nil, Nat.add_zero]
                  obtain ⟨β', r1, r2, r3⟩ := virt_update hI ho (a := some A)
                  exact ⟨_, w, β', F, by rw [hs.room _ _ _ (by omega)]; simp [storeCells], r1, r2, r3⟩
              · have hfo : (Builtin.firstCells (P.cellsOf e) n (.slice (some A) n cap)).run P w.drew = .ok ((List.range (n * P.cellsOf e)).map fun i => c.getD (s + off + i) undef).toArray w.drew := by
                  rcases hA with rfl | ⟨rfl, rfl, hsp⟩
                  · refine run_firstCells_some (P := P) w.drew (P.cellsOf e) n _ n cap _ hoo fun j v hj => ?_
                    have hlt := getElem?_lt hj
                    rw [hoo] at hlt
                    simp [hlt] at hj
                    rw [Addr.add_lit, ← hj]
                    have := cell_in (w := w) k2 (j := s + off + j) (by omega)
                    simpa using this
                  · simp [Builtin.firstCells, loadCells, loadCellsFrom]
                obtain ⟨newCap, hc, hr⟩ := hs.grow i z (some A) n cap _ hi hz hfo hb2 (by simpa [room] using hroom) hle2
                obtain ⟨w', β', F', rfl, r1, r2, r3⟩ := appTo_update hI (n := n + k) (newCap := newCap) (rest := Builtin.zeroCells z.cells (newCap - (n + k))) (e := e) ho (hold.append hvs) (by
                  rw [List.length_append, hol, hnl, Nat.add_mul]) (by omega) (by
                  rw [Array.size_append, znum, List.size_toArray, List.length_append, hoo, hvl, ← Nat.add_mul, ← Nat.add_mul]; congr 1; omega)
                refine ⟨_, _, β', F', hr.trans ?_, r1, r2, r3⟩
                congr 2
                congr 1
                apply Array.ext'
                simp [List.append_assoc]
      · cases h
    · cases h
  · cases h

end
end Go.AM
