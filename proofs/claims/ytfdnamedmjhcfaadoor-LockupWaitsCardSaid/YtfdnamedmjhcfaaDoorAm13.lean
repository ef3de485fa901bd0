/-
Labels and entries: what the abstract machine answers, at whatever fuel, is what the calls say.
-/
import Derived.Test.YtfdnamedmjhcfaaDoorAm12
import Derived.Laws.Externs
import Derived.RangeFuncLeaves
set_option linter.unusedVariables false
set_option linter.unusedSimpArgs false
set_option linter.unnecessarySimpa false
set_option linter.unusedSectionVars false
namespace Go.AM
variable [Know]
section
variable {P : Program}

theorem asAddr_of_load {t : TypeId} {va r : Value} {w : World} (h : (Instr.loadAt t va).run P w = .ok r w) : ((asAddr va >>= fun a => loadVar t a) : Sem Value).run P w = .ok r w := by
  cases va with
  | pointer a =>
    cases a with
    | some a => simpa [Instr.loadAt, Instr.sureAddr, asAddr] using h
    | none => simp [Instr.loadAt, Instr.sureAddr] at h
  | _ => simp [Instr.loadAt, Instr.sureAddr] at h

def resG (tmps : Array Value) : ResultVar → Sem Value
  | .tmp t => pure (tmps.getD t undef)
  | .cell a t => asAddr (tmps.getD a undef) >>= fun x => loadVar t x

theorem resOf_sound {H : Heap} {β : Beta} {F : Frz} {w : World} (hI : Inv H β F w) {a : Act} {s : Slots} (hs : RS H β F w a s) : ∀ (l : List ResultVar) (xs : List AV), resOf P s H l = some xs →
    ∃ vs, (l.mapM (resG a.tmps)).run P w = .ok vs w ∧ RAs H β F w vs xs := by
  intro l
  induction l with
  | nil => intro xs h; cases h; exact ⟨[], by simp, .nil⟩
  | cons x l ih =>
    intro xs h
    cases x with
    | tmp t =>
      simp only [resOf, Option.map_eq_some_iff] at h
      obtain ⟨q, h1, rfl⟩ := h
      obtain ⟨vs, k1, k2⟩ := ih _ h1
      exact ⟨_, by simp [resG, k1], .cons (hs t) k2⟩
    | cell p t =>
      simp only [resOf] at h
      split at h
      · rename_i ht
        rw [Option.bind_eq_some_iff] at h
        obtain ⟨y, h1, h⟩ := h
        rw [Option.map_eq_some_iff] at h
        obtain ⟨q, h2, rfl⟩ := h
        obtain ⟨vs, k1, k2⟩ := ih _ h2
        unfold okT at ht
        rw [Option.isSome_iff_exists] at ht
        obtain ⟨d, hd⟩ := ht
        obtain ⟨r, r1, r2⟩ := ld_sound hI hd h1 (hs p)
        refine ⟨r :: vs, ?_, .cons r2 k2⟩
        have r3 := asAddr_of_load r1
        rw [List.mapM_cons, Sem.run_bind]
        show ((resG a.tmps (.cell p t)).run P w).andThen _ = _
        rw [show (resG a.tmps (.cell p t)).run P w = .ok r w from r3]
        simp [Result.andThen, Sem.run_bind, k1]
      · cases h

theorem RAs.length {H : Heap} {β : Beta} {F : Frz} {w : World} {vs : List Value} {xs : List AV} (h : RAs H β F w vs xs) : vs.length = xs.length := by
  induction h with
  | nil => rfl
  | cons _ _ ih => simp [ih]

theorem results_run {fn : Func} {tmps : Array Value} {w : World} {vs : List Value} (h : (fn.results.toList.mapM (resG tmps)).run P w = .ok vs w) :
    (results fn tmps).run P w = .ok (if h : vs.toArray.size = 1 then vs.toArray[0] else .tuple vs.toArray) w := by
  have e : results fn tmps = (fn.results.mapM (resG tmps) >>= fun vs => pure (if h : vs.size = 1 then vs[0] else .tuple vs)) := by
    unfold results
    congr 1
  have e2 : fn.results.mapM (resG tmps) = List.toArray <$> fn.results.toList.mapM (resG tmps) := by
    conv => lhs; rw [← Array.toArray_toList (xs := fn.results)]
    rw [List.mapM_toArray]
  rw [e, e2, Sem.run_bind]
  simp [h, Result.andThen]

theorem ret_sound {H : Heap} {β : Beta} {F : Frz} {w : World} {vs : List Value} {xs : List AV} (h : RAs H β F w vs xs) : RA H β F w (if h : vs.toArray.size = 1 then vs.toArray[0] else .tuple vs.toArray) (ret xs) := by
  cases h with
  | nil => exact .tup rfl fun i hi => by simp at hi
  | @cons v x vs xs h h' =>
    cases h' with
    | nil => simpa [ret] using h
    | @cons v' x' vs' xs' k k' =>
      have hr := RAs.row (cs := (v :: v' :: vs').toArray) (xs := x :: x' :: xs') (.cons h (.cons k k'))
      rw [dif_neg (by simp)]
      exact .tup hr.1 hr.2

theorem RAs.cut {H : Heap} {β : Beta} {F : Frz} {w : World} {l : Nat} {vs : List Value} {xs : List AV} (h : RAs H β F w vs xs) (hl : xs.all (AV.ltd l) = true) : RAs (H.take l) (cutB l β) F w vs xs := by
  induction h with
  | nil => exact .nil
  | cons h _ ih =>
    rw [List.all_cons, Bool.and_eq_true] at hl
    exact .cons (h.cut (lt_sound l 6 _ hl.1)) (ih hl.2)

theorem ends_sound {cfg : Cfg} {f : FuncId} {fn : Func} (hf : P.funcs[f]? = some fn) {lo : List Nat} {H : Heap} {β : Beta} {F : Frz} {w : World} (hI : Inv H β F w) (hlo : LowAll lo H) (hok : entOkB (cfg.mode f) lo H = true) {r : List AV × Heap} :
    Ends P cfg f (entLo (cfg.mode f) lo H) lo H β F w r := by
  intro s' H' β' F' w1' a' h hst0 hs0
  obtain ⟨ms, hms, hmk⟩ := hst0.defers
  obtain ⟨w', t1, t2, t3, t4⟩ := takes_ok (P := P) ms w1' hst0.inv hst0.ext hmk
  rw [← hms] at t1
  have hst : St P (ntOf P f) H β F w [] (entLo (cfg.mode f) lo H) H' β' F' w' { a' with defers := [] } := ⟨t2, t3, hst0.low, hst0.bs, hst0.size, ⟨[], rfl, Mk.nil _ _ _⟩, hst0.dec⟩
  have hs : RS H' β' F' w' a' s' := fun i => t4 _ _ (hs0 i)
  simp only [finish, hf] at h
  rw [Option.bind_eq_some_iff] at h
  obtain ⟨xs, h1, h⟩ := h
  obtain ⟨vs, k1, k2⟩ := resOf_sound hst.inv hs _ _ h1
  have hrun := results_run (fn := fn) (tmps := a'.tmps) k1
  refine ⟨w', t1, fn, hf, _, hrun, ?_⟩
  have hlow := hst.low
  simp only [levelsOf] at hlow
  unfold leave at h
  split at h
  · rename_i hm
    rw [Option.bind_eq_some_iff] at h
    obtain ⟨⟨ys, H1⟩, h2, h⟩ := h
    simp only at h
    split at h
    · rename_i hc
      cases h
      rw [hm] at hok
      simp only [entOkB, Bool.and_eq_true, List.isEmpty_iff] at hok
      obtain ⟨β2, F2, r2, i2, e2, l2⟩ := frzAll_sound _ _ _ _ _ _ _ hst.inv hlow h2 k2
      have hz : Low 0 H1 := fun id o hid => by omega
      have i3 := i2.cut hz
      have e3 := (hst.ext.trans e2).cut (l := 0) (by rw [hok.2]; exact Nat.le_refl _)
      have r3 := r2.cut hc
      simp only [List.take_zero] at i3 e3 r3
      refine ⟨cutB 0 β2, F2, ret_sound r3, i3, e3, ?_⟩
      rw [hok.1]
      intro l hl
      simp at hl
    · cases h
  · rename_i hm
    rw [Option.bind_eq_some_iff] at h
    obtain ⟨⟨ys, H1⟩, h2, h⟩ := h
    simp only at h
    split at h
    · rename_i hc
      cases h
      rw [hm] at hok
      simp only [entOkB, Bool.and_eq_true, List.isEmpty_iff] at hok
      obtain ⟨β2, F2, r2, i2, e2, l2⟩ := frzAll_sound _ _ _ _ _ _ _ hst.inv hlow h2 k2
      have hz : Low 0 H1 := fun id o hid => by omega
      have i3 := i2.cut hz
      have e3 := (hst.ext.trans e2).cut (l := 0) (by rw [hok.2]; exact Nat.le_refl _)
      have r3 := r2.cut hc
      simp only [List.take_zero] at i3 e3 r3
      refine ⟨cutB 0 β2, F2, ret_sound r3, i3, e3, ?_⟩
      rw [hok.1]
      intro l hl
      simp at hl
    · cases h
  · rename_i hm
    cases h
    rw [hm] at hlow
    exact ⟨β', F', ret_sound k2, hst.inv, hst.ext, hlow⟩
  · rename_i hm
    cases h
    rw [hm] at hlow
    exact ⟨β', F', ret_sound k2, hst.inv, hst.ext, hlow⟩
  · rename_i hm
    cases h
    rw [hm] at hlow
    exact ⟨β', F', ret_sound k2, hst.inv, hst.ext, hlow⟩
  · rename_i hm
    cases h
    rw [hm] at hlow
    exact ⟨β', F', ret_sound k2, hst.inv, hst.ext, hlow⟩
  · rename_i m hm0 hm5 hm1 hm4 hm6 hm9
    have hel : entLo (cfg.mode f) lo H = H.length :: lo := by
      unfold entLo
      split
      · rename_i e; exact (hm0 e).elim
      · rename_i e; exact (hm5 e).elim
      · rename_i e; exact (hm1 e).elim
      · rename_i e; exact (hm4 e).elim
      · rename_i e; exact (hm6 e).elim
      · rename_i e; exact (hm9 e).elim
      · rfl
    rw [hel] at h hlow
    simp only at h
    rw [Option.bind_eq_some_iff] at h
    obtain ⟨⟨ys, H1⟩, h2, h⟩ := h
    simp only at h
    split at h
    · rename_i hc
      cases h
      obtain ⟨β2, F2, r2, i2, e2, l2⟩ := frzAll_sound _ _ _ _ _ _ _ hst.inv hlow h2 k2
      have hl := l2 H.length (by simp)
      refine ⟨cutB H.length β2, F2, ret_sound (r2.cut hc), i2.cut hl.2, (hst.ext.trans e2).cut (Nat.le_refl _), ?_⟩
      exact (l2.sub (lo' := lo) fun l hl => by simp [hl]).cut fun l hl => (hlo l hl).1
    · cases h

theorem args_slots {H : Heap} {β : Beta} {F : Frz} {w : World} {vs : Array Value} {args : List AV} (hv : RAs H β F w vs.toList args) (n : Nat) :
    RS H β F w { tmps := vs ++ Array.replicate (n - vs.size) undef, defers := [] } (mkS (List.range args.length) args) := by
  refine RL.slots ?_
  unfold RL
  have hl := hv.length
  have e : ((List.range args.length).map fun k => (vs ++ Array.replicate (n - vs.size) undef).getD k undef) = vs.toList := by
    refine List.ext_getElem (by simp [← hl]) fun i h1 h2 => ?_
    simp at h1 h2
    simp only [List.getElem_map, List.getElem_range, Array.getElem_toList]
    rw [Array.getD_eq_getD_getElem?, Array.getElem?_append_left h2]
    simp [h2]
  show RAs H β F w (((List.range args.length).map fun k => (vs ++ Array.replicate (n - vs.size) undef).getD k undef)) args
  rw [e]
  exact hv

/-- What the shelf's functions promise. -/
def ExtOk (P : Program) (cfg : Cfg) : Prop :=
  ∀ f k, cfg.ext f = some k → ∀ O, EntOk P O → ∀ args lo H rs H', extRun cfg O k args H = some (rs, H') → ∀ (vs : Array Value) w β F, Inv H β F w → RAs H β F w vs.toList args → LowAll lo H →
    (∃ fn, P.funcs[f]? = some fn ∧ fn.body.isSome = true ∧ (fn.name == "runtime.NumGoroutine") = false) ∧
    Calls P f vs w (fun e w' => ∃ v β' F', e = .returned v ∧ RA H' β' F' w' v (ret rs) ∧ Inv H' β' F' w' ∧ Ext H β F w H' β' F' w') ∧ LowAll lo H'
theorem ExtOk.none {cfg : Cfg} (h : ∀ f, cfg.ext f = Option.none) : ExtOk P cfg := fun f k e => by rw [h f] at e; cases e

theorem find_from {fn : Func} (h1 : fn.name = "math.Float64frombits") (h2 : fn.origin = "") : Extern.findNext fn = none ∧ Extern.find fn = some Extern.MathFloatBits.float64frombits := by
  have e1 : Extern.allNextRows.lookup "math.Float64frombits" = none := by kernel_rfl
  have e2 : Extern.allNextRows.lookup "" = none := by kernel_rfl
  have e3 : Extern.allGenericRows.lookup "math.Float64frombits" = none := by kernel_rfl
  have e4 : Extern.allTypedRows.lookup "math.Float64frombits" = none := by kernel_rfl
  have e5 : Extern.allRows.lookup "math.Float64frombits" = some Extern.MathFloatBits.float64frombits := by kernel_rfl
  constructor
  · simp [Extern.findNext, h1, h2, e1, e2]
  · simp [Extern.find, h1, h2, e3, e4, e5]
theorem find_bits {fn : Func} (h1 : fn.name = "math.Float64bits") (h2 : fn.origin = "") : Extern.findNext fn = none ∧ Extern.find fn = some Extern.MathFloatBits.float64bits := by
  have e1 : Extern.allNextRows.lookup "math.Float64bits" = none := by kernel_rfl
  have e2 : Extern.allNextRows.lookup "" = none := by kernel_rfl
  have e3 : Extern.allGenericRows.lookup "math.Float64bits" = none := by kernel_rfl
  have e4 : Extern.allTypedRows.lookup "math.Float64bits" = none := by kernel_rfl
  have e5 : Extern.allRows.lookup "math.Float64bits" = some Extern.MathFloatBits.float64bits := by kernel_rfl
  constructor
  · simp [Extern.findNext, h1, h2, e1, e2]
  · simp [Extern.find, h1, h2, e3, e4, e5]

theorem prim_sound {f : FuncId} {k : Prim} (hk : primOf P f = some k) {args : List AV} {x : AV} (h : primA k args = some x) {H : Heap} {β : Beta} {F : Frz} {w : World} {vs : Array Value} (hv : RAs H β F w vs.toList args) :
    ∃ v, (callFunc f vs).run P w = .ok (.value v) w ∧ RA H β F w v (ret [x]) ∧ ((∃ b, v = .float .f64 b) ∨ ∃ n, v = .int .u64 n) := by
  obtain ⟨l⟩ := vs
  unfold primOf at hk
  split at hk
  · rename_i fn hf
    split at hk
    · rename_i hc
      simp only [Bool.and_eq_true, beq_iff_eq, Bool.not_eq_true'] at hc
      obtain ⟨⟨hb, ho⟩, hn⟩ := hc
      unfold primNm at hk
      split at hk
      · rename_i hnm
        cases hk
        have hnm' : fn.name = "math.Float64frombits" := by simpa using hnm
        unfold primA at h
        split at h
        · rw [Option.some.injEq] at h
          subst h
          cases hv with
          | cons hv hv' =>
            cases hv'
            have e := hv.v_inv.1
            subst e
            obtain ⟨e1, e2⟩ := find_from hnm' ho
            refine ⟨_, ?_, .p (.v rfl), .inl ⟨_, rfl⟩⟩
            rw [run_callFunc_extern hf hn hb e1 e2]
            rfl
        · contradiction
        · cases h
      · split at hk
        · rename_i hnm
          cases hk
          have hnm' : fn.name = "math.Float64bits" := by simpa using hnm
          unfold primA at h
          split at h
          · contradiction
          · rw [Option.some.injEq] at h
            subst h
            cases hv with
            | cons hv hv' =>
              cases hv'
              have e := hv.v_inv.1
              subst e
              obtain ⟨e1, e2⟩ := find_bits hnm' ho
              refine ⟨_, ?_, .p (.v rfl), .inr ⟨_, rfl⟩⟩
              rw [run_callFunc_extern hf hn hb e1 e2]
              rfl
          · cases h
        · cases hk
    · cases hk
  · cases hk

theorem RL.act {H : Heap} {β : Beta} {F : Frz} {w : World} {a a' : Act} {keep : List Nat} {vals : List AV} (e : a'.tmps = a.tmps) (h : RL H β F w a keep vals) : RL H β F w a' keep vals := by
  unfold RL at *
  rw [e]
  exact h

theorem rngIn_inv {x q : AV} {gf : FuncId} (h : rngIn x gf = some q) : x = .fn gf [] [q] := by
  unfold rngIn at h
  split at h
  · split at h
    · rename_i e; cases h; rw [Nat.eq_of_beq_eq_true e]
    · cases h
  · cases h

theorem loaded_len {ty' : TypeId} {ts te : TypeId} (hts : sliceElem P ts = some te) {H : Heap} {β : Beta} {F : Frz} {w : World} (hI : Inv H β F w) {sl : AV} {m : AV} (h : lenA .slice sl H = some m) {v : Value} (hv : RA H β F w v sl) :
    ∃ n : Int, m = I n ∧ ∀ ty, (Builtin.len_ #[ts] ty #[v]).run P w = .ok (.int .i64 n) w := by
  have ht : tyOf P ts = .slice := by
    unfold tyOf
    rw [sliceElem_inv hts]
  have key : ∃ n : Int, m = I n := by
    unfold lenA at h
    split at h
    · cases h; exact ⟨_, rfl⟩
    · cases h; exact ⟨_, rfl⟩
    · cases h; exact ⟨_, rfl⟩
    · rename_i e; cases e
    · rename_i e; cases e
    · rename_i e; cases e
    · cases h
  obtain ⟨n, rfl⟩ := key
  refine ⟨n, rfl, fun ty => ?_⟩
  obtain ⟨r, r1, r2⟩ := len_sound (P := P) (t := ts) (ty := ty) hI (by rw [ht]; exact h) hv
  rw [r2.v_inv.1] at r1
  exact r1

/-- A range over slices.Backward's function. -/
theorem rng_wp {cfg : Cfg} (hg : RngOk P cfg) : ∀ m, (∀ j, j ≤ m → EntOk P (denF P cfg j) ∧ LabOk P cfg (denF P cfg j)) → ∀ {f : FuncId} {lo lo' : List Nat} {H0 : Heap} {β0 : Beta} {F0 : Frz} {w0 : World} {r : List AV × Heap},
    Ends P cfg f lo lo' H0 β0 F0 w0 r → RngWp P cfg (denF P cfg m) f lo lo' H0 β0 F0 w0 r := by
  intro m
  induction m using Nat.strongRecOn with
  | _ m ihm =>
  intro hall f lo lo' H0 β0 F0 w0 r hend n k g ps x y s H β F w a h hst hs
  -- behind the range
  have after : ∀ j, j < m → ∀ (k' : List It) (vals : List AV) (keep : List Nat) (N : Nat) (H' : Heap) (β' : Beta) (F' : Frz) (w' : World) (a' : Act), arun P cfg (denF P cfg j) f lo N k' (mkS keep vals) H' = some r →
      St P (ntOf P f) H0 β0 F0 w0 k' lo H' β' F' w' a' → RL H' β' F' w' a' keep vals → Kwp P (Fin P f lo' H0 β0 F0 w0 r) k' .normal a' w' := by
    intro j hj k' vals keep N H' β' F' w' a' e1 e2 e3
    exact arun_sound (hall j (by omega)).1 (hall j (by omega)).2 hend (ihm j hj (fun i hi => hall i (by omega)) hend) N k' _ H' β' F' w' a' e1 e2 e3.slots
  have hst' : St P (ntOf P f) H0 β0 F0 w0 k lo H β F w a := hst.mono (fun _ h => h) (fun _ h => h) (fun h => h)
  cases n with
  | zero => cases h
  | succ n =>
  simp only [arun] at h
  split at h
  · rename_i gf agg sz l hrg hlb
    split at h
    · rename_i hc
      rw [Bool.and_eq_true] at hc
      rw [Option.bind_eq_some_iff] at h
      obtain ⟨q, hq, h⟩ := h
      rw [Option.bind_eq_some_iff] at h
      obtain ⟨sl, hsl, h⟩ := h
      rw [Option.bind_eq_some_iff] at h
      obtain ⟨mm, hmm, h⟩ := h
      rw [Option.bind_eq_some_iff] at h
      obtain ⟨i0, hi0, h⟩ := h
      obtain ⟨⟨fnb, hb1, hb2, hb3⟩, ts, te, hts, hte, hag, hcl, hag2, hcl2, back⟩ := hg f _ gf agg sz hrg
      -- the closure
      have hgv := ev_sound (x := g) hs
      rw [rngIn_inv hq] at hgv
      obtain ⟨cv, hgv, hcv⟩ : ∃ cv, a.eval g = .func (.func gf) #[] #[cv] ∧ RA H β F w cv q := by
        generalize a.eval g = v at hgv
        cases hgv with
        | @fn _ fs cs _ _ h1 h2 h1' h2' =>
          have e1 : fs = #[] := by simpa using h1
          obtain ⟨cv, e2⟩ : ∃ cv, cs = #[cv] := by
            refine ⟨cs.getD 0 undef, ?_⟩
            apply Array.ext
            · simpa using h2
            · intro i hi1 hi2
              simp at hi2
              subst hi2
              have : 0 < cs.size := by rw [h2]; simp
              simp [Array.getD, this]
          subst e1 e2
          exact ⟨cv, rfl, by simpa using h2' 0 (by simp)⟩
      obtain ⟨p1, p2, hps, hp1, hp2⟩ : ∃ p1 p2, ps = #[p1, p2] ∧ p1 < ntOf P f ∧ p2 < ntOf P f := by
        have h0 := hc.1
        unfold psOk at h0
        split at h0
        · rename_i p1 p2 e
          rw [Bool.and_eq_true] at h0
          exact ⟨p1, p2, by rw [← Array.toList_inj]; exact e, by simpa [Nat.blt_eq] using h0.1, by simpa [Nat.blt_eq] using h0.2⟩
        · cases h0
      -- the record and the block of the mark
      let R : Rng := ⟨gf, agg, sz, if l.trunc then some H.length else none, ps, x, y⟩
      let keep := l.keep
      let vals := l.keep.map s
      let L := w.heap.size + 1
      let lv := rndLv R lo k
      obtain ⟨ms, hms, hmk⟩ := hst.defers
      refine wpIn_rangeFunc ?_
      intro fn _
      let rc : LoopState → Option Code → Loop := fun st pe => { state := st, pending := pe, fn, tmps := a.tmps, params := ps, assign := x, body := y, defers := w.heap.size }
      obtain ⟨W1, hW1⟩ : ∃ W1, (w.alloc (.deferred (some []))).alloc (.loop (rc .ready none)) = W1 := ⟨_, rfl⟩
      have hL1 : W1.heap[L]? = some (.loop (rc .ready none)) := by
        rw [← hW1]; have := World.alloc_heap_new (w.alloc (.deferred (some []))) (.loop (rc .ready none)); rwa [World.size_alloc] at this
      have hK1 : W1.heap[w.heap.size]? = some (.deferred (some [])) := by
        rw [← hW1]; exact (RowKit.Below.heap_alloc _ _ _ (by simp)).trans (World.alloc_heap_new w _)
      have hT : Touch w W1 (fun _ => False) := by
        rw [← hW1]
        refine ⟨rfl, rfl, rfl, by simp; omega, Nat.le_refl _, fun b hb _ => ?_⟩
        exact (RowKit.Below.heap_alloc _ _ _ (by simp; omega)).trans (RowKit.Below.heap_alloc _ _ _ hb)
      obtain ⟨i1, e1⟩ := hst.inv.same hT
      have hbl : ∀ b, w.heap.size ≤ b → ∀ id s t, β id ≠ some (b, s, t) := fun b hb id s t e => by have := hst.inv.block_lt e; omega
      have hlvl : ∀ b, R.b = some b → b ∈ lv ∧ (∀ l' ∈ lv, l' ≤ b) ∧ H0.length ≤ b := by
        intro b hb
        have hb' : b = H.length ∧ l.trunc = true := by
          revert hb
          show (if l.trunc then some H.length else none) = some b → _
          split
          · rename_i ht; intro e; cases e; exact ⟨rfl, ht⟩
          · intro e; cases e
        have hlv : lv = b :: levelsOf lo k := by
          show rndLv R lo k = _
          unfold rndLv
          rw [hb]
        refine ⟨by rw [hlv]; simp, fun l' hl' => ?_, ?_⟩
        · rw [hlv] at hl'
          rcases List.mem_cons.mp hl' with e | e
          · omega
          · rw [hb'.1]; exact (hst'.low l' e).1
        · rw [hb'.1]
          rcases Nat.lt_or_ge H.length H0.length with h' | h'
          · obtain ⟨o', h1, _⟩ := hst.ext.grow H.length _ (List.getElem?_eq_getElem h')
            have := getElem?_lt h1
            omega
          · exact h'
      have hlow1 : LowAll lv H := by
        show LowAll (rndLv R lo k) H
        unfold rndLv
        split
        · rename_i b hb
          intro l' hl'
          rcases List.mem_cons.mp hl' with e | e
          · have : b = H.length := by
              revert hb
              show (if l.trunc then some H.length else none) = some b → _
              split
              · intro e; cases e; rfl
              · intro e; cases e
            rw [e, this]
            exact ⟨Nat.le_refl _, hst.inv.low⟩
          · exact hst'.low l' e
        · exact hst'.low
      have hlow2 : ∀ H', LowAll lv H' → LowAll (levelsOf lo k) H' := by
        intro H' hl
        refine hl.sub fun l' hl' => ?_
        show l' ∈ rndLv R lo k
        unfold rndLv
        split
        · exact List.mem_cons_of_mem _ hl'
        · exact hl'
      have hB1 : Bst H0 β0 F0 w0 lv a keep vals cv q L (w.heap.size :: ms) H β F W1 := by
        refine ⟨i1, hst.ext.trans e1, hlow1, RAs.mono' (fun v x k => k.ext hst.inv e1) (hs.keep _), hcv.ext hst.inv e1, ⟨?_, fun D hD => ?_⟩, by have := hst.ext.size; omega, hbl _ (by omega), ?_⟩
        · refine List.nodup_cons.mpr ⟨fun hD => ?_, hmk.1⟩
          have := heap_lt (hmk.2 _ hD).2.1
          omega
        · rcases List.mem_cons.mp hD with e | e
          · subst e
            exact ⟨hst.ext.size, hK1, hbl _ (Nat.le_refl _)⟩
          · obtain ⟨q1, q2, q3⟩ := hmk.2 D e
            exact ⟨q1, (hT.block D (heap_lt q2) (fun e => e)).trans q2, q3⟩
        · intro hD
          rcases List.mem_cons.mp hD with e | e
          · omega
          · have := heap_lt (hmk.2 _ e).2.1
            omega
      -- what stands between two rounds; where a round has left
      let J : Int → World → Prop := fun i W => ∃ j, j ≤ m ∧ ∃ Ht βt Ft, (denF P cfg j).lab f (0 :: 0 :: keep) (.rf R :: k) (I i :: q :: vals) lo Ht = some r ∧ Bst H0 β0 F0 w0 lv a keep vals cv q L (w.heap.size :: ms) Ht βt Ft W ∧ W.heap[L]? = some (.loop (rc .ready none))
      let Jx : World → Prop := fun W => ∃ jc Ht βt Ft, W.heap[L]? = some (.loop (rc .done (some jc))) ∧ Bst H0 β0 F0 w0 lv a keep vals cv q L (w.heap.size :: ms) Ht βt Ft W ∧
        ((jc = .ret ∧ finish P cfg f (mkS keep vals) lo Ht = some r) ∨ ∃ id k' j N, jc = .exit id ∧ exitToA id k = some k' ∧ j < m ∧ arun P cfg (denF P cfg j) f lo N k' (mkS keep vals) Ht = some r)
      have outer : ∀ {Ht βt Ft W k'}, Bst H0 β0 F0 w0 lv a keep vals cv q L (w.heap.size :: ms) Ht βt Ft W → (∀ l ∈ levelsOf lo k', l ∈ levelsOf lo k) → (∀ l ∈ levelsOf [] k', l ∈ levelsOf [] k) → (Dec lo k → Dec lo k') → St P (ntOf P f) H0 β0 F0 w0 k' lo Ht βt Ft W { a with defers := [coll w.heap.size] ++ a.defers } := by
        intro Ht βt Ft W k' hb h1 h2 h3
        exact ⟨hb.inv, hb.ext, (hlow2 _ hb.low).sub h1, fun b hb' => hst'.bs b (h2 b hb'), hst.size, ⟨w.heap.size :: ms, by simp [hms], hb.mks⟩, h3 hst'.dec⟩
      have hdts : P.underlying ts = some (.slice te) := sliceElem_inv hts
      obtain ⟨dte, hdte⟩ := Option.isSome_iff_exists.mp hte
      have hldS : ∀ {Ht βt Ft W}, Bst H0 β0 F0 w0 lv a keep vals cv q L (w.heap.size :: ms) Ht βt Ft W → ∀ {z}, ld false 1 q Ht = some z → ∃ v, (Instr.loadAt ts cv).run P W = .ok v W ∧ RA Ht βt Ft W v z := by
        intro Ht βt Ft W hb z hz
        exact ld_sound hb.inv hdts (by rw [hag, hcl]; exact hz) hb.rq
      obtain ⟨slv, hslv, hslr⟩ := hldS hB1 hsl
      obtain ⟨nn, hnn, hlen⟩ := loaded_len (ty' := 0) hts i1 hmm hslr
      have hi0' : i0 = I (IntKind.i64.wrap (nn - 1)) := by
        rw [hnn] at hi0
        simp only [bin, isShift, intOp] at hi0
        simpa using hi0.symm
      have hJ0 : J (IntKind.i64.wrap (nn - 1)) W1 := ⟨m, Nat.le_refl _, H, β, F, by rw [hi0'] at h; exact h, hB1, hL1⟩
      refine ⟨L, [coll w.heap.size], W1, { target := .fn (.func gf) #[cv], args := #[.func (.yield L) #[] #[]] }, W1, gf, #[.func (.yield L) #[] #[]] ++ #[cv], W1, ?_, ?_, fun _ _ => trivial, ?_, fun h => (by simp [FR, Fence.wide] at h), ?_⟩
      · rw [← hW1]; exact run_enterLoop_outer _ _ _ _ _
      · simp only [resolve, hgv]
        simp [Deferred.ofValue, Act.eval]
      · have hb2' : fnb.body.isNone = false := by
          cases hb : fnb.body with
          | none => rw [hb] at hb2; cases hb2
          | some b => rfl
        simp only [Sem.run_bind, Sem.run_pure, Result.andThen_ok, invoke, callFunc, run_program, hb1, hb3, hb2', Bool.false_eq_true, if_false]
      · refine (back L cv J Jx W1 nn ?_ ?_ ⟨slv, hslv, hlen⟩ hJ0).mono ?_
        · rintro i W ⟨j, hj, Ht, βt, Ft, e1, e2, e3⟩
          obtain ⟨d1, d2⟩ := e2.draw e3
          exact ⟨j, hj, Ht, βt, Ft, e1, d1, d2⟩
        · -- one round
          rintro i W ⟨j, hj, Ht, βt, Ft, e1, e2, e3⟩ hi
          cases j with
          | zero => cases e1
          | succ j =>
          have e1 : labRun P cfg (denF P cfg j) f (0 :: 0 :: keep) (.rf R :: k) (I i :: q :: vals) lo Ht = some r := e1
          simp only [labRun] at e1
          have hlt : bin .lss .int (I i) (I 0) = some (B false) := by
            simp only [bin, isShift, intOp]
            have : ¬ i < 0 := by omega
            simp [this]
          rw [hlt] at e1
          simp only [Option.bind_some, cond, truth] at e1
          rw [Option.bind_eq_some_iff] at e1
          obtain ⟨z1, hz1, e1⟩ := e1
          rw [Option.bind_eq_some_iff] at e1
          obtain ⟨z2, hz2, e1⟩ := e1
          rw [Option.bind_eq_some_iff] at e1
          obtain ⟨z3, hz3, e1⟩ := e1
          obtain ⟨v1, hv1, hv1'⟩ := hldS e2 hz1
          have hri : RA Ht βt Ft W (.int .i64 i) (I i) := .p (.v rfl)
          obtain ⟨v2, hv2, hv2'⟩ := idx_sound hdts hdte (A := z1) (I' := I i) (C := z2) (by rw [hcl2]; exact hz2) hv1' hri
          obtain ⟨v3, hv3, hv3'⟩ := ld_sound e2.inv hdte (by rw [hag2, hcl2]; exact hz3) hv2'
          refine ⟨v1, v2, v3, hv1, hv2, hv3, fn, _, x, y, run_yield e3 (by show _ = ps.size; rw [hps]; rfl), ?_⟩
          refine roundIn_of_wpIn (F := FR none) trivial ?_
          have hround := arnd_sound (P := P) (cfg := cfg) (O := denF P cfg j) (hall j (by omega)).1 (f := f) (r := r) (N := fuelN) (d := ⟨R, k, keep, I i, q, vals, lo⟩) (rc := fun st => rc st none)
            (Q := roundPost P L (fun e W' => (e = .returned (.bool true) ∧ J (IntKind.i64.wrap (i - 1)) W') ∨ (e = .returned (.bool false) ∧ Jx W')))
            (H0 := H0) (β0 := β0) (F0 := F0) (w0 := w0) (a0 := a) (keep := keep) (vals := vals) (cv := cv) (q := q) (L := L) (ms := w.heap.size :: ms) (fun _ => rfl) rfl
            (by
              intro a1 H1 β1 F1 w1 q1 q2 q3
              refine ⟨_, _, run_endRound none q3, .inl ⟨rfl, ?_⟩⟩
              have hsub : bin .sub .int (I i) (I 1) = some (I (IntKind.i64.wrap (i - 1))) := by simp [bin, isShift, intOp]
              have q1' := q1
              unfold rndOn at q1'
              simp only [hsub, Option.bind_some] at q1'
              split at q1'
              · rename_i hbn
                obtain ⟨b1, b2, b3⟩ := q2.put (.loop (rc .ready none)) q3 rfl
                exact ⟨j, by omega, H1, β1, F1, q1', b1, b2⟩
              · rename_i b hbn
                split at q1'
                · rename_i hal
                  obtain ⟨l1, l2, l3⟩ := hlvl b hbn
                  obtain ⟨b1, b2, b3⟩ := (q2.cut l1 l2 l3 hal).put (.loop (rc .ready none)) q3 rfl
                  exact ⟨j, by omega, _, _, F1, q1', b1, b2⟩
                · cases q1')
            (by
              intro a1 H1 β1 F1 w1 q1 q2 q3
              refine ⟨_, _, run_endRound (some .ret) q3, .inr ⟨rfl, ?_⟩⟩
              obtain ⟨b1, b2, b3⟩ := q2.put (.loop (rc .done (some .ret))) q3 rfl
              exact ⟨.ret, H1, β1, F1, b2, b1, .inl ⟨rfl, q1⟩⟩)
            (by
              intro a1 H1 β1 F1 w1 id k' q0 q1 q2 q3
              refine ⟨_, _, run_endRound (some (.exit id)) q3, .inr ⟨rfl, ?_⟩⟩
              obtain ⟨b1, b2, b3⟩ := q2.put (.loop (rc .done (some (.exit id)))) q3 rfl
              exact ⟨.exit id, H1, β1, F1, b2, b1, .inr ⟨id, k', j, fuelN, rfl, q0, by omega, q1⟩⟩)
            fuelN [.code x, .jn, .code y] (rngS ps (I i) z3 (mkS keep vals)) Ht βt Ft W { tmps := (ps.zip #[.int .i64 i, v3]).foldl (fun t (p, v) => t.setIfInBounds p v) a.tmps, defers := [] } e1 e2 e3
            (by rw [hps]; simp [hst.size]) (by
              have hsl : RS Ht βt Ft W a (mkS keep vals) := e2.rl.slots
              have e4 : rngS ps (I i) z3 (mkS keep vals) = setDst (some p2) z3 (setDst (some p1) (I i) (mkS keep vals)) := by rw [hps]; rfl
              have e5 : ({ tmps := (ps.zip #[.int .i64 i, v3]).foldl (fun t (p, v) => t.setIfInBounds p v) a.tmps, defers := [] } : Act).tmps = ((a.put (some p1) (.int .i64 i)).put (some p2) v3).tmps := by rw [hps]; simp [Act.put]
              have e6 : RS Ht βt Ft W ((a.put (some p1) (.int .i64 i)).put (some p2) v3) (rngS ps (I i) z3 (mkS keep vals)) := by
                rw [e4]
                exact (hsl.put hri (by intro t ht; cases ht; rw [hst.size]; exact hp1)).put hv3' (by intro t ht; cases ht; rw [size_put, hst.size]; exact hp2)
              intro t
              have := e6 t
              rw [← e5] at this
              exact this)
          simp only [Kr] at hround
          refine wpIn_mono hround ?_
          intro e a1 w1 hq
          cases e with
          | normal => exact hq
          | _ => exact hq
        · -- behind it
          rintro e W ⟨⟨v, rfl⟩, ⟨i, hi, j, hj, Ht, βt, Ft, e1, e2, e3⟩ | ⟨jc, Ht, βt, Ft, e3, e2, hcase⟩⟩
          · cases j with
            | zero => cases e1
            | succ j =>
            have e1 : labRun P cfg (denF P cfg j) f (0 :: 0 :: keep) (.rf R :: k) (I i :: q :: vals) lo Ht = some r := e1
            simp only [labRun] at e1
            have hlt : bin .lss .int (I i) (I 0) = some (B true) := by
              simp only [bin, isShift, intOp]
              simp [hi]
            rw [hlt] at e1
            simp only [Option.bind_some, cond, truth] at e1
            obtain ⟨b1, b2, b3⟩ := e2.put (.loop { rc .ready none with state := .exhausted }) e3 rfl
            refine ⟨none, _, run_endLoop e3 (by simp [rc]), ?_⟩
            exact after j (by omega) k vals keep fuelN Ht βt Ft _ _ e1 (outer b1 (fun _ h => h) (fun _ h => h) (fun h => h)) (b1.rl.act rfl)
          · obtain ⟨b1, b2, b3⟩ := e2.put (.loop { rc .done (some jc) with state := .exhausted }) e3 rfl
            refine ⟨some jc, _, run_endLoop e3 (by simp [rc]), ?_⟩
            rcases hcase with ⟨rfl, hf⟩ | ⟨id, k', j, N, rfl, hk', hj, hf⟩
            · refine wpIn_ret (Kwp.ret ?_ k)
              exact hend (mkS keep vals) Ht βt Ft _ _ hf (outer b1 (levels_end k) (fun l hl => by cases hl) (fun _ => trivial)) (b1.rl.act rfl).slots
            · refine wpIn_exit (Kwp.exit k k' hk' ?_)
              exact after j hj k' vals keep N Ht βt Ft _ _ hf (outer b1 (levels_suffix k k' id hk') (levels_suffix k k' id hk') (Dec.suffix k k' id hk')) (b1.rl.act rfl)
    · cases h
  · cases h

theorem entRun_sound {cfg : Cfg} {O : Oracle} (hx : ExtOk P cfg) (hO : EntOk P O) (hL : LabOk P cfg O) (hR : ∀ {f lo lo' H0 β0 F0 w0 r}, Ends P cfg f lo lo' H0 β0 F0 w0 r → RngWp P cfg O f lo lo' H0 β0 F0 w0 r) {lb : FuncId → List Nat → List It → List AV → List Nat → Heap → Res} : EntOk P { ent := entRun P cfg O, lab := lb } := by
  intro f args lo H rs H' h vs w β F hI hv hlo
  simp only [entRun] at h
  split at h
  · rename_i k hk
    obtain ⟨q1, q2, q3⟩ := hx f k hk O hO args lo H rs H' h vs w β F hI hv hlo
    exact ⟨.inl ⟨q1, q2.mono fun e w' ⟨v, β', F', e1, e2⟩ => ⟨v, e1, β', F', e2⟩⟩, q3⟩
  split at h
  · rename_i k hk
    rw [Option.map_eq_some_iff] at h
    obtain ⟨x, h1, h2⟩ := h
    cases h2
    obtain ⟨v, h2, h3, h4⟩ := prim_sound hk h1 hv
    exact ⟨.inr ⟨v, h2, ⟨β, F, h3, hI, Ext.refl _ _ _ _⟩, h4⟩, hlo⟩
  split at h
  · rename_i fn hf
    split at h
    · rename_i c hc
      split at h
      · rename_i hk
        simp only [Bool.and_eq_true] at hk
        obtain ⟨⟨hk1, hk2⟩, hk3⟩ := hk
        have hk1' := Nat.le_of_ble_eq_true hk1
        have hsz : vs.size = args.length := by simpa using hv.length
        have hmode0 : cfg.mode f = 0 → lo = [] ∧ H = [] := fun e => by
          rw [e] at hk3
          simpa [entOkB, List.isEmpty_iff] using hk3
        have hend := ends_sound (P := P) (cfg := cfg) hf hI hlo hk3 (r := (rs, H'))
        have hsub : ∀ l ∈ entLo (cfg.mode f) lo H, l ∈ lo ∨ l = H.length := by
          intro l hl
          unfold entLo at hl
          split at hl
          · cases hl
          · cases hl
          · exact .inl hl
          · exact .inl hl
          · exact .inl hl
          · exact .inl hl
          · rcases List.mem_cons.mp hl with e | e
            · exact .inr e
            · exact .inl e
        have hst : St P (ntOf P f) H β F w [.code c] (entLo (cfg.mode f) lo H) H β F w { tmps := vs ++ Array.replicate (fn.ntmps - vs.size) undef, defers := [] } := by
          refine ⟨hI, Ext.refl _ _ _ _, ?_, ?_, ?_, ⟨[], rfl, Mk.nil _ _ _⟩, trivial⟩
          · intro l hl
            rcases hsub l hl with e | e
            · exact hlo l e
            · subst e
              exact ⟨Nat.le_refl _, hI.low⟩
          · intro b hb; cases hb
          · simp [ntOf, hf]; omega
        have hw := arun_sound hO hL hend (hR hend) fuelN [.code c] _ H β F w _ h hst (args_slots hv fn.ntmps)
        refine ⟨.inl ⟨⟨fn, hf, by simp [hc], by simpa using hk2⟩, ?_⟩, ?_⟩
        · refine (callsIn_wide (n := 0)).1 (callsIn_of_wp_marks (F := FR none) hf hc trivial ?_)
          refine wpIn_mono hw (fun e a w' hq => ?_)
          have leaves : ∀ (ds : List Deferred) (tmps : Array Value) (w' w1 : World) (v : Value), Takes P ds w' w1 → (results fn tmps).run P w1 = .ok v w1 → (∃ β' F', RA H' β' F' w1 v (ret rs) ∧ Inv H' β' F' w1 ∧ Ext H β F w H' β' F' w1) →
              LeavesInM (FR none) 0 P fn tmps (fun e w' => ∃ v, e = .returned v ∧ ∃ β' F', RA H' β' F' w' v (ret rs) ∧ Inv H' β' F' w' ∧ Ext H β F w H' β' F' w') ds .returning w' := by
            intro ds
            induction ds with
            | nil => intro tmps w' w1 v ht hv' hr; cases ht; exact ⟨v, hv', v, rfl, hr⟩
            | cons d ds ih =>
              intro tmps w' w1 v ht hv' hr
              obtain ⟨rr, w2, t1, t2, t3⟩ := ht
              exact ⟨by simp, .inl ⟨rr, w2, t1, t2, ih tmps w2 w1 v t3 hv' hr⟩⟩
          have key : ∀ a w', Fin P f lo H β F w (rs, H') a w' → LeavesInM (FR none) 0 P fn a.tmps (fun e w' => ∃ v, e = .returned v ∧ ∃ β' F', RA H' β' F' w' v (ret rs) ∧ Inv H' β' F' w' ∧ Ext H β F w H' β' F' w') a.defers .returning w' := by
            intro a w' hq
            obtain ⟨w1, q1, fn', q2, v, q3, β', F', q4, q5, q6, q7⟩ := hq
            rw [hf] at q2
            cases q2
            exact leaves _ _ _ _ v q1 q3 ⟨β', F', q4, q5, q6⟩
          cases e with
          | normal => exact key _ _ hq
          | ret => exact key _ _ hq
          | _ => exact hq.elim
        · have hfin : ∃ a w', Fin P f lo H β F w (rs, H') a w' := by
            obtain ⟨e, a, w', hq, _⟩ := hw (default : Frame) [] [] rfl trivial (roomFR _)
            cases e with
            | normal => exact ⟨a, w', hq⟩
            | ret => exact ⟨a, w', hq⟩
            | _ => exact hq.elim
          obtain ⟨a, w', _, _, _, _, _, _, _, _, _, _, _, h7⟩ := hfin
          exact h7
      · cases h
    · cases h
  · cases h

theorem labRun_sound {cfg : Cfg} {O : Oracle} (hO : EntOk P O) (hL : LabOk P cfg O) (hR : ∀ {f lo lo' H0 β0 F0 w0 r}, Ends P cfg f lo lo' H0 β0 F0 w0 r → RngWp P cfg O f lo lo' H0 β0 F0 w0 r) {en : FuncId → List AV → List Nat → Heap → Res} : LabOk P cfg { ent := en, lab := labRun P cfg O } := by
  intro f keep todo vals lo H r h H0 β0 F0 w0 β F w a hst hr lo' hend
  simp only [labRun] at h
  split at h
  · rename_i c b k
    have := arun_sound hO hL hend (hR hend) fuelN _ _ H β F w a h (hst.mono (fun _ h => h) (fun _ h => h) (fun h => h)) hr.slots
    refine loopWp_of_body ?_
    rw [thenLoop_kwp (b := b)]
    exact this
  · trivial
  · exact arun_sound hO hL hend (hR hend) fuelN _ _ H β F w a h hst hr.slots

theorem denF_sound (P : Program) (cfg : Cfg) (hx : ExtOk P cfg) (hg : RngOk P cfg) : ∀ n, EntOk P (denF P cfg n) ∧ LabOk P cfg (denF P cfg n) := by
  intro n
  induction n using Nat.strongRecOn with
  | _ n ih =>
    cases n with
    | zero => exact ⟨fun _ _ _ _ _ _ h => (by cases h), fun _ _ _ _ _ _ _ h => (by cases h)⟩
    | succ n =>
      have hR : ∀ {f lo lo' H0 β0 F0 w0 r}, Ends P cfg f lo lo' H0 β0 F0 w0 r → RngWp P cfg (denF P cfg n) f lo lo' H0 β0 F0 w0 r := fun h => rng_wp hg n (fun j hj => ih j (by omega)) h
      exact ⟨entRun_sound hx (ih n (by omega)).1 (ih n (by omega)).2 hR, labRun_sound (ih n (by omega)).1 (ih n (by omega)).2 hR⟩

end
end Go.AM
