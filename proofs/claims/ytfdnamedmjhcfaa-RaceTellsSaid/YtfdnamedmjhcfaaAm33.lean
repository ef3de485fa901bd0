/-
slices.Sort at []int, as the shelf has it.
-/
import Derived.Test.YtfdnamedmjhcfaaAm29
import Derived.Shelf.Sort.Plain
import Derived.Shelf.Slices.In.SortNone
set_option linter.unusedVariables false
set_option linter.unusedSimpArgs false
set_option linter.unusedSectionVars false
namespace Go.AM
variable [Know]
open Go.Proofs Go.Shelf Go.RowKit Go.Lib Go.Sort

section
variable {w : World} {b o m : Nat} {dk : Array Int} {os : Array Obj}
theorem putCellsI_getD (o : Nat) (d : Array Int) (c : Array Value) (j : Nat) : (putCells (Value.int .i64) o d c).getD j undef = if o ≤ j ∧ j < o + d.size ∧ j < c.size then .int .i64 d[j - o]! else c.getD j undef := by
  unfold putCells
  by_cases hj : j < c.size
  · simp only [Array.getD_eq_getD_getElem?, Array.getElem?_mapIdx, Array.getElem?_eq_getElem hj, Option.map_some, Option.getD_some, hj, and_true]
  · simp only [Array.getD_eq_getD_getElem?, Array.getElem?_mapIdx, Array.getElem?_eq_none (Nat.not_lt.mp hj), Option.map_none, hj, and_false, if_false]

theorem intsW_block {c : Array Value} {e : TypeId} (hb : w.heap[b]? = some (.cells c e (0, 0))) : (grow (putRow (Value.int .i64) (Sort.ahead w m) b o dk) os).heap[b]? = some (.cells (putCells (Value.int .i64) o dk c) e (0, 0)) := by
  have hlt : b < w.heap.size := block_lt hb
  unfold putRow mapBlock grow Sort.ahead
  simp only
  rw [Array.getElem?_append_left (by simpa using hlt), Array.getElem?_modify]
  simp [hb, onCells]

theorem intsW_touch : Touch w (grow (putRow (Value.int .i64) (Sort.ahead w m) b o dk) os) (fun j => j = b) := by
  refine ⟨rfl, rfl, rfl, ?_, ?_, fun j hj hn => ?_⟩
  · unfold putRow mapBlock grow Sort.ahead
    simp
  · show w.drawn ≤ w.drawn + m; omega
  · unfold putRow mapBlock grow Sort.ahead
    simp only
    rw [Array.getElem?_append_left (by simpa using hj), Array.getElem?_modify]
    rw [if_neg (fun e => hn e.symm)]

theorem intsOf_inv : ∀ (xs : List PV) (zs : List Int), intsOf xs = some zs → xs = zs.map fun z => .v (.int .i64 z) := by
  intro xs
  induction xs with
  | nil => intro zs h; cases h; rfl
  | cons x xs ih =>
    intro zs h
    unfold intsOf at h
    split at h
    · rename_i heq; cases heq
    · rename_i n ys heq
      cases heq
      rw [Option.map_eq_some_iff] at h
      obtain ⟨r, h1, rfl⟩ := h
      rw [List.map_cons, ← ih r h1]
    · cases h
theorem intsOf_map : ∀ zs : List Int, intsOf (zs.map fun z => .v (.int .i64 z)) = some zs := by
  intro zs
  induction zs with
  | nil => rfl
  | cons z zs ih => simp only [List.map_cons, intsOf, ih, Option.map_some]
end

section
variable {P : Program} {cfg : Cfg} {O : Oracle} {H : Heap} {β : Beta} {F : Frz} {w : World}

variable (P) in
def IntsC (f : FuncId) : Prop := ∀ (blk off cap : Nat) (zs : List Int) (w : World), Holds (Value.int .i64) w blk off zs.toArray → blk < w.heap.size → zs.length < 4611686018427387904 →
  Calls P f #[.slice (some ⟨blk, off, none⟩) zs.length cap] w fun e w' => e = .returned (.tuple #[]) ∧ ∃ n os, w' = grow (putRow (Value.int .i64) (Sort.ahead w n) blk off (zs.mergeSort fun x y => decide (x ≤ y)).toArray) os
variable (P) in
def IntsN (f : FuncId) : Prop := ∀ (p : Option Addr) (cap : Nat) (w : World), Calls P f #[.slice p 0 cap] w fun e w' => e = .returned (.tuple #[]) ∧ w' = w

theorem ints_sound {f : FuncId} (hf : ∃ fn, P.funcs[f]? = some fn ∧ fn.body.isSome = true ∧ (fn.name == "runtime.NumGoroutine") = false) (hS : IntsC P f) (hN : IntsN P f) {args : List AV} {lo : List Nat} {rs : List AV} {H' : Heap} (h : intsRun args H = some (rs, H')) {vs : Array Value} (hI : Inv H β F w) (hv : RAs H β F w vs.toList args) (hlo : LowAll lo H) :
    (∃ fn, P.funcs[f]? = some fn ∧ fn.body.isSome = true ∧ (fn.name == "runtime.NumGoroutine") = false) ∧
    Calls P f vs w (fun e w' => ∃ v β' F', e = .returned v ∧ RA H' β' F' w' v (ret rs) ∧ Inv H' β' F' w' ∧ Ext H β F w H' β' F' w') ∧ LowAll lo H' := by
  have un : ∀ (H : Heap) (β : Beta) (F : Frz) (w : World), RA H β F w (.tuple #[]) (ret []) := fun _ _ _ _ => .tup rfl fun i hi => by simp at hi
  obtain ⟨l⟩ := vs
  unfold intsRun at h
  split at h
  · cases h
    cases hv with
    | @cons vx _ _ _ hx hv =>
      cases hv
      have hsl : ∃ a c, vx = Value.slice a 0 c := by
        cases hx with
        | p hx =>
          cases hx with
          | nil => exact ⟨_, _, rfl⟩
          | emp => exact ⟨_, _, rfl⟩
          | sl => exact ⟨_, _, rfl⟩
      obtain ⟨a, c, rfl⟩ := hsl
      refine ⟨hf, (hN a c w).mono fun e w' hh => ?_, hlo⟩
      obtain ⟨rfl, rfl⟩ := hh
      exact ⟨_, β, F, rfl, un _ _ _ _, hI, Ext.refl _ _ _ _⟩
  · rename_i id g off n
    split at h
    · rename_i g' sz' xs ho
      split at h
      · rename_i hc
        obtain ⟨hg0, hs0, hle, hn0, hn40⟩ := hc
        subst hs0
        have hg1 : g = g' := hg0.symm
        subst hg1
        rw [Option.bind_eq_some_iff] at h
        obtain ⟨zs, hz, h⟩ := h
        cases h
        have hzs := intsOf_inv _ _ hz
        have hzl : zs.length = n := by
          have := congrArg List.length hzs
          simp only [List.length_take, List.length_drop, List.length_map] at this
          omega
        cases hv with
        | cons hx hv =>
          cases hv
          cases hx with
          | row hl0 ho' hg hr0 =>
            rw [ho] at ho'
            cases ho'
            have hr' := hr0 rfl
            unfold RowAt at hr'
            split at hr'
            · rename_i hβ
              obtain ⟨hz, _⟩ := hr'
              omega
            · rename_i b s t hb
              obtain ⟨A, cp, rfl, hA, h5, h6, h7⟩ := hr'
              rcases hA with rfl | ⟨hz, _⟩
              · rcases hI.obj id _ ho with ⟨_, k1⟩ | ⟨b', s', t'', c, e5, k1, k2, k3, k4, k5⟩
                · rw [hb] at k1; cases k1
                · rw [hb] at k1
                  cases k1
                  have hX : ∀ i (hi : i < n), xs[off + i]? = some (.v (.int .i64 (zs[i]'(by omega)))) := fun i hi => by
                    have := congrArg (fun l => l[i]?) hzs
                    simp only [List.getElem?_take, List.getElem?_drop, List.getElem?_map, if_pos hi] at this
                    rw [this, List.getElem?_eq_getElem (by omega)]
                    rfl
                  have hval : ∀ i (hi : i < n), c.getD (s + off + i) undef = .int .i64 (zs[i]'(by omega)) := fun i hi => by
                    have hlt : off + i < xs.length := by omega
                    have h1 := k5 (off + i) hlt
                    have h2 := hX i hi
                    rw [List.getElem?_eq_getElem hlt] at h2
                    rw [Option.some.inj h2] at h1
                    rw [show s + off + i = s + (off + i) by omega]
                    generalize c.getD (s + (off + i)) undef = v at h1
                    cases h1
                    rfl
                  have hH : Holds (Value.int .i64) w b (s + off) zs.toArray := by
                    intro j hj
                    have hj' : j < n := by simpa [hzl] using hj
                    refine ⟨?_, frozen_no k2⟩
                    rw [cell_in k2 (by omega)]
                    congr 1
                    have e : zs.toArray[j]! = zs[j]'(by omega) := by
                      rw [getElem!_pos zs.toArray j hj]
                      simp
                    rw [e, ← hval j hj', Array.getD_eq_getD_getElem?, Array.getElem?_eq_getElem (by omega)]
                  have main := hS b (s + off) cp zs w hH (block_lt k2) (by omega)
                  rw [hzl] at main
                  refine ⟨hf, main.mono fun e w' hh => ?_, hlo.set_row⟩
                  obtain ⟨rfl, n', os, rfl⟩ := hh
                  have hTo := (intsW_touch (w := w) (b := b) (o := s + off) (m := n') (dk := (zs.mergeSort fun x y => decide (x ≤ y)).toArray) (os := os))
                  have hbk := intsW_block (w := w) (b := b) (o := s + off) (m := n') (dk := (zs.mergeSort fun x y => decide (x ≤ y)).toArray) (os := os) k2
                  have hml : (zs.mergeSort fun x y => decide (x ≤ y)).length = n := by rw [List.length_mergeSort, hzl]
                  generalize (zs.mergeSort fun x y => decide (x ≤ y)) = ms at *
                  generalize grow (putRow (Value.int .i64) (Sort.ahead w n') b (s + off) ms.toArray) os = W' at *
                  have hnl : (ms.map fun z => PV.v (.int .i64 z)).length = n := by simp [hml]
                  obtain ⟨i1, i2⟩ := Inv.update (w' := W') (F' := F) (o' := .row g 1 (splice xs off (ms.map fun z => PV.v (.int .i64 z)))) (nb := β id) hI ho (hTo.own hb) (fun b2 s2 t2 e2 => ⟨.inr ⟨s2, t2, e2⟩, fun j => hI.own _ _ _ _ _ e2⟩)
                    ⟨rfl, Nat.le_refl _, fun _ => ⟨splice_length _ _ _, updB_same _ _ _⟩⟩ (fun _ _ h => h) (fun _ _ h => .inl h) (fz_later hI hb hTo) (fun hE => by
                      refine .inr ⟨b, s, t, _, e5, by rw [updB_same, hb], hbk, by simp [putCells, k3], by rw [splice_length]; exact k4, fun i hi => ?_⟩
                      rw [splice_length] at hi
                      have hg := splice_get (ms.map fun z => PV.v (.int .i64 z)) xs off i (by omega)
                      rw [List.getElem?_eq_getElem (by rw [splice_length]; exact hi)] at hg
                      rw [putCellsI_getD]
                      simp only [List.size_toArray, hml]
                      by_cases hin : off ≤ i ∧ i < off + (ms.map fun z => PV.v (.int .i64 z)).length
                      · rw [if_pos hin] at hg
                        rw [hnl] at hin
                        rw [if_pos (by omega)]
                        have hk : i - off < ms.length := by omega
                        rw [List.getElem?_map, List.getElem?_eq_getElem hk] at hg
                        simp only [Option.map_some, Option.some.injEq] at hg
                        rw [hg, show s + i - (s + off) = i - off by omega, getElem!_pos ms.toArray (i - off) (by simpa using hk)]
                        exact .v rfl
                      · rw [if_neg hin] at hg
                        rw [hnl] at hin
                        rw [if_neg (by omega)]
                        rw [List.getElem?_eq_getElem hi] at hg
                        simp only [Option.some.injEq] at hg
                        rw [hg]
                        exact (k5 i hi).ext hI hE)
                  exact ⟨_, _, F, rfl, un _ _ _ _, i1, i2⟩
              · omega
      · cases h
    · cases h
  · cases h

theorem intsC_of {ρ : Ren} (L : Lays.n189 P ρ) : IntsC P (ρ.f 189) := fun blk off cap zs w hH hb hs => Any.slices_Sort_int L blk off cap zs w hH hb hs
theorem intsN_of {ρ : Ren} (L : Lays.n189 P ρ) : IntsN P (ρ.f 189) := fun p cap w => Any.slices_Sort_int_none L p cap w

theorem ExtOk.oneInts {f : FuncId} (h : ∀ g q, cfg.ext g = some q → g = f ∧ q = .ints) (hf : ∃ fn, P.funcs[f]? = some fn ∧ fn.body.isSome = true ∧ (fn.name == "runtime.NumGoroutine") = false) (hS : IntsC P f) (hN : IntsN P f) : ExtOk P cfg := by
  intro g q hg O hO args lo H rs H' he vs w β F hI hv hlo
  obtain ⟨rfl, rfl⟩ := h g q hg
  exact ints_sound hf hS hN he hI hv hlo
end

/-- A row of numbers sorted. -/
theorem ints_run {cfg : Cfg} {O : Oracle} {id g : Nat} {H : Heap} {zs : List Int} (ho : H[id]? = some (.row g 1 (zs.map Ia))) (h0 : 0 < zs.length) (hn : zs.length < 2 ^ 40) :
    extRun cfg O .ints [.row id g 0 zs.length] H = some ([], H.set id (.row g 1 ((zs.mergeSort fun x y => decide (x ≤ y)).map Ia))) := by
  have hz : intsOf (((zs.map Ia).drop 0).take zs.length) = some zs := by
    rw [List.drop_zero, List.take_of_length_le (by simp)]
    exact intsOf_map zs
  simp only [extRun, intsRun, ho]
  rw [if_pos ⟨trivial, trivial, by simp, h0, hn⟩, hz]
  simp only [obs]
  rw [splice_all (by simp)]
end Go.AM
