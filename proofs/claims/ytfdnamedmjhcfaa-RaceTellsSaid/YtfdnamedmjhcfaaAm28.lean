/-
slices.SortFunc, as the shelf has it.
-/
import Derived.Test.YtfdnamedmjhcfaaAm27
import Derived.Shelf.SlSortCmp.InsertionK
import Derived.Sort.AssemblyPlain
import Derived.Shelf.Abstract
set_option linter.unusedVariables false
set_option linter.unusedSimpArgs false
set_option linter.unusedSectionVars false
namespace Go.AM
variable [Know]
open Go.Proofs Go.Shelf Go.RowKit Go.Lib Go.Sort

section
variable {P : Program} {α : Type} [Inhabited α] {enc : α → List Value} {k : Nat} {w : World} {b o m : Nat} {dk : Array α} {os : Array Obj}

theorem putCells_getD (o : Nat) (d c : Array Value) (j : Nat) : (putCells id o d c).getD j undef = if o ≤ j ∧ j < o + d.size ∧ j < c.size then d[j - o]! else c.getD j undef := by
  unfold putCells
  by_cases hj : j < c.size
  · simp only [Array.getD_eq_getD_getElem?, Array.getElem?_mapIdx, Array.getElem?_eq_getElem hj, Option.map_some, Option.getD_some, id, hj, and_true]
  · simp only [Array.getD_eq_getD_getElem?, Array.getElem?_mapIdx, Array.getElem?_eq_none (Nat.not_lt.mp hj), Option.map_none, hj, and_false, if_false]

theorem sortW_block {c : Array Value} {e : TypeId} (hb : w.heap[b]? = some (.cells c e (0, 0))) : (sortWorldK enc k w b o m dk os).heap[b]? = some (.cells (putCells id o (flatK enc k dk) c) e (0, 0)) := by
  have hlt : b < w.heap.size := block_lt hb
  unfold sortWorldK putRowK putRow mapBlock grow Sort.ahead
  simp only
  rw [Array.getElem?_append_left (by simpa using hlt), Array.getElem?_modify]
  simp [hb, onCells]

theorem sortW_touch : Touch w (sortWorldK enc k w b o m dk os) (fun j => j = b) := by
  refine ⟨rfl, rfl, rfl, ?_, ?_, fun j hj hn => ?_⟩
  · exact size_sortWorldK_c enc k w b o m dk os
  · show w.drawn ≤ w.drawn + m; omega
  · unfold sortWorldK putRowK putRow mapBlock grow Sort.ahead
    simp only
    rw [Array.getElem?_append_left (by simpa using hj), Array.getElem?_modify]
    rw [if_neg (fun e => hn e.symm)]

/-- What is only longer, and has drawn. -/
theorem grow_of {w w' : World} (h1 : w'.os = w.os) (h2 : w'.tape = w.tape) (h3 : w'.output = w.output) (h4 : w.heap.size ≤ w'.heap.size) (h5 : w.drawn ≤ w'.drawn) (h6 : ∀ j, j < w.heap.size → w'.heap[j]? = w.heap[j]?) : ∃ q os', w' = grow (w.drewN q) os' := by
  refine ⟨w'.drawn - w.drawn, w'.heap.extract w.heap.size w'.heap.size, ?_⟩
  obtain ⟨hp, tp, dr, so, ou⟩ := w'
  obtain ⟨hp0, tp0, dr0, so0, ou0⟩ := w
  simp only at h1 h2 h3 h4 h5 h6
  subst h1 h2 h3
  unfold grow World.drewN
  simp only
  congr 1
  · apply Array.ext_getElem?
    intro j
    by_cases hj : j < hp0.size
    · rw [Array.getElem?_append_left hj]; exact h6 j hj
    · rw [Array.getElem?_append_right (by omega), Array.getElem?_extract]
      by_cases hj2 : j < hp.size
      · rw [if_pos (by omega)]
        congr 1
        omega
      · rw [if_neg (by omega), Array.getElem?_eq_none (by omega)]
  · omega
end

section
variable {P : Program} {cfg : Cfg} {O : Oracle} {H : Heap} {β : Beta} {F : Frz} {w : World}

theorem fz_cell (hI : Inv H β F w) {W : World} {id b s t : Nat} (hb : β id = some (b, s, t)) (hT : Touch w W (fun j => j = b)) : ∀ b' j, F b' j → W.cell? ⟨b', j, none⟩ = w.cell? ⟨b', j, none⟩ := by
  intro b' j hj
  exact World.cell?_of_block (w := w) (hT.block b' (hI.lt hj) fun e => hI.own _ _ _ _ j hb (e ▸ hj))

theorem ras_of {H : Heap} {β : Beta} {F : Frz} {w : World} : ∀ (xs : List AV) (vs : List Value), vs.length = xs.length → (∀ i (hi : i < xs.length), RA H β F w (vs.getD i undef) xs[i]) → RAs H β F w vs xs := by
  intro xs
  induction xs with
  | nil =>
    intro vs h _
    cases vs with
    | nil => exact .nil
    | cons => simp at h
  | cons x xs ih =>
    intro vs h hr
    cases vs with
    | nil => simp at h
    | cons v vs =>
      refine .cons (hr 0 (by simp)) (ih vs (by simpa using h) fun i hi => ?_)
      exact hr (i + 1) (by simpa using hi)

theorem ra_agg {H : Heap} {β : Beta} {F : Frz} {w : World} {vs : List Value} {xs : List PV} (h : RPs F w vs xs) : RA H β F w (.agg vs.toArray) (.agg (xs.map .p)) := by
  obtain ⟨h1, h2⟩ := h.get
  refine .agg (by simp [h1]) fun i hi => ?_
  have hi' : i < xs.length := by simpa using hi
  have := h2 i hi'
  rw [List.getElem_map]
  have e : vs.toArray.getD i undef = vs.getD i undef := by simp [Array.getD_eq_getD_getElem?, List.getD_eq_getElem?_getD]
  rw [e]
  exact .p this

theorem RAs.app {H : Heap} {β : Beta} {F : Frz} {w : World} {vs us : List Value} {xs ys : List AV} (h : RAs H β F w vs xs) (k : RAs H β F w us ys) : RAs H β F w (vs ++ us) (xs ++ ys) := by
  induction h with
  | nil => exact k
  | cons h _ ih => exact .cons h ih

theorem cmp_lays (hO : EntOk P O) (hI : Inv H β F w) {id b s t : Nat} (hb : β id = some (b, s, t)) {n k o : Nat} {cm : FuncId} {cap : List AV} {cb : Array Value} (hcb : RAs H β F w cb.toList cap) (hcl : cap.all (AV.ltd 0) = true)
    {enc : _root_.Fin (n + 1) → List Value} {cells : _root_.Fin (n + 1) → List PV} (hR : ∀ i, RPs F w (enc i) (cells i)) {cf : _root_.Fin (n + 1) → _root_.Fin (n + 1) → Int} (hcf : ∀ i j, cmpOne cfg O (.fn cm [] cap) (elemA true (cells i)) (elemA true (cells j)) = some (cf i j)) :
    CmpLays P cm cb enc k cf b o (n + 1) w ∧ ∃ fn, P.funcs[cm]? = some fn ∧ fn.body.isSome = true ∧ (fn.name == "runtime.NumGoroutine") = false := by
  have key : ∀ (W : World), Touch w W (fun j => j = b) → ∀ x y : _root_.Fin (n + 1), (∃ fn, P.funcs[cm]? = some fn ∧ fn.body.isSome = true ∧ (fn.name == "runtime.NumGoroutine") = false) ∧
      Calls P cm (#[.agg (enc x).toArray, .agg (enc y).toArray] ++ cb) W fun e w' => e = .returned (.int .i64 (cf x y)) ∧ ∃ q os', w' = grow (W.drewN q) os' := by
    intro W hT x y
    have hw := fz_cell hI hb hT
    have hI0 : Inv [] noB F W := ⟨fun id o ho => by simp at ho, fun _ _ _ _ _ _ _ _ e _ => (by cases e), fun _ _ => rfl, fun b' j hj => by rw [hw b' j hj]; exact hI.fz b' j hj, fun _ _ _ _ _ e => (by cases e), fun b' j v e => ⟨(hI.kn b' j v e).1, (hw b' j (hI.kn b' j v e).1).trans (hI.kn b' j v e).2⟩⟩
    have h := hcf x y
    unfold cmpOne at h
    rw [Option.bind_eq_some_iff] at h
    obtain ⟨⟨r, H1⟩, h1, h2⟩ := h
    have hr : r = .p (.v (.int .i64 (cf x y))) ∧ H1 = [] := by
      split at h2
      · rename_i z heq
        cases heq
        cases h2
        exact ⟨rfl, rfl⟩
      · cases h2
    obtain ⟨rfl, rfl⟩ := hr
    have hcaps : RAs [] noB F W cb.toList cap := by
      have : ∀ (vs : List Value) (xs : List AV), RAs H β F w vs xs → xs.all (AV.ltd 0) = true → RAs [] noB F W vs xs := by
        intro vs xs hh
        induction hh with
        | nil => intro _; exact .nil
        | cons h _ ih =>
          intro hc
          rw [List.all_cons, Bool.and_eq_true] at hc
          exact .cons ((h.pure (lt_sound 0 6 _ hc.1) : RA [] noB F w _ _).mono (Grow.refl _ _) (fun _ _ h => h) hw) (ih hc.2)
      exact this _ _ hcb hcl
    have he : ∀ i, RA [] noB F W (.agg (enc i).toArray) (elemA true (cells i)) := fun i => ra_agg ((hR i).mono fun v x h => h.mono (fun _ _ h => h) hw)
    have hv : RAs [] noB F W ((#[Value.agg (enc x).toArray, Value.agg (enc y).toArray] : Array Value) ++ cb).toList ([] ++ [elemA true (cells x), elemA true (cells y)] ++ cap) := by
      have := RAs.app (.cons (he x) (.cons (he y) .nil)) hcaps
      simpa using this
    obtain ⟨kk, _⟩ := callA_sound hO hI0 (show callA cfg O cm ([] ++ [elemA true (cells x), elemA true (cells y)] ++ cap) [] [] = some (.p (.v (.int .i64 (cf x y))), []) from h1) hv (fun l hl => by simp at hl)
    obtain ⟨k1, k2⟩ := kk.code fun v w' hh => by
      obtain ⟨β', F', q1, _⟩ := hh
      have e1 := (RA.v_inv q1).1
      subst e1
      exact ⟨fun b e => (by cases e), fun n e => (by cases e)⟩
    refine ⟨k1, k2.mono fun e w' hh => ?_⟩
    obtain ⟨v, rfl, β', F', q1, q2, q3⟩ := hh
    have e1 := RA.v_inv q1
    rw [e1.1]
    exact ⟨rfl, grow_of q3.os q3.tape q3.output q3.size q3.drawn fun j hj => q3.block j hj fun _ _ _ e => by cases e⟩
  refine ⟨fun m os dk hs x y => (key _ sortW_touch x y).2, (key w (Touch.refl w _) 0 0).1⟩

theorem rps_of {F : Frz} {w : World} : ∀ (xs : List PV) (vs : List Value), vs.length = xs.length → (∀ i (hi : i < xs.length), RP F w (vs.getD i undef) xs[i]) → RPs F w vs xs := by
  intro xs
  induction xs with
  | nil =>
    intro vs h _
    cases vs with
    | nil => exact .nil
    | cons => simp at h
  | cons x xs ih =>
    intro vs h hr
    cases vs with
    | nil => simp at h
    | cons v vs => exact .cons (hr 0 (by simp)) (ih vs (by simpa using h) fun i hi => hr (i + 1) (by simpa using hi))

theorem RPs.flat {F : Frz} {w : World} {ι : Type} {f : ι → List Value} {g : ι → List PV} (h : ∀ i, RPs F w (f i) (g i)) : ∀ l : List ι, RPs F w (l.flatMap f) (l.flatMap g) := by
  have app : ∀ {a b : List Value} {x y : List PV}, RPs F w a x → RPs F w b y → RPs F w (a ++ b) (x ++ y) := by
    intro a b x y h k
    induction h with
    | nil => exact k
    | cons h _ ih => exact .cons h ih
  intro l
  induction l with
  | nil => exact .nil
  | cons i l ih => rw [List.flatMap_cons, List.flatMap_cons]; exact app (h i) ih

theorem cmpRow_get {cl a : AV} : ∀ (bs : List AV) (zs : List Int), cmpRow cfg O cl a bs = some zs → ∀ j (hj : j < bs.length), cmpOne cfg O cl a bs[j] = some (zs.getD j 0) := by
  intro bs
  induction bs with
  | nil => intro zs _ j hj; simp at hj
  | cons b bs ih =>
    intro zs h j hj
    simp only [cmpRow, Option.bind_eq_some_iff] at h
    obtain ⟨z, h1, zs', h2, h3⟩ := h
    cases h3
    cases j with
    | zero => simpa using h1
    | succ j => simpa using ih zs' h2 j (by simpa using hj)
theorem cmpTab_get {cl : AV} {all : List AV} : ∀ (l : List AV) (tab : List (List Int)), cmpTab cfg O cl all l = some tab → ∀ i j (hi : i < l.length) (hj : j < all.length), cmpOne cfg O cl l[i] all[j] = some ((tab.getD i []).getD j 0) := by
  intro l
  induction l with
  | nil => intro tab _ i j hi; simp at hi
  | cons a l ih =>
    intro tab h i j hi hj
    simp only [cmpTab, Option.bind_eq_some_iff] at h
    obtain ⟨r, h1, rs, h2, h3⟩ := h
    cases h3
    cases i with
    | zero => simpa using cmpRow_get all r h1 j hj
    | succ i => simpa using ih rs h2 i j (by simpa using hi) hj

variable (P) in
/-- What the shelf says of slices.SortFunc at rows of k cells. -/
def SortC (f : FuncId) (k : Nat) : Prop := ∀ (n : Nat) (enc : _root_.Fin (n + 1) → List Value), (∀ x, (enc x).length = k) → (∀ x, ∀ v ∈ enc x, v.oneCell' = true) → ∀ (cf : _root_.Fin (n + 1) → _root_.Fin (n + 1) → Int), SWO (ltOf cf) →
  ∀ (g : Nat) (cb : Array Value) (blk off cap : Nat) (d : Array (_root_.Fin (n + 1))) (w : World), (∀ args w, (callFunc g args).run P w = .ok (.enter g args) w) → CmpLays P g cb enc k cf blk off d.size w → HoldsK enc k w blk off d → blk < w.heap.size → d.size < 4611686018427387904 →
    Calls P f #[.slice (some ⟨blk, off, none⟩) d.size cap, .func (.func g) #[] cb] w fun e w' =>
      e = .returned (.tuple #[]) ∧ ∃ n os, w' = sortWorldK enc k w blk off n (pdq (ltOf cf) d 0 d.size (Lib.bitLen d.size) true true) os
variable (P) in
def SortN (f : FuncId) : Prop := ∀ (p : Option Addr) (cap : Nat) (fv : Value) (w : World), Calls P f #[.slice p 0 cap, fv] w fun e w' => e = .returned (.tuple #[]) ∧ w' = w

theorem rowAt_len {k i n : Nat} {xs : List PV} (h : n * k ≤ xs.length) (hi : i < n) : (rowAt k xs i).length = k := by
  unfold rowAt
  have : (i + 1) * k ≤ n * k := Nat.mul_le_mul_right k hi
  rw [Nat.add_mul] at this
  rw [List.length_take, List.length_drop]
  omega

theorem leafy_one {v : Value} (h : leafyV v = true) : v.oneCell' = true := by
  cases v <;> first | rfl | cases h

theorem sort_sound (hO : EntOk P O) {f : FuncId} {k : Nat} (hf : ∃ fn, P.funcs[f]? = some fn ∧ fn.body.isSome = true ∧ (fn.name == "runtime.NumGoroutine") = false) (hS : SortC P f k) (hN : SortN P f) {args : List AV} {lo : List Nat} {rs : List AV} {H' : Heap} (h : sortRun cfg O (true, k) args H = some (rs, H')) {vs : Array Value} (hI : Inv H β F w) (hv : RAs H β F w vs.toList args) (hlo : LowAll lo H) :
    (∃ fn, P.funcs[f]? = some fn ∧ fn.body.isSome = true ∧ (fn.name == "runtime.NumGoroutine") = false) ∧
    Calls P f vs w (fun e w' => ∃ v β' F', e = .returned v ∧ RA H' β' F' w' v (ret rs) ∧ Inv H' β' F' w' ∧ Ext H β F w H' β' F' w') ∧ LowAll lo H' := by
  have un : ∀ (H : Heap) (β : Beta) (F : Frz) (w : World), RA H β F w (.tuple #[]) (ret []) := fun _ _ _ _ => .tup rfl fun i hi => by simp at hi
  obtain ⟨l⟩ := vs
  unfold sortRun at h
  split at h
  · cases h
    cases hv with
    | @cons vx _ _ _ hx hv =>
      cases hv with
      | @cons vc _ _ _ hc hv =>
        cases hv
        have hsl : ∃ a c, vx = Value.slice a 0 c := by
          cases hx with
          | p hx =>
            cases hx with
            | nil => exact ⟨_, _, rfl⟩
            | emp => exact ⟨_, _, rfl⟩
            | sl => exact ⟨_, _, rfl⟩
        obtain ⟨a, c, rfl⟩ := hsl
        refine ⟨hf, (hN a c vc w).mono fun e w' hh => ?_, hlo⟩
        obtain ⟨rfl, rfl⟩ := hh
        exact ⟨_, β, F, rfl, un _ _ _ _, hI, Ext.refl _ _ _ _⟩
  · rename_i id g off n cm cap
    split at h
    · rename_i g' sz' xs ho
      split at h
      · rename_i hc
        obtain ⟨hg0, hs0, hk0, hle, hn0, hn40, hcl⟩ := hc
        have hs1 : k = sz' := hs0.symm
        subst hs1
        have hg1 : g = g' := hg0.symm
        subst hg1
        obtain ⟨m, rfl⟩ : ∃ m, n = m + 1 := ⟨n - 1, by omega⟩
        simp only at hk0 hle h
        rw [Option.bind_eq_some_iff] at h
        obtain ⟨tab, ht, h⟩ := h
        rw [Option.bind_eq_some_iff] at h
        obtain ⟨p, hp, h⟩ := h
        cases h
        cases hv with
        | cons hx hv =>
          cases hv with
          | cons hcv hv =>
            cases hv
            cases hcv with
            | @fn _ fs cb _ _ e1 e2 e3 e4 =>
              have hfs : fs = #[] := Array.eq_empty_of_size_eq_zero (by simpa using e1)
              subst hfs
              cases hx with
              | row hl0 ho' hg hr0 =>
                rw [ho] at ho'
                cases ho'
                have hr' := hr0 rfl
                unfold RowAt at hr'
                split at hr'
                · rename_i hβ
                  obtain ⟨hz, _⟩ := hr'
                  omega
                · rename_i b s t hb
                  obtain ⟨A, cp, rfl, hA, h5, h6, h7⟩ := hr'
                  rcases hA with rfl | ⟨hz, _⟩
                  · rcases hI.obj id _ ho with ⟨_, k1⟩ | ⟨b', s', t'', c, e5, k1, k2, k3, k4, k5⟩
                    · rw [hb] at k1; cases k1
                    · rw [hb] at k1
                      cases k1
                      have hX : (m + 1) * k ≤ (xs.drop off).length := by rw [List.length_drop]; omega
                      have hclen : ∀ i : _root_.Fin (m + 1), (rowAt k (xs.drop off) i.val).length = k := fun i => rowAt_len hX i.isLt
                      have hR : ∀ i : _root_.Fin (m + 1), RPs F w ((List.range k).map fun j => c.getD (s + off + i.val * k + j) undef) (rowAt k (xs.drop off) i.val) := fun i => by
                        refine rps_of _ _ (by rw [hclen i]; simp) fun j hj => ?_
                        rw [hclen i] at hj
                        have hlt : off + i.val * k + j < xs.length := by
                          have : (i.val + 1) * k ≤ (m + 1) * k := Nat.mul_le_mul_right k i.isLt
                          rw [Nat.add_mul] at this
                          omega
                        have h1 := k5 (off + i.val * k + j) hlt
                        have e6 : ((List.range k).map fun j => c.getD (s + off + i.val * k + j) undef).getD j undef = c.getD (s + (off + i.val * k + j)) undef := by
                          simp only [List.getD_eq_getElem?_getD, List.getElem?_map, List.getElem?_range hj, Option.map_some, Option.getD_some]
                          congr 1
                          omega
                        have e7' : (rowAt k (xs.drop off) i.val)[j]? = xs[off + i.val * k + j]? := by
                          unfold rowAt
                          rw [List.getElem?_take, if_pos hj, List.getElem?_drop, List.getElem?_drop]
                          congr 1
                          omega
                        have e7 : (rowAt k (xs.drop off) i.val)[j]'(by rw [hclen i]; exact hj) = xs[off + i.val * k + j] := by
                          rw [List.getElem?_eq_getElem hlt, List.getElem?_eq_getElem (by rw [hclen i]; exact hj)] at e7'
                          exact Option.some.inj e7'
                        rw [e6, e7]
                        exact h1
                      have hcf : ∀ i j : _root_.Fin (m + 1), cmpOne cfg O (.fn cm [] cap) (elemA true (rowAt k (xs.drop off) i.val)) (elemA true (rowAt k (xs.drop off) j.val)) = some ((tab.getD i.val []).getD j.val 0) := fun i j => by
                        have := cmpTab_get _ tab ht i.val j.val (by simp) (by simp)
                        simpa using this
                      simp only [sortP] at hp
                      split at hp
                      · rename_i hO'
                        cases hp
                        obtain ⟨hcl', fn, q1, q2, q3⟩ := cmp_lays (n := m) (k := k) (o := s + off) hO hI hb (ras_of cap cb.toList (by simpa using e2) fun i hi => by
                          have := e4 i hi
                          have e8 : cb.toList.getD i undef = cb.getD i undef := by simp [Array.getD_eq_getD_getElem?, List.getD_eq_getElem?_getD]
                          rw [e8]; exact this) hcl hR hcf
                        obtain ⟨bd, q4⟩ := Option.isSome_iff_exists.mp q2
                        have eg : ∀ args w, (callFunc cm args).run P w = .ok (.enter cm args) w := enters_of q1 q3 q4
                        have hds : (Array.ofFn (n := m + 1) _root_.id).size = m + 1 := Array.size_ofFn
                        generalize hdd : (Array.ofFn (n := m + 1) _root_.id) = d at *
                        have hdi : ∀ q (hq : q < m + 1), d[q]! = ⟨q, hq⟩ := fun q hq => by
                          rw [← hdd, getElem!_pos _ q (by simpa using hq)]
                          simp
                        have hH : HoldsK (fun i : _root_.Fin (m + 1) => (List.range k).map fun j => c.getD (s + off + i.val * k + j) undef) k w b (s + off) d := by
                          intro j hj
                          rw [size_flatK, hds] at hj
                          have hjk : j / k < m + 1 := (Nat.div_lt_iff_lt_mul hk0).mpr hj
                          have hmod : j % k < k := Nat.mod_lt _ hk0
                          refine ⟨?_, frozen_no k2⟩
                          rw [cell_in k2 (by omega)]
                          congr 1
                          show _ = (flatK _ k d)[j]!
                          rw [get_flatK _ _ _ _ (by rw [hds]; exact hj), hdi _ hjk]
                          rw [getElem!_pos _ (j % k) (by simpa using hmod)]
                          simp only [List.getElem_map, List.getElem_range]
                          congr 1
                          have := Nat.div_add_mod' j k
                          omega
                        have main := hS m _ (fun i => by simp) (fun i v hvv => by
                          obtain ⟨r1, r2⟩ := (hR i).get
                          obtain ⟨y, hy, e9⟩ := List.getElem_of_mem hvv
                          have h2 := r2 y (by rw [← r1]; exact hy)
                          rw [List.getD_eq_getElem?_getD, List.getElem?_eq_getElem hy] at h2
                          rw [← e9]
                          exact leafy_one h2.leafy) (fun i j : _root_.Fin (m + 1) => (tab.getD i.val []).getD j.val 0) hO' cm cb b (s + off) cp d w eg (by rw [hds]; exact hcl') hH (block_lt k2) (by rw [hds]; omega)
                        simp only [hds] at main
                        refine ⟨hf, main.mono fun e w' hh => ?_, hlo.set_row⟩
                        obtain ⟨rfl, n', os, rfl⟩ := hh
                        have hpm := (pdq_sorts (ltOf fun i j : _root_.Fin (m + 1) => (tab.getD i.val []).getD j.val 0) hO' d 0 (m + 1) (Lib.bitLen (m + 1)) true true (Nat.zero_le _) (by rw [hds]; exact Nat.le_refl _) (Or.inl rfl)).1.1
                        rw [hds] at hpm
                        have hlt' : (tabLt (n := m + 1) tab) = ltOf fun i j : _root_.Fin (m + 1) => (tab.getD i.val []).getD j.val 0 := rfl
                        rw [hlt']
                        generalize pdq (ltOf fun i j : _root_.Fin (m + 1) => (tab.getD i.val []).getD j.val 0) d 0 (m + 1) (Lib.bitLen (m + 1)) true true = D at *
                        have hnew : (D.toList.map Fin.val).flatMap (fun i => rowAt k (xs.drop off) i) = D.toList.flatMap fun i => rowAt k (xs.drop off) i.val := by rw [List.flatMap_map]
                        rw [hnew]
                        have hRP := RPs.flat hR D.toList
                        have hnl : (D.toList.flatMap fun i => rowAt k (xs.drop off) i.val).length = (m + 1) * k := by rw [rows_length hclen, Array.length_toList, hpm]
                        generalize hnw : (D.toList.flatMap fun i => rowAt k (xs.drop off) i.val) = new at *
                        have hflat : ∀ jj, jj < (m + 1) * k → (flatK (fun i : _root_.Fin (m + 1) => (List.range k).map fun j => c.getD (s + off + i.val * k + j) undef) k D)[jj]! = (D.toList.flatMap fun i => (List.range k).map fun j => c.getD (s + off + i.val * k + j) undef).getD jj undef := fun jj hjj => by
                          have hjk : jj / k < m + 1 := (Nat.div_lt_iff_lt_mul hk0).mpr hjj
                          have hmod : jj % k < k := Nat.mod_lt _ hk0
                          rw [get_flatK _ _ _ _ (by rw [hpm]; exact hjj), getElem!_pos D (jj / k) (by rw [hpm]; exact hjk)]
                          have hrg := rows_get (f := fun i : _root_.Fin (m + 1) => (List.range k).map fun j => c.getD (s + off + i.val * k + j) undef) (k := k) (fun i => by simp) (ps := D.toList) (i := jj / k) (j := jj % k) (p := D[jj / k]'(by rw [hpm]; exact hjk)) (by rw [Array.getElem?_toList]; exact Array.getElem?_eq_getElem _) hmod
                          rw [Nat.div_add_mod' jj k] at hrg
                          rw [List.getD_eq_getElem?_getD, hrg, getElem!_pos _ (jj % k) (by simpa using hmod), List.getElem?_eq_getElem (by simpa using hmod)]
                          rfl
                        have hTo := (sortW_touch (enc := fun i : _root_.Fin (m + 1) => (List.range k).map fun j => c.getD (s + off + i.val * k + j) undef) (k := k) (w := w) (b := b) (o := s + off) (m := n') (dk := D) (os := os))
                        have hbk := sortW_block (enc := fun i : _root_.Fin (m + 1) => (List.range k).map fun j => c.getD (s + off + i.val * k + j) undef) (k := k) (w := w) (b := b) (o := s + off) (m := n') (dk := D) (os := os) k2
                        have hfs : (flatK (fun i : _root_.Fin (m + 1) => (List.range k).map fun j => c.getD (s + off + i.val * k + j) undef) k D).size = (m + 1) * k := by rw [size_flatK, hpm]
                        generalize flatK (fun i : _root_.Fin (m + 1) => (List.range k).map fun j => c.getD (s + off + i.val * k + j) undef) k D = fk at *
                        generalize sortWorldK (fun i : _root_.Fin (m + 1) => (List.range k).map fun j => c.getD (s + off + i.val * k + j) undef) k w b (s + off) n' D os = W' at *
                        obtain ⟨i1, i2⟩ := Inv.update (w' := W') (F' := F) (o' := .row g k (splice xs off new)) (nb := β id) hI ho (hTo.own hb) (fun b2 s2 t2 e2 => ⟨.inr ⟨s2, t2, e2⟩, fun j => hI.own _ _ _ _ _ e2⟩)
                          ⟨rfl, Nat.le_refl _, fun _ => ⟨splice_length _ _ _, updB_same _ _ _⟩⟩ (fun _ _ h => h) (fun _ _ h => .inl h) (fz_later hI hb hTo) (fun hE => by
                            refine .inr ⟨b, s, t, _, e5, by rw [updB_same, hb], hbk, by simp [putCells, k3], by rw [splice_length]; exact k4, fun i hi => ?_⟩
                            rw [splice_length] at hi
                            have hg := splice_get new xs off i (by omega)
                            rw [List.getElem?_eq_getElem (by rw [splice_length]; exact hi)] at hg
                            rw [putCells_getD, hfs]
                            by_cases hin : off ≤ i ∧ i < off + new.length
                            · rw [if_pos hin] at hg
                              rw [if_pos (by omega)]
                              have hk : i - off < new.length := by omega
                              rw [List.getElem?_eq_getElem hk] at hg
                              simp only [Option.some.injEq] at hg
                              rw [hg, show s + i - (s + off) = i - off by omega, hflat _ (by omega)]
                              exact (hRP.get.2 _ hk).ext hI hE
                            · rw [if_neg hin] at hg
                              rw [if_neg (by omega)]
                              rw [List.getElem?_eq_getElem hi] at hg
                              simp only [Option.some.injEq] at hg
                              rw [hg]
                              exact (k5 i hi).ext hI hE)
                        exact ⟨_, _, F, rfl, un _ _ _ _, i1, i2⟩
                      · cases hp
                  · omega
      · cases h
    · cases h
  · cases h
end
end Go.AM
