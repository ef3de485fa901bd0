/-
slices.Delete at []int, as the shelf has it.
-/
import Derived.Test.YtkhbbjfdbbnojaaAm33
import Derived.Shelf.Slices.Delete
set_option linter.unusedVariables false
set_option linter.unusedSimpArgs false
namespace Go.AM
open Go.Proofs Go.Shelf Go.RowKit Go.Lib Go.Sort

section
variable {w : World} {b o m : Nat} {dk : Array Int}
theorem delW_block {c : Array Value} {e : TypeId} (hb : w.heap[b]? = some (.cells c e (0, 0))) : (putRow (Value.int .i64) (Sort.ahead w m) b o dk).heap[b]? = some (.cells (putCells (Value.int .i64) o dk c) e (0, 0)) := by
  unfold putRow mapBlock Sort.ahead
  simp only
  rw [Array.getElem?_modify]
  simp [hb, onCells]
theorem delW_touch : Touch w (putRow (Value.int .i64) (Sort.ahead w m) b o dk) (fun j => j = b) := by
  refine ⟨rfl, rfl, rfl, ?_, ?_, fun j hj hn => ?_⟩
  · unfold putRow mapBlock Sort.ahead
    simp
  · show w.drawn ≤ w.drawn + m; omega
  · unfold putRow mapBlock Sort.ahead
    simp only
    rw [Array.getElem?_modify]
    rw [if_neg (fun e => hn e.symm)]
end

section
variable {P : Program} {cfg : Cfg} {O : Oracle} {H : Heap} {β : Beta} {F : Frz} {w : World}

variable (P) in
def DelC (f : FuncId) : Prop := ∀ (blk off cap i j : Nat) (zs : List Int) (w : World), Holds (Value.int .i64) w blk off zs.toArray → zs.length ≤ cap → cap ≤ 9223372036854775807 → i ≤ j → j ≤ zs.length →
  Calls P f #[.slice (some ⟨blk, off, none⟩) zs.length cap, .int .i64 i, .int .i64 j] w fun e w' => e = .returned (.slice (some ⟨blk, off, none⟩) (zs.length - (j - i)) cap) ∧ ∃ q, w' = putRow (Value.int .i64) (Sort.ahead w q) blk off (zs.take i ++ zs.drop j ++ List.replicate (j - i) 0).toArray

theorem delR_sound {f : FuncId} (hf : ∃ fn, P.funcs[f]? = some fn ∧ fn.body.isSome = true ∧ (fn.name == "runtime.NumGoroutine") = false) (hS : DelC P f) {args : List AV} {lo : List Nat} {rs : List AV} {H' : Heap} (h : delRun args H = some (rs, H')) {vs : Array Value} (hI : Inv H β F w) (hv : RAs H β F w vs.toList args) (hlo : LowAll lo H) :
    (∃ fn, P.funcs[f]? = some fn ∧ fn.body.isSome = true ∧ (fn.name == "runtime.NumGoroutine") = false) ∧
    Calls P f vs w (fun e w' => ∃ v β' F', e = .returned v ∧ RA H' β' F' w' v (ret rs) ∧ Inv H' β' F' w' ∧ Ext H β F w H' β' F' w') ∧ LowAll lo H' := by
  obtain ⟨l⟩ := vs
  unfold delRun at h
  split at h
  · rename_i id g off n i j
    split at h
    · rename_i g' sz' xs ho
      split at h
      · rename_i hc
        obtain ⟨hg0, hs0, rfl, hnx, hi0, hij, hjn, hn0, hn40⟩ := hc
        subst hs0
        have hg1 : g = g' := hg0.symm
        subst hg1
        rw [Option.bind_eq_some_iff] at h
        obtain ⟨zs, hz, h⟩ := h
        cases h
        have hzs := intsOf_inv _ _ hz
        have hzl : zs.length = n := by rw [hnx, hzs]; simp
        cases hv with
        | cons hx hv =>
        cases hv with
        | cons hvi hv =>
        cases hv with
        | cons hvj hv =>
          cases hv
          have ei := RA.v_inv hvi
          have ej := RA.v_inv hvj
          rw [ei.1, ej.1]
          cases hx with
          | row hl0 ho' hg hr0 =>
            rw [ho] at ho'
            cases ho'
            have hr' := hr0 rfl
            unfold RowAt at hr'
            split at hr'
            · rename_i hβ
              obtain ⟨hz, _⟩ := hr'
              omega
            · rename_i b s t hb
              obtain ⟨A, cp, rfl, hA, h5, h6, h7, h8⟩ := hr'
              rcases hA with rfl | ⟨hz, _⟩
              · rcases hI.obj id _ ho with ⟨_, k1⟩ | ⟨b', s', t'', c, e5, k1, k2, k3, k4, k5⟩
                · rw [hb] at k1; cases k1
                · rw [hb] at k1
                  cases k1
                  obtain ⟨i, rfl⟩ : ∃ a : Nat, i = a := ⟨i.toNat, by omega⟩
                  obtain ⟨j, rfl⟩ : ∃ a : Nat, j = a := ⟨j.toNat, by omega⟩
                  simp only [Int.toNat_natCast]
                  have hij' : i ≤ j := by omega
                  have hjn' : j ≤ zs.length := by omega
                  have hval : ∀ a (ha : a < zs.length), c.getD (s + a) undef = .int .i64 zs[a] := fun a ha => by
                    have hlt : a < xs.length := by omega
                    have h1 := k5 a hlt
                    have h2 : xs[a] = .v (.int .i64 zs[a]) := by simp [hzs]
                    rw [h2] at h1
                    generalize c.getD (s + a) undef = v at h1
                    cases h1
                    rfl
                  have hH : Holds (Value.int .i64) w b (s + 0) zs.toArray := by
                    intro a ha
                    have ha' : a < zs.length := by simpa using ha
                    refine ⟨?_, frozen_no k2⟩
                    rw [cell_in k2 (by omega)]
                    congr 1
                    have e : zs.toArray[a]! = zs[a] := by
                      rw [getElem!_pos zs.toArray a ha]
                      simp
                    rw [e, Nat.add_zero, ← hval a ha', Array.getD_eq_getD_getElem?, Array.getElem?_eq_getElem (by omega)]
                    try rfl
                  have main := hS b (s + 0) cp i j zs w hH (by omega) h8 hij' hjn'
                  rw [hzl] at main
                  refine ⟨hf, main.mono fun e w' hh => ?_, hlo.set_row⟩
                  obtain ⟨rfl, q, rfl⟩ := hh
                  rw [Nat.add_zero]
                  have hTo := (delW_touch (w := w) (b := b) (o := s) (m := q) (dk := (zs.take i ++ zs.drop j ++ List.replicate (j - i) 0).toArray))
                  have hbk := delW_block (w := w) (b := b) (o := s) (m := q) (dk := (zs.take i ++ zs.drop j ++ List.replicate (j - i) 0).toArray) k2
                  have hnl : (zs.take i ++ zs.drop j).length = n - (j - i) := by simp [hzl]; omega
                  have hdl : (zs.take i ++ zs.drop j ++ List.replicate (j - i) (0 : Int)).length = n := by rw [List.length_append, hnl, List.length_replicate]; omega
                  have hget : ∀ a (ha : a < (zs.take i ++ zs.drop j).length), (zs.take i ++ zs.drop j ++ List.replicate (j - i) (0 : Int)).toArray[a]! = (zs.take i ++ zs.drop j)[a] := fun a ha => by
                    rw [getElem!_pos _ a (by simp only [List.size_toArray, hdl]; omega)]
                    simp only [List.getElem_toArray]
                    rw [List.getElem_append_left ha]
                  have hds : (zs.take i ++ zs.drop j ++ List.replicate (j - i) (0 : Int)).toArray.size = n := by simpa using hdl
                  generalize (zs.take i ++ zs.drop j ++ List.replicate (j - i) (0 : Int)).toArray = dk at *
                  generalize (zs.take i ++ zs.drop j) = ns at *
                  generalize putRow (Value.int .i64) (Sort.ahead w q) b s dk = W' at *
                  obtain ⟨i1, i2⟩ := Inv.update (w' := W') (F' := F) (o' := .row (g + 1) 1 (ns.map fun z => PV.v (.int .i64 z))) (nb := β id) hI ho (hTo.own hb) (fun b2 s2 t2 e2 => ⟨.inr ⟨s2, t2, e2⟩, fun j => hI.own _ _ _ _ _ e2⟩)
                    ⟨rfl, by omega, fun e => by omega⟩ (fun _ _ h => h) (fun _ _ h => .inl h) (fz_later hI hb hTo) (fun hE => by
                      refine .inr ⟨b, s, t, _, e5, by rw [updB_same, hb], hbk, by simp [putCells, k3], by simp [hnl]; omega, fun a ha => ?_⟩
                      have ha' : a < ns.length := by simpa using ha
                      rw [putCellsI_getD, if_pos (by omega), show s + a - s = a by omega, hget a ha']
                      simp only [List.getElem_map]
                      exact .v rfl)
                  refine ⟨_, _, F, rfl, .row ⟨_, _, rfl, by omega, fun e => by cases e⟩ (set_get _ ho) (Nat.le_refl _) fun _ => ?_, i1, i2⟩
                  unfold RowAt
                  rw [updB_same, hb]
                  exact ⟨_, cp, rfl, .inl rfl, by omega, by omega, by simp [hnl], h8⟩
              · omega
      · cases h
    · cases h
  · cases h

theorem delC_of {ρ : Ren} (L : Lays2.n23 P ρ) : DelC P (ρ.f 23) := fun blk off cap i j zs w hH hc hm hij hj => Any.slices_Delete_int L blk off cap i j zs w hH hc hm hij hj

/-- Two functions of the shelf's: a sort and a deletion. -/
theorem ExtOk.sortDel {fs fd : FuncId} {k : Nat} (h : ∀ g q, cfg.ext g = some q → (g = fs ∧ q = .sort true k) ∨ (g = fd ∧ q = .del)) (hf : ∃ fn, P.funcs[fs]? = some fn ∧ fn.body.isSome = true ∧ (fn.name == "runtime.NumGoroutine") = false) (hS : SortC P fs k) (hN : SortN P fs)
    (hf2 : ∃ fn, P.funcs[fd]? = some fn ∧ fn.body.isSome = true ∧ (fn.name == "runtime.NumGoroutine") = false) (hD : DelC P fd) : ExtOk P cfg := by
  intro g q hg O hO args lo H rs H' he vs w β F hI hv hlo
  rcases h g q hg with ⟨rfl, rfl⟩ | ⟨rfl, rfl⟩
  · exact sort_sound hO hf hS hN he hI hv hlo
  · exact delR_sound hf2 hD he hI hv hlo
end

/-- One element is taken out of a row of numbers. -/
theorem del_run {cfg : Cfg} {O : Oracle} {id g : Nat} {H : Heap} {zs : List Int} {i : Nat} (ho : H[id]? = some (.row g 1 (zs.map Ia))) (hi : i < zs.length) (hn : zs.length < 2 ^ 40) :
    extRun cfg O .del [.row id g 0 zs.length, I i, I ((i + 1 : Nat) : Int)] H = some ([.row id (g + 1) 0 (zs.length - 1)], H.set id (.row (g + 1) 1 ((zs.take i ++ zs.drop (i + 1)).map Ia))) := by
  simp only [extRun, delRun, ho]
  rw [if_pos ⟨trivial, trivial, trivial, by simp, by omega, by omega, by omega, by omega, hn⟩, intsOf_map]
  simp only [obs, Int.toNat_natCast]
  rw [show i + 1 - i = 1 by omega]

theorem rowsH_set {H : Heap} {id g g' sz sz' : Nat} {xs xs' : List PV} {v : AV} (ho : H[id]? = some (.row g sz xs)) : rowsH H v (H.set id (.row g' sz' xs')) = some (v, H.set id (.row g' sz' xs')) := by
  unfold rowsH
  rw [if_pos ⟨by simp, fun j zs => box_setRow ho j zs⟩]
theorem callA_rows6 {cfg : Cfg} {O : Oracle} {f : FuncId} {args : List AV} {lo : List Nat} {H : Heap} {rs : List AV} {id g g' sz sz' : Nat} {xs xs' : List PV} (hm : cfg.mode f = 6) (ho : H[id]? = some (.row g sz xs)) (h : O.ent f args lo H = some (rs, H.set id (.row g' sz' xs'))) : callA cfg O f args lo H = some (ret rs, H.set id (.row g' sz' xs')) := by
  unfold callA
  rw [hm]
  simp only [h, obs, rowsH_set ho]
end Go.AM
