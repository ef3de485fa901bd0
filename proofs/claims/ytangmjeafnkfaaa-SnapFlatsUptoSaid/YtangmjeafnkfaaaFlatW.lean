import Derived.Test.YtangmjeafnkfaaaFlatV
set_option linter.unusedVariables false
set_option linter.unusedSimpArgs false
namespace Go.Proofs.Ytangmjeafnkfaaa
open Go Go.AM
namespace Flat

theorem flat_le {α : Type} {f : α → List Int} {g : α → Nat} : ∀ (l : List α), (∀ x, (f x).length ≤ g x) → (l.flatMap f).length ≤ (l.map fun x => g x).sum := by
  intro l h
  induction l with
  | nil => simp
  | cons x l ih =>
    have := h x
    simp only [List.flatMap_cons, List.length_append, List.map_cons, List.sum_cons]
    omega

theorem b_fv (p : A_Val) : (fv p).length ≤ sz_Val p := by simp [fv, sz_Val]
theorem b_ft (p : A_Try) : (ft p).length ≤ sz_Try p := by simp [ft, sz_Try]
theorem b_fsh (p : A_Shape) : (fsh p).length ≤ sz_Shape p := by simp [fsh, sz_Shape]
theorem b_ftx (s : ByteArray) : (ftx s).length ≤ s.size + 1 := by simp [ftx]
theorem b_fe (p : A_End) : (fe p).length ≤ sz_End p := by
  have := b_fv p.2
  simp only [fe, sz_End, List.length_append, List.length_singleton]; omega
theorem b_fvs (l : A_LVal) : (fvs l).length ≤ sz_LVal l := by
  have := flat_le l.2 b_fv
  simp only [fvs, sz_LVal, List.length_cons]; omega
theorem b_fts (l : A_LTry) : (fts l).length ≤ sz_LTry l := by
  have := flat_le l.2 b_ft
  simp only [fts, sz_LTry, List.length_cons]; omega
theorem b_ff (p : A_Frame) : (ff p).length ≤ sz_Frame p := by
  have h1 := b_fv p.2.2.2.2.1
  have h2 := b_fvs p.2.2.2.2.2.1
  have h3 := b_fts p.2.2.2.2.2.2
  simp only [ff, sz_Frame, List.length_append, List.length_cons, List.length_nil]; omega
theorem b_ffs (l : A_LFrame) : (ffs l).length ≤ sz_LFrame l := by
  have := flat_le l.2 b_ff
  simp only [ffs, sz_LFrame, List.length_cons]; omega
theorem b_fc (p : A_Cell) : (fc p).length ≤ sz_Cell p := by
  have h1 := b_fvs p.2.2.1
  have h2 := b_ffs p.2.2.2
  simp only [fc, sz_Cell, List.length_append, List.length_cons, List.length_nil]; omega
theorem b_fth (p : A_Thread) : (fth p).length ≤ sz_Thread p := by
  have h1 := b_ffs p.1
  have h2 := b_fv p.2.2.2
  simp only [fth, sz_Thread, List.length_append, List.length_cons, List.length_nil]; omega
theorem b_flat (s : A_State) : (flat s).length ≤ sz_State s := by
  have h1 := flat_le s.1.2 b_fc
  have h2 := flat_le s.2.1.2 b_fsh
  have h3 := flat_le (g := fun x => x.size + 1) s.2.2.1.2 b_ftx
  have h4 := flat_le s.2.2.2.1.2 b_fth
  have h5 := flat_le s.2.2.2.2.1.2 b_fe
  have h6 := b_fvs s.2.2.2.2.2.1
  simp only [flat, fcs, fshs, ftxs, fths, fes, sz_State, sz_LCell, sz_LShape, sz_Lstr, sz_LThread, sz_LEnd, List.length_append, List.length_cons, List.length_nil]
  omega

theorem sameLoop {n1 n2 : Option Bool} {t1 t2 : Bool} {zs : List Int} (hz : zs.length < 2 ^ 63) : ∀ (k i : Nat), zs.length - i = k → i ≤ zs.length → ∀ H, L17_10 [.p (.sl n1 t1 zs.length (zs.map Ia)), .p (.sl n2 t2 zs.length (zs.map Ia)), I i] [] H = some ([B true], H) := by
  intro k
  induction k with
  | zero =>
    intro i hk hi H
    have : i = zs.length := by omega
    subst this
    rw [L17_10_eq]
    simp [-Option.bind_some, obs]
  | succ k ih =>
    intro i hk hi H
    have hi' : i < zs.length := by omega
    have ix : ∀ (n : Option Bool) (t : Bool), idxA 1 (.p (.sl n t zs.length (zs.map Ia))) (I i) = some (.fp (zs.map Ia) i) := fun n t => by
      have := idxA_sl (sz := 1) (n := zs.length) (nl := n) (t := t) (xs := zs.map Ia) (j := (i : Int)) (by omega)
      simpa using this
    have hl : ld false 1 (.fp (zs.map Ia) i) H = some (I zs[i]) := by
      rw [ld_fp, List.getElem?_map, List.getElem?_eq_getElem hi']; rfl
    rw [L17_10_eq]
    simp only [lenA_sl, obs, bin_lss, cond_B]
    rw [if_pos (by simp <;> omega)]
    simp only [ix, hl, obs, bin_neq, decide_true, Bool.not_true, Bool.false_eq_true, if_false, cond_B, bin_add]
    rw [wrap_id (by omega), show (i : Int) + 1 = ((i + 1 : Nat) : Int) by omega]
    exact ih (i + 1) (by omega) (by omega) H

theorem call17 {n1 n2 : Option Bool} {t1 t2 : Bool} {zs : List Int} (hz : zs.length < 2 ^ 63) (lo : List Nat) (H : Heap) : callA cfg O 17 [.p (.sl n1 t1 zs.length (zs.map Ia)), .p (.sl n2 t2 zs.length (zs.map Ia))] lo H = some (B true, H) := by
  refine callA_args (H' := []) (rs := [B true]) rfl rfl ?_ rfl
  rw [f17_eq]
  simp only [lenA_sl, obs, bin_neq, cond_B, decide_true, Bool.not_true, Bool.false_eq_true, if_false]
  exact sameLoop hz _ 0 rfl (by omega) _

theorem law (s : A_State) (ok : ok_State s) (hb : sz_State s ≤ 1048576) : ∃ H', O.ent 4 [.agg ((enc_State s).map .p)] [] [] = some ([B true], H') := by
  have hf := b_flat s
  have hlim : LIM = 17592186044416 := rfl
  refine ⟨[.box ((enc_State s).map .p)], ?_⟩
  have e1 : boxO [] (AV.cells (.agg ((enc_State s).map .p))) [] = some (.ptr 0 0, [.box ((enc_State s).map .p)]) := boxO_p _ []
  have l8 : ld true 8 (.ptr 0 0) [.box ((enc_State s).map .p)] = some (.agg ((enc_State s).map .p)) := by
    rw [ldAgg_box (xs := (enc_State s).map .p) rfl (by simp [len_State]), List.drop_zero, List.take_of_length_le (by simp [len_State])]
  obtain ⟨n1, t1, c18⟩ := call18 s ok (by omega) [] [.box ((enc_State s).map .p)]
  obtain ⟨n2, t2, c19⟩ := call19 ok (by omega) [] [.box ((enc_State s).map .p)]
  rw [f4_eq, e1]
  simp only [obs, l8, c18, c19, call17 (show (flat s).length < 2 ^ 63 by omega), leave0_B]

end Flat
end Go.Proofs.Ytangmjeafnkfaaa
