/-
It is proved that the law SnapPatches returns true for every input, and that its arguments read behind the call as before. Conditions: none.
-/
import Derived.Test.YtangmjeafnkfaaaSnpU
import Derived.Test.YtangmjeafnkfaaaRows
set_option linter.unusedVariables false
set_option linter.unusedSimpArgs false
namespace Go.Proofs.Ytangmjeafnkfaaa.Snp
open Go Go.AM
open Go.ChangeShapes Go.WideShapes Go.ChangeAt Go.RowKit

theorem law {na nl : Option Bool} {ta tg : Bool} {n : Int} {zs : List Int} {ps : List (Int × Int)} (hz : zs.length < 2 ^ 63) (hb : ps.length < 2 ^ 63) :
    ∃ H', O.ent 3 [.p (.sl na ta zs.length (zs.map Ia)), I n, .p (.sl nl tg ps.length (ps.flatMap two))] [] [] = some ([B true], H') := by
  obtain ⟨H1, e1⟩ := f15_spec (na := na) (nl := nl) (ta := ta) (tg := tg) (n := n) hz hb
  obtain ⟨H2, nl', tg', e2⟩ := f16_spec (na := na) (nl := nl) (ta := ta) (tg := tg) (n := n) hz hb
  have key : ∃ (L : List Int) (e : Int) (n1 n2 : Option Bool) (t1 t2 : Bool), L.length < 2 ^ 63 ∧ O.ent 15 [.p (.sl na ta zs.length (zs.map Ia)), I n, .p (.sl nl tg ps.length (ps.flatMap two))] [] [] = some ([.p (.sl n1 t1 L.length (L.map Ia)), I e], H1) ∧
      O.ent 16 [.p (.sl na ta zs.length (zs.map Ia)), I n, .p (.sl nl tg ps.length (ps.flatMap two))] [] [] = some ([.p (.sl n2 t2 L.length (L.map Ia)), I e], H2) := by
    by_cases h : n < 0 ∨ 20000 < n
    · rw [if_pos h] at e1 e2
      exact ⟨[], 1, _, _, _, _, by simp, e1, e2⟩
    · rw [if_neg h] at e1 e2
      obtain ⟨m, rfl⟩ : ∃ m : Nat, n = m := ⟨n.toNat, by omega⟩
      have hs : (start m zs).length = m := by simp [start]; omega
      have hr := run_bld (n := m) ps 0 (start m zs) hs (by omega)
      rw [show ((0 : Nat) : Int) - 1 = -1 by omega] at hr
      simp only [Int.toNat_natCast] at e1 e2
      rw [hr] at e1
      by_cases hg : good m (-1) ps = true
      · rw [if_pos hg] at e1 e2
        simp only [List.take_zero, List.nil_append, Nat.sub_zero, bld_start (n := m) (zs := zs) m 0 ps (by omega), resOf15] at e1
        have hbl : ∀ (c i : Nat) (ps : List (Int × Int)), (bld zs c i ps).length = c := by
          intro c
          induction c with
          | zero => intros; rfl
          | succ c ih =>
            intro i ps
            cases ps with
            | nil => simp [bld, ih]
            | cons p r => obtain ⟨a, v⟩ := p; simp only [bld]; split <;> simp [ih]
        exact ⟨_, 0, _, _, _, _, by rw [hbl]; omega, e1, e2⟩
      · rw [if_neg hg] at e1 e2
        exact ⟨[], 3, _, _, _, _, by simp, e1, e2⟩
  obtain ⟨L, e, n1, n2, t1, t2, hL, k1, k2⟩ := key
  have c1 := callA_pure (cfg := cfg) (O := O) (g := 15) (xs := [.sl na ta zs.length (zs.map Ia), Ia n, .sl nl tg ps.length (ps.flatMap two)]) (lo := []) (H := []) rfl k1 rfl
  have c2 := callA_pure (cfg := cfg) (O := O) (g := 16) (xs := [.sl na ta zs.length (zs.map Ia), Ia n, .sl nl tg ps.length (ps.flatMap two)]) (lo := []) (H := []) rfl k2 rfl
  have c3 := callA_pure (cfg := cfg) (O := O) (g := 17) (xs := [.sl n1 t1 L.length (L.map Ia), .sl n2 t2 L.length (L.map Ia)]) (lo := []) (H := []) rfl (sameInts (nx := n1) (ny := n2) (tx := t1) (ty := t2) (x := L) (y := L) hL) rfl
  simp only [List.map_cons, List.map_nil, ret] at c1 c2 c3
  rw [f3_eq, c1]
  simp only [Option.bind_some, extractA_tup, List.getElem?_cons_zero, List.getElem?_cons_succ]
  rw [c2]
  simp only [Option.bind_some, extractA_tup, List.getElem?_cons_zero, List.getElem?_cons_succ]
  rw [c3]
  simp

theorem bulkOk (H : Type) : BulkOk (Rows.uptoBulk (H := H)) := by
  have all : ∀ l : List (DataW H), (l.map Rows.uptoBulk).sum = Rows.uptoBulkAll l := by
    intro l
    induction l with
    | nil => rfl
    | cons d l ih => simp [Rows.uptoBulkAll, ih]
  refine ⟨fun l => ?_, fun s => ?_, ?_, fun es sp => ?_, fun ps => ?_⟩
  · cases l <;> simp [Rows.uptoBulk]
  · simp [Rows.uptoBulk]
  · simp [Rows.uptoBulk]
  · simp [Rows.uptoBulk, all]
  · simp [Rows.uptoBulk, all]

theorem closed : closedB Try.prog [22, 3, 23, 122] = true := by kernel_rfl

theorem two_of {r : List PV} {m : Nat} (h : TyC Try.prog 122 r m) : ∃ p, r = two p ∧ True := by
  obtain ⟨hl, hf⟩ := ty_fields (l := [(3, 0), (3, 1)]) (by kernel_rfl) h
  have h3 : Try.prog.cellsOf 122 = 2 := by kernel_rfl
  have h4 : Try.prog.cellsOf 3 = 1 := by kernel_rfl
  rw [h3] at hl
  obtain ⟨_, _, t0⟩ := hf 0 3 0 rfl
  obtain ⟨_, _, t1⟩ := hf 1 3 1 rfl
  rw [h4] at t0 t1
  obtain ⟨a, ha, _⟩ := ty_int t0 Try.underlying3
  obtain ⟨b, hb, _⟩ := ty_int t1 Try.underlying3
  obtain ⟨x, y, rfl⟩ := len2 hl
  simp at ha hb
  exact ⟨(a, b), by simp [two, ha, hb], trivial⟩

theorem own : ownKnob Try.prog.godebug = none := by kernel_rfl
theorem laidOut : laidOutB Try.prog = true := by kernel_rfl

set_option maxRecDepth 100000 in
theorem lifted (os : Os) (started : os.Started) (H : Type) (enc : TypeId × Value → H) :
    ReturnsInHanded {} Try.checked os 3 .any (Rows.snapPatchesSpec.pre6 enc Try.prog Try.f3 Rows.snapPatchesRow.domain false) (Rows.snapPatchesSpec.post enc Try.prog Try.f3 false true false false) := by
  refine returnsInHanded_of_change_sized (C := Try.checked) own started (by kernel_rfl) Try.func3
    (ChangeSpec.witness6 (enc := enc) (C := Try.checked) false ⟨#[], #[.slice none 0 0, .int .i64 0, .slice none 0 0], []⟩ 8 (by kernel_rfl) (by kernel_rfl) (by kernel_rfl) (by kernel_rfl)) ?_
  intro W base args ds gs before hval hW hcnd hsz _
  refine law_post (cfg := cfg) (bulkOk H) closed (by rw [Try.params3]; decide) laidOut (by rw [Try.params3]; intro t ht; simp at ht; rcases ht with rfl | rfl | rfl <;> exact ⟨by kernel_rfl, of_decide_eq_true (by kernel_rfl)⟩) (tb := 4) (by kernel_rfl) Try.underlying4 (s := Rows.snapPatchesSpec) rfl ?_ hval hW ?_
  · intro hl
    rw [Try.params3] at hl
    match ds, hl with
    | [d1, d2, d3], _ => rfl
  · intro avs hty
    rw [Try.params3] at hty
    obtain ⟨x1, r1, m1, rfl, t1, hty, _⟩ := tyArgs_cons hty
    obtain ⟨x2, r2, m2, rfl, t2, hty, _⟩ := tyArgs_cons hty
    obtain ⟨x3, r3, m3, rfl, t3, hty, _⟩ := tyArgs_cons hty
    obtain rfl := tyArgs_nil hty
    obtain ⟨na, zs, rfl, _, hz⟩ := ty_ints t1 Try.underlying22 Try.underlying3
    obtain ⟨n, rfl, _⟩ := ty_int t2 Try.underlying3
    obtain ⟨nl, ps, rfl, _, hp, _⟩ := ty_slice t3 Try.underlying23 two (fun _ => True) fun r m' _ h => two_of h
    rw [argAV_one (by kernel_rfl), argAV_one (by kernel_rfl), argAV_one (by kernel_rfl)]
    exact law (by simp only [maxLen] at hz; omega) (by simp only [maxLen] at hp; omega)

theorem over : Rows.snapPatchesRow.holds Try.pinned (OpenSpec.ofChange Rows.snapPatchesSpec) :=
  OpenClaim.holds_of_wide 3 Try.f3 rfl rfl rfl rfl rfl rfl rfl ⟨rfl, rfl, rfl, rfl, rfl⟩ rfl rfl rfl rfl rfl (by kernel_rfl) Try.func3 (by kernel_rfl)
    (of_decide_eq_true (by kernel_rfl)) (by unfold Func.isWrapper; first | (rw [if_pos (by decide +kernel)]; kernel_rfl) | (rw [if_neg (by decide +kernel)]; exact ⟨rfl, rfl⟩))
    (fun os started H enc _ => lifted os started H enc)
theorem snapPatches_holds : Rows.SnapPatchesSaid := over
#print axioms snapPatches_holds
end Go.Proofs.Ytangmjeafnkfaaa.Snp
namespace Go.Proofs.Ytangmjeafnkfaaa
theorem snapPatches_holds : Rows.SnapPatchesSaid := Snp.snapPatches_holds
end Go.Proofs.Ytangmjeafnkfaaa
