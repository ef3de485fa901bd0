/-
Lists of whole numbers, lists of such lists, lists of places.
-/
import Derived.Test.YtfdnamedmjhcfaaDoorAm23
set_option linter.unusedVariables false
set_option linter.unusedSimpArgs false
namespace Go.AM

abbrev V (nl : Option Bool) (tg : Bool) (zs : List Int) : AV := .p (.sl nl tg zs.length (zs.map Ia))
theorem idxV {nl : Option Bool} {tg : Bool} {zs : List Int} {k : Nat} (h : k < zs.length) : idxA 1 (V nl tg zs) (I k) = some (.fp (zs.map Ia) k) := by
  have := idxA_sl (sz := 1) (n := zs.length) (nl := nl) (t := tg) (xs := zs.map Ia) (j := (k : Int)) (by omega)
  simpa using this
theorem ldV {zs : List Int} {k : Nat} (h : k < zs.length) (H : Heap) : ld false 1 (.fp (zs.map Ia) k) H = some (I zs[k]) := by
  rw [ld_fp, List.getElem?_map, List.getElem?_eq_getElem h]; rfl

theorem nxt (i : Nat) : (i : Int) + 1 = ((i + 1 : Nat) : Int) := by omega

theorem pureLst {sz : Nat} {o : AV} {H : Heap} {m : Nat} {cs : List PV} (h : Lst sz o H m cs) : ∃ nl tg b, pureArg H o = some (.p (.sl nl tg m cs), b) := by
  obtain ⟨hl, ⟨nl, rfl, h1⟩ | ⟨id, g, rfl, ho⟩⟩ := h
  · exact ⟨nl, true, false, rfl⟩
  · refine ⟨none, false, true, ?_⟩
    simp only [pureArg, pureLeaf, ho]
    rw [if_pos (by simp; omega), List.drop_zero, List.take_of_length_le (by omega)]

/-! ### Rows of rows -/
abbrev Dd := Option Bool × Bool × List Int
def us (p : Dd) : PV := .sl p.1 p.2.1 p.2.2.length (p.2.2.map Ia)
abbrev W (nl : Option Bool) (tg : Bool) (l : List Dd) : AV := .p (.sl nl tg l.length (l.map us))
theorem idxW {nl : Option Bool} {tg : Bool} {l : List Dd} {k : Nat} (h : k < l.length) : idxA 1 (W nl tg l) (I k) = some (.fp (l.map us) k) := by
  have := idxA_sl (sz := 1) (n := l.length) (nl := nl) (t := tg) (xs := l.map us) (j := (k : Int)) (by omega)
  simpa using this
theorem ldW {l : List Dd} {k : Nat} (h : k < l.length) (H : Heap) : ld false 1 (.fp (l.map us) k) H = some (V l[k].1 l[k].2.1 l[k].2.2) := by
  rw [ld_fp, List.getElem?_map, List.getElem?_eq_getElem h]; rfl

def ints (l : List Dd) : List (List Int) := l.map fun p => p.2.2

/-! ### Places -/
/-- The places for which it holds. -/
def flt (p : Nat → Bool) (n : Nat) : List Int := ((List.range n).filter p).map fun i : Nat => (i : Int)
theorem flt_succ (p : Nat → Bool) (n : Nat) : flt p (n + 1) = flt p n ++ if p n = true then [(n : Int)] else [] := by
  unfold flt
  rw [List.range_succ, List.filter_append, List.map_append]
  congr 1
  cases h : p n <;> simp [h]
theorem flt_len (p : Nat → Bool) (n : Nat) : (flt p n).length ≤ n := by
  unfold flt
  have := List.length_filter_le p (List.range n)
  simp at this ⊢
  exact this
theorem flt_congr {p q : Nat → Bool} {n : Nat} (h : ∀ i, i < n → p i = q i) : flt p n = flt q n := by
  unfold flt
  rw [List.filter_congr fun i hi => h i (by simpa using hi)]

theorem lit1 (k : Int) (H : Heap) : litA false 1 [I k] H = some (.p (.sl (some false) true 1 [Ia k]), H) := rfl
theorem cells1 (x : PV) (H : Heap) : cellsA 1 (.p (.sl (some false) true 1 [x])) H = some (1, [x]) := rfl

/-- A list of places goes on. -/
theorem plc {p : Nat → Bool} {k : Nat} {o : AV} {H : Heap} {fx : List (Nat × AObj)} {l2 : List Ll} (l1 : List Ll) (hk : k < 2 ^ 40) (h : Cx H fx (l1 ++ (o, 1, (flt p k).length, (flt p k).map Ia) :: l2)) (hp : p k = true) :
    ∃ o' H', appA 1 8 o (.p (.sl (some false) true 1 [Ia k])) H = some (o', H') ∧ Cx H' fx (l1 ++ (o', 1, (flt p (k + 1)).length, (flt p (k + 1)).map Ia) :: l2) := by
  have := flt_len p k
  obtain ⟨o', H', e, h', _⟩ := h.app (bytes := 8) (y := .p (.sl (some false) true 1 [Ia k])) l1 (cells1 _ _) rfl (by omega) (by simp only [room]; omega)
  refine ⟨o', H', e, ?_⟩
  have e1 : flt p (k + 1) = flt p k ++ [(k : Int)] := by rw [flt_succ, if_pos hp]
  rw [e1]
  simpa using h'
theorem plc0 {p : Nat → Bool} {k : Nat} {o : AV} {H : Heap} {fx : List (Nat × AObj)} {l2 : List Ll} (l1 : List Ll) (h : Cx H fx (l1 ++ (o, 1, (flt p k).length, (flt p k).map Ia) :: l2)) (hp : p k = false) : Cx H fx (l1 ++ (o, 1, (flt p (k + 1)).length, (flt p (k + 1)).map Ia) :: l2) := by
  have e1 : flt p (k + 1) = flt p k := by rw [flt_succ, if_neg (by simp [hp])]; simp
  rw [e1]; exact h

end Go.AM
