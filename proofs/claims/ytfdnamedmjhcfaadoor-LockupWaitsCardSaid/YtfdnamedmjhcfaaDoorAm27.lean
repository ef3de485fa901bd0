/-
Rows of structs; a list put ahead of another.
-/
import Derived.Test.YtfdnamedmjhcfaaDoorAm26
set_option linter.unusedVariables false
set_option linter.unusedSectionVars false
set_option linter.unusedSimpArgs false
namespace Go.AM

section
variable {α : Type} {enc : α → List PV} {k : Nat} {nl : Option Bool} {tg : Bool} {l : List α}

abbrev Rw (enc : α → List PV) (nl : Option Bool) (tg : Bool) (l : List α) : AV := .p (.sl nl tg l.length (l.flatMap enc))

theorem idxR {i : Nat} (h : i < l.length) : idxA k (Rw enc nl tg l) (I i) = some (.fp (l.flatMap enc) (i * k)) := by
  have := idxA_sl (sz := k) (n := l.length) (nl := nl) (t := tg) (xs := l.flatMap enc) (j := (i : Int)) (by omega)
  simpa using this

theorem fldR (he : ∀ p, (enc p).length = k) {i j : Nat} (h : i < l.length) (hj : j < k) (H : Heap) : ld false 1 (.fp (l.flatMap enc) (i * k + j)) H = ((enc l[i])[j]?).map .p := by
  rw [ld_fp, rows_get (f := enc) (k := k) he (p := l[i]) (by simp [h]) hj]

theorem ldR (he : ∀ p, (enc p).length = k) {i : Nat} (h : i < l.length) (H : Heap) : ld true k (.fp (l.flatMap enc) (i * k)) H = some (.agg ((enc l[i]).map .p)) := by
  have h1 : (i + 1) * k ≤ l.length * k := Nat.mul_le_mul_right _ h
  rw [Nat.add_mul] at h1
  rw [ldAgg_fp (by rw [rows_length he]; omega), rows_part (f := enc) (k := k) he (p := l[i]) (by simp [h])]

theorem cutR_hi (he : ∀ p, (enc p).length = k) {n : Nat} (hn : n ≤ l.length) (H : Heap) : cutA k (Rw enc nl tg l) none (some (I n)) none H = some (Rw enc nl (tg && decide ((n : Int) = l.length)) (l.take n)) := by
  rw [cutA_hi (by omega)]
  have e : (l.flatMap enc).take (n * k) = (l.take n).flatMap enc := by
    have h1 := List.take_append_drop n l
    have h2 : l.flatMap enc = (l.take n).flatMap enc ++ (l.drop n).flatMap enc := by rw [← List.flatMap_append, h1]
    rw [h2, List.take_append_of_le_length (by rw [rows_length he]; simp [Nat.min_eq_left hn]), List.take_of_length_le (by rw [rows_length he]; simp [Nat.min_eq_left hn])]
  simp only [Int.toNat_natCast, e, Rw, List.length_take, Nat.min_eq_left hn]
end

/-- A literal of one element, and a list behind it. -/
theorem Cx.prep {sz bytes m : Nat} {o : AV} {cs e : List PV} {l2 : List Ll} {H : Heap} {fx : List (Nat × AObj)} (h : Cx H fx ((o, sz, m, cs) :: l2)) (he : e.length = sz) (hr : (1 + m) * bytes ≤ room) :
    ∃ o' H', appA sz bytes (.p (.sl (some false) true 1 e)) o H = some (o', H') ∧ Cx H' fx ((o', sz, m + 1, e ++ cs) :: l2) := by
  by_cases hm : m = 0
  · subst hm
    have hc : cs = [] := List.length_eq_zero_iff.mp (by simpa using h.hd.1)
    subst hc
    refine ⟨.p (.sl (some false) true 1 e), H, ?_, ?_⟩
    · simp only [appA, h.hd.cells, obs, appTo]
      rw [if_pos ⟨by trivial, Nat.one_pos⟩]
    · have := h.tl.newLit (sz := sz) (m := 1) (cs := e) (by simpa using he)
      simpa using this
  · have h1 := h.newLit (sz := sz) (m := 1) (cs := e) (by simpa using he)
    obtain ⟨o', H', e1, h2, _⟩ := Cx.app (bytes := bytes) [] h1 h.hd.cells h.hd.1 (by omega) hr
    refine ⟨o', H', e1, ?_⟩
    have h3 : Cx H' fx ((o', sz, 1 + m, e ++ cs) :: l2) := h2.mono (fun _ h => h) (.cons_cons _ (List.sublist_cons_self _ _))
    rw [Nat.add_comm] at h3
    exact h3

/-! ### Bools -/
abbrev Bc (b : Bool) : PV := .v (.bool b)

theorem int_wf_one (n : Int) : n - 1 + 1 = n := by omega

end Go.AM
