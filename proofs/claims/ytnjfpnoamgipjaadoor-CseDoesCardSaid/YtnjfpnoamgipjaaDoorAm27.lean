/-
Rows of structs; a list put ahead of another.
-/
import Derived.Test.YtnjfpnoamgipjaaDoorAm26
set_option linter.unusedVariables false
set_option linter.unusedSimpArgs false
namespace Go.AM
section
variable {α : Type} {enc : α → List PV} {k : Nat} {nl : Option Bool} {tg : Bool} {l : List α}
abbrev Rw (enc : α → List PV) (nl : Option Bool) (tg : Bool) (l : List α) : AV := .p (.sl nl tg l.length (l.flatMap enc))
theorem idxR {i : Nat} (h : i < l.length) : idxA k (Rw enc nl tg l) (I i) = some (.fp (l.flatMap enc) (i * k)) := by
  have := idxA_sl (sz := k) (n := l.length) (nl := nl) (t := tg) (xs := l.flatMap enc) (j := (i : Int)) (by omega)
  simpa using this
theorem ldR (he : ∀ p, (enc p).length = k) {i : Nat} (h : i < l.length) (H : Heap) : ld true k (.fp (l.flatMap enc) (i * k)) H = some (.agg ((enc l[i]).map .p)) := by
  have h1 : (i + 1) * k ≤ l.length * k := Nat.mul_le_mul_right _ h
  rw [Nat.add_mul] at h1
  rw [ldAgg_fp (by rw [rows_length he]; omega), rows_part (f := enc) (k := k) he (p := l[i]) (by simp [h])]
end
end Go.AM

