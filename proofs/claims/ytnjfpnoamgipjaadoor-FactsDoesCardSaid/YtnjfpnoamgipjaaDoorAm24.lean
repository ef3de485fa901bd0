/-
Lists of whole numbers, lists of such lists, lists of places.
-/
import Derived.Test.YtnjfpnoamgipjaaDoorAm23
set_option linter.unusedVariables false
set_option linter.unusedSimpArgs false
namespace Go.AM
abbrev V (nl:Option Bool)(tg:Bool)(zs:List Int):AV := .p (.sl nl tg zs.length (zs.map Ia))
theorem idxV {nl:Option Bool}{tg:Bool}{zs:List Int}{k:Nat}(h:k < zs.length):idxA 1 (V nl tg zs) (I k) = some (.fp (zs.map Ia) k) := by
  have := idxA_sl (sz := 1) (n := zs.length) (nl := nl) (t := tg) (xs := zs.map Ia) (j := (k:Int)) (by omega)
  simpa using this
theorem ldV {zs:List Int}{k:Nat}(h:k < zs.length)(H:Heap):ld false 1 (.fp (zs.map Ia) k) H = some (I zs[k]) := by
  rw [ld_fp,List.getElem?_map,List.getElem?_eq_getElem h]; rfl
theorem nxt (i:Nat):(i:Int) + 1 = ((i + 1:Nat):Int) := by omega
abbrev Dd := Option Bool × Bool × List Int
def us (p:Dd):PV := .sl p.1 p.2.1 p.2.2.length (p.2.2.map Ia)
abbrev W (nl:Option Bool)(tg:Bool)(l:List Dd):AV := .p (.sl nl tg l.length (l.map us))
def ints (l:List Dd):List (List Int) := l.map fun p => p.2.2
theorem lit1 (k:Int)(H:Heap):litA false 1 [I k] H = some (.p (.sl (some false) true 1 [Ia k]),H) := rfl
end Go.AM

