/-
Maps whose values are lists under way: looked up, appended to, struck.
-/
import Derived.Test.YtnjfpnoamgipjaaDoorAm30
set_option linter.unusedVariables false
set_option linter.unusedSimpArgs false
set_option linter.unusedSectionVars false
namespace Go.AM
section
variable {κ:Type} [DecidableEq κ] {ty:Ty}{enc:κ → AV}
abbrev En (κ:Type) := κ × AV × Nat × List Int
variable {H:Heap}{fx:List (Nat × AObj)}{l1 l2:List Ll}{es:List (En κ)}{c id:Nat}
end
end Go.AM

