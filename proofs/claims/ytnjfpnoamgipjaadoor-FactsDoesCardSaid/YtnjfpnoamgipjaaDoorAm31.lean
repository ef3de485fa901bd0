/-
Arguments that are arrays, taken apart.
-/
import Derived.Test.YtnjfpnoamgipjaaDoorAm19
set_option linter.unusedVariables false
set_option linter.unusedSimpArgs false
namespace Go.AM
section
variable {P:Program}
end
end Go.AM

