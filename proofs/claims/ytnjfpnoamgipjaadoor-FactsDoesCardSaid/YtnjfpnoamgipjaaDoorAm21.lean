/-
Bytes: numbers of them, big end first; exclusive or.
-/
import Derived.Test.YtnjfpnoamgipjaaDoorAm20
set_option linter.unusedVariables false
set_option linter.unusedSimpArgs false
namespace Go.AM
def num (bs:List Nat):Nat := bs.foldl (fun a b => a * 256 + b) 0
theorem wrap_u64_mod (n:Int):IntKind.u64.wrap n = n % 18446744073709551616 := by
  simp only [IntKind.wrap,IntKind.bits,IntKind.signed]; simp
end Go.AM

