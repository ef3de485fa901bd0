import Derived.Test.YtkhbbjfdbbnojaaAm18
import Derived.Test.YtkhbbjfdbbnojaaProg
import Derived.KernelRfl
set_option linter.unusedVariables false
set_option maxRecDepth 100000
namespace Go.Proofs.Ytkhbbjfdbbnojaa
open Go Go.AM
def labs : List (Nat × List (Nat × LabCfg)) := [
  (10, [(9, { keep := [0], own := [], trunc := false }),
    (16, { keep := [0, 3, 4, 5], own := [], trunc := false }),
    (26, { keep := [0, 3, 4, 6], own := [], trunc := false }),
    (32, { keep := [0, 3, 4, 6, 7], own := [], trunc := false }),
    (35, { keep := [0, 3, 4, 6, 7], own := [], trunc := false }),
    (42, { keep := [0, 3, 4, 6, 7, 8, 9], own := [], trunc := false })]),
  (65, [(14, { keep := [4, 5, 16, 17, 18], own := [], trunc := false }),
    (45, { keep := [4, 5, 16, 17, 18], own := [], trunc := false }),
    (26, { keep := [4, 5, 7, 8, 9, 16, 17, 18, 34, 35, 36], own := [], trunc := false }),
    (35, { keep := [4, 5, 7, 8, 9, 16, 17, 18, 34, 35, 36], own := [], trunc := false })]),
  (66, [(6, { keep := [0, 1, 2, 7], own := [], trunc := false })]),
  (118, [(8, { keep := [3, 6, 7, 8], own := [], trunc := false })]),
  (120, [(6, { keep := [0, 1, 7, 8], own := [], trunc := false })]),
  (124, [(10, { keep := [0, 3], own := [], trunc := false }),
    (20, { keep := [0, 3, 4, 5], own := [], trunc := false }),
    (23, { keep := [0, 3, 4, 5], own := [], trunc := false })]),
  (125, [(8, { keep := [0, 1, 2, 3, 9, 10], own := [], trunc := false }),
    (11, { keep := [0, 1, 2, 3, 9, 10], own := [], trunc := false }),
    (17, { keep := [0, 1, 2, 3, 9, 10], own := [], trunc := false })])]
def modes : List (Nat × Nat) := [(121, 6), (122, 1), (124, 1)]
def ownBoxes : List (Nat × List (Nat × List (Nat × Nat))) := []
def ownLits : List (Nat × List (Nat × Unit)) := [(65, [(56, ()), (72, ())])]
def exts : List (Nat × ExtK) := [(121, .del), (122, .sort true 2)]
def cfg : Cfg := { mode := fun f => (AM.look f modes).getD 0, lab := fun f k => (AM.look f labs).bind (AM.look k), ownLit := fun f d => ((AM.look f ownLits).bind (AM.look d)).isSome, ownBox := fun f d => ((AM.look f ownBoxes).bind (AM.look d)).getD [], ext := fun f => AM.look f exts }
noncomputable def O : Oracle := den Try.prog cfg
theorem O_ent : O.ent = entRun Try.prog cfg O := den_ent
theorem O_lab : O.lab = labRun Try.prog cfg O := den_lab
end Go.Proofs.Ytkhbbjfdbbnojaa
