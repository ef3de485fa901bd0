import Derived.Test.YtcgahlekjfemfaaAm18
import Derived.Test.YtcgahlekjfemfaaProg
import Derived.KernelRfl
set_option linter.unusedVariables false
set_option maxRecDepth 100000
namespace Go.Proofs.Ytcgahlekjfemfaa
open Go Go.AM
def labs : List (Nat × List (Nat × LabCfg)) := [
  (4, [(21, { keep := [5, 6, 7, 8], own := [], trunc := false })]),
  (23, [(6, { keep := [0, 3], own := [], trunc := false })]),
  (24, [(8, { keep := [0, 1, 5, 6, 7], own := [], trunc := false })]),
  (25, [(10, { keep := [0, 1, 5], own := [], trunc := false })]),
  (63, [(6, { keep := [0, 1, 5], own := [], trunc := false })]),
  (65, [(8, { keep := [0, 3, 9, 10, 11], own := [], trunc := false }),
    (19, { keep := [0, 3, 9, 10, 11], own := [], trunc := false }),
    (24, { keep := [6, 25, 26, 27], own := [], trunc := false })]),
  (88, [(9, { keep := [0, 1], own := [], trunc := false }),
    (15, { keep := [0], own := [], trunc := false })]),
  (89, [(6, { keep := [0, 1, 2, 6, 7, 8], own := [], trunc := false }),
    (16, { keep := [0, 1, 2, 6], own := [], trunc := false }),
    (20, { keep := [0, 1, 2, 6, 7, 8], own := [], trunc := false }),
    (35, { keep := [0, 1, 2, 6], own := [], trunc := false })]),
  (102, [(4, { keep := [0, 1, 2, 3, 8], own := [], trunc := false }),
    (10, { keep := [0, 1, 2, 3, 8, 9], own := [], trunc := false })]),
  (103, [(8, { keep := [0, 1, 4, 10, 11], own := [], trunc := false }),
    (20, { keep := [0, 10, 13], own := [], trunc := false }),
    (32, { keep := [0, 2, 4, 14, 15], own := [], trunc := false }),
    (44, { keep := [0, 14, 17], own := [], trunc := false }),
    (67, { keep := [0, 1, 2, 3, 4, 18, 19, 20, 21], own := [], trunc := false }),
    (68, { keep := [0, 1, 2, 3, 4, 18, 19, 20, 21, 22], own := [], trunc := false }),
    (85, { keep := [0, 1, 3, 4, 18, 20, 24], own := [], trunc := false }),
    (89, { keep := [0, 3, 4, 18, 24], own := [], trunc := false })]),
  (126, [(6, { keep := [0, 2, 4, 10, 11], own := [], trunc := false })]),
  (143, [(4, { keep := [0, 1, 2, 3, 10], own := [], trunc := false })])]
def modes : List (Nat × Nat) := [(65, 1), (66, 1), (88, 1), (89, 1), (102, 1), (103, 1), (126, 1), (143, 1)]
def ownBoxes : List (Nat × List (Nat × List (Nat × Nat))) := []
def ownLits : List (Nat × List (Nat × Unit)) := []
def cfg : Cfg := { mode := fun f => (AM.look f modes).getD 0, lab := fun f k => (AM.look f labs).bind (AM.look k), ownLit := fun f d => ((AM.look f ownLits).bind (AM.look d)).isSome, ownBox := fun f d => ((AM.look f ownBoxes).bind (AM.look d)).getD [] }
noncomputable def O : Oracle := den Try.prog cfg
theorem O_ent : O.ent = entRun Try.prog cfg O := den_ent
theorem O_lab : O.lab = labRun Try.prog cfg O := den_lab
end Go.Proofs.Ytcgahlekjfemfaa
