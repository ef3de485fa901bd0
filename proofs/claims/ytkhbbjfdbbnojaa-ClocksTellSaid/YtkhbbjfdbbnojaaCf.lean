import Derived.Test.YtkhbbjfdbbnojaaAm18
import Derived.Test.YtkhbbjfdbbnojaaProg
import Derived.KernelRfl
set_option linter.unusedVariables false
set_option maxRecDepth 100000
namespace Go.Proofs.Ytkhbbjfdbbnojaa
open Go Go.AM
def labs : List (Nat × List (Nat × LabCfg)) := [
  (12, [(20, { keep := [0, 7, 8, 9, 10, 11], own := [], trunc := false }),
    (26, { keep := [0, 7, 8, 9, 10, 11, 12], own := [], trunc := false }),
    (29, { keep := [0, 7, 8, 9, 10, 11, 12], own := [], trunc := false })]),
  (13, [(21, { keep := [0, 1, 2, 3, 9, 10, 11, 12, 13, 14, 15, 16], own := [], trunc := false }),
    (29, { keep := [0, 1, 9, 10, 11, 12, 13, 14, 15, 16, 17, 18], own := [], trunc := false }),
    (34, { keep := [0, 1, 9, 10, 11, 12, 13, 14, 15, 16, 17, 18, 19], own := [], trunc := false }),
    (44, { keep := [0, 1, 9, 10, 11, 12, 13, 14, 15, 16, 17, 18, 19, 20, 21, 22], own := [], trunc := false }),
    (47, { keep := [0, 1, 9, 10, 11, 12, 13, 14, 15, 16, 17, 18, 19, 20, 21, 22], own := [], trunc := false })]),
  (23, [(10, { keep := [0, 1, 5], own := [], trunc := false })]),
  (73, [(14, { keep := [0, 1, 5], own := [], trunc := false })]),
  (74, [(20, { keep := [0, 2, 7, 8, 9, 10, 11, 12, 13], own := [], trunc := false }),
    (23, { keep := [0, 2, 7, 8, 9, 10, 11, 12, 13], own := [], trunc := false }),
    (29, { keep := [0, 2, 7, 8, 9, 10, 11, 12, 13], own := [], trunc := false }),
    (33, { keep := [0, 2, 7, 8, 9, 10, 11, 12, 13], own := [], trunc := false })]),
  (78, [(12, { keep := [0, 5, 6, 7], own := [], trunc := false }),
    (15, { keep := [0, 5, 6, 7], own := [], trunc := false }),
    (20, { keep := [0, 5, 6, 7, 8], own := [], trunc := false }),
    (23, { keep := [0, 5, 6, 7, 8], own := [], trunc := false })]),
  (118, [(8, { keep := [3, 6, 7, 8], own := [], trunc := false })]),
  (124, [(10, { keep := [0, 3], own := [], trunc := false }),
    (20, { keep := [0, 3, 4, 5], own := [], trunc := false }),
    (23, { keep := [0, 3, 4, 5], own := [], trunc := false })]),
  (128, [(8, { keep := [3, 12, 13, 14], own := [], trunc := false })]),
  (129, [(8, { keep := [0, 1, 5, 16, 17], own := [], trunc := false }),
    (20, { keep := [5, 7, 28, 29, 30], own := [], trunc := false }),
    (24, { keep := [5, 7, 8, 9, 28, 29, 30], own := [], trunc := false }),
    (28, { keep := [5, 7, 8, 9, 28, 29, 30, 52, 53, 54], own := [], trunc := false })]),
  (130, [(11, { keep := [9], own := [], trunc := false })]),
  (156, [(11, { keep := [0, 1, 5], own := [], trunc := false })]),
  (182, [(6, { keep := [0, 1, 7, 8], own := [], trunc := false })]),
  (184, [(4, { keep := [0, 2, 8, 9, 10], own := [], trunc := false })])]
def flats : List (Nat × List (Nat × Unit)) := [(74, [(24, ()), (20, ())]), (156, [(66, ()), (110, ())])]
def holeAt : List (Nat × List (Nat × (Nat × Nat))) := [(74, [(7, (2, 0)), (8, (2, 1))])]
def holeN : List (Nat × List (Nat × Nat)) := [(74, [(3, 2)])]
def modes : List (Nat × Nat) := [(122, 1), (124, 1), (154, 1), (155, 3), (156, 1), (182, 1), (183, 1), (184, 1)]
def ownBoxes : List (Nat × List (Nat × List (Nat × Nat))) := []
def ownLits : List (Nat × List (Nat × Unit)) := [(129, [(14, ())]), (156, [(55, ()), (57, ()), (99, ()), (101, ())])]
def exts : List (Nat × ExtK) := [(122, .sort true 2)]
def cfg : Cfg := { mode := fun f => (AM.look f modes).getD 0, lab := fun f k => (AM.look f labs).bind (AM.look k), ownLit := fun f d => ((AM.look f ownLits).bind (AM.look d)).isSome, ownBox := fun f d => ((AM.look f ownBoxes).bind (AM.look d)).getD [], ext := fun f => AM.look f exts, flat := fun f d => ((AM.look f flats).bind (AM.look d)).isSome, holes := fun f d => ((AM.look f holeN).bind (AM.look d)).getD 0, hole := fun f d => (AM.look f holeAt).bind (AM.look d) }
noncomputable def O : Oracle := den Try.prog cfg
theorem O_ent : O.ent = entRun Try.prog cfg O := den_ent
theorem O_lab : O.lab = labRun Try.prog cfg O := den_lab
end Go.Proofs.Ytkhbbjfdbbnojaa
