import Derived.Test.YtfdnamedmjhcfaaAm18
import Derived.Test.YtfdnamedmjhcfaaProg
import Derived.KernelRfl
set_option linter.unusedVariables false
set_option maxRecDepth 100000
namespace Go.Proofs.Ytfdnamedmjhcfaa
open Go Go.AM
def labs : List (Nat × List (Nat × LabCfg)) := [
  (3, [(21, { keep := [0, 2, 3, 9, 11, 12, 13, 14, 15, 16, 17, 18], own := [], trunc := false }),
    (28, { keep := [0, 2, 3, 9, 11, 12, 13, 14, 15, 16, 17, 18, 19, 20, 21, 22, 23], own := [], trunc := false }),
    (36, { keep := [0, 2, 3, 9, 11, 12, 13, 14, 15, 16, 17, 18, 19, 20, 21, 22, 23, 24, 25], own := [], trunc := false }),
    (39, { keep := [0, 2, 3, 9, 11, 12, 13, 14, 15, 16, 17, 18, 19, 20, 21, 22, 23, 24, 25], own := [], trunc := false }),
    (59, { keep := [11, 12, 13, 14, 15, 16, 17, 18, 19, 20, 21, 22], own := [], trunc := false })]),
  (5, [(14, { keep := [0, 6, 8, 22, 23, 24], own := [], trunc := false }),
    (20, { keep := [0, 6, 8, 9, 10, 22, 23, 24, 31, 32, 33], own := [], trunc := false }),
    (29, { keep := [0, 6, 8, 9, 10, 22, 23, 24, 31, 32, 33], own := [], trunc := false })]),
  (6, [(11, { keep := [0, 1, 2, 3, 8, 11], own := [], trunc := false })]),
  (8, [(14, { keep := [0, 1, 5], own := [], trunc := false })]),
  (9, [(12, { keep := [0, 5, 6, 7], own := [], trunc := false }),
    (15, { keep := [0, 5, 6, 7], own := [], trunc := false }),
    (20, { keep := [0, 5, 6, 7, 8], own := [], trunc := false }),
    (23, { keep := [0, 5, 6, 7, 8], own := [], trunc := false })]),
  (11, [(6, { keep := [0, 1, 2, 3, 9], own := [], trunc := false }),
    (16, { keep := [0, 1, 2, 3, 10], own := [], trunc := false }),
    (22, { keep := [0, 1, 2, 3, 10, 11], own := [], trunc := false })]),
  (12, [(10, { keep := [1, 5, 6, 7], own := [], trunc := false }),
    (13, { keep := [1, 5, 6, 7], own := [], trunc := false })]),
  (13, [(10, { keep := [0, 1, 5], own := [], trunc := false })]),
  (18, [(200002, { keep := [5], own := [], trunc := false })]),
  (20, [(6, { keep := [1, 2, 3, 4, 5, 14, 15, 16], own := [], trunc := false })]),
  (22, [(20, { keep := [0, 2, 7, 8, 9, 10, 11, 12, 13], own := [], trunc := false }),
    (23, { keep := [0, 2, 7, 8, 9, 10, 11, 12, 13], own := [], trunc := false }),
    (29, { keep := [0, 2, 7, 8, 9, 10, 11, 12, 13], own := [], trunc := false }),
    (33, { keep := [0, 2, 7, 8, 9, 10, 11, 12, 13], own := [], trunc := false })]),
  (23, [(6, { keep := [0, 1, 5], own := [], trunc := false })]),
  (25, [(8, { keep := [0, 1, 5, 16, 17], own := [], trunc := false }),
    (20, { keep := [5, 7, 28, 29, 30], own := [], trunc := false }),
    (24, { keep := [5, 7, 8, 9, 28, 29, 30], own := [], trunc := false }),
    (28, { keep := [5, 7, 8, 9, 28, 29, 30, 52, 53, 54], own := [], trunc := false })]),
  (27, [(11, { keep := [9], own := [], trunc := false })]),
  (29, [(8, { keep := [3, 12, 13, 14], own := [], trunc := false })]),
  (34, [(8, { keep := [0, 1, 6, 7, 8], own := [], trunc := false })]),
  (39, [(11, { keep := [0, 1, 5], own := [], trunc := false })]),
  (42, [(8, { keep := [3, 6, 7, 8], own := [], trunc := false })]),
  (44, [(10, { keep := [0, 3], own := [], trunc := false }),
    (20, { keep := [0, 3, 4, 5], own := [], trunc := false }),
    (23, { keep := [0, 3, 4, 5], own := [], trunc := false })]),
  (45, [(4, { keep := [0, 1, 3], own := [], trunc := false })]),
  (46, [(6, { keep := [0, 1, 7, 8], own := [], trunc := false })]),
  (51, [(6, { keep := [0, 1, 7, 8], own := [], trunc := false })]),
  (52, [(6, { keep := [0, 1, 7, 8], own := [], trunc := false })]),
  (54, [(4, { keep := [0, 2, 8, 9, 10], own := [], trunc := false })])]
def flats : List (Nat × List (Nat × Unit)) := [(22, [(24, ()), (20, ())]), (39, [(66, ()), (110, ())])]
def holeN : List (Nat × List (Nat × Nat)) := [(22, [(3, 2)])]
def holeMap : List (Nat × List (Nat × (Nat × Nat))) := [(22, [(7, (2, 0)), (8, (2, 1))])]
def modes : List (Nat × Nat) := [(30, 4), (32, 1), (33, 3), (35, 3), (36, 3), (37, 1), (38, 3), (39, 1), (40, 1), (44, 1), (51, 3), (52, 1), (53, 1), (54, 1)]
def ownBoxes : List (Nat × List (Nat × List (Nat × Nat))) := []
def ownLits : List (Nat × List (Nat × Unit)) := [(18, [(9, ())]), (25, [(14, ())]), (39, [(55, ()), (57, ()), (99, ()), (101, ())])]
def rngs : List (Nat × List (Nat × (Nat × Bool × Nat))) := [(18, [(100001, (45, true, 2))])]
def exts : List (Nat × ExtK) := [(32, .ints), (40, .sort true 2)]
def cfg : Cfg := { mode := fun f => (AM.look f modes).getD 0, lab := fun f k => (AM.look f labs).bind (AM.look k), ownLit := fun f d => ((AM.look f ownLits).bind (AM.look d)).isSome, ownBox := fun f d => ((AM.look f ownBoxes).bind (AM.look d)).getD [], ext := fun f => AM.look f exts, flat := fun f d => ((AM.look f flats).bind (AM.look d)).isSome, holes := fun f d => ((AM.look f holeN).bind (AM.look d)).getD 0, hole := fun f d => (AM.look f holeMap).bind (AM.look d), rng := fun f k => (AM.look f rngs).bind (AM.look k) }
noncomputable def O : Oracle := den Try.prog cfg
theorem O_ent : O.ent = entRun Try.prog cfg O := den_ent
theorem O_lab : O.lab = labRun Try.prog cfg O := den_lab
end Go.Proofs.Ytfdnamedmjhcfaa
