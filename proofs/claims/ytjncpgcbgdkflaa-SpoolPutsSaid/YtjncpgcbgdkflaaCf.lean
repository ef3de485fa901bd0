import Derived.Test.YtjncpgcbgdkflaaAm18
import Derived.Test.YtjncpgcbgdkflaaProg
import Derived.KernelRfl
set_option linter.unusedVariables false
set_option maxRecDepth 100000
namespace Go.Proofs.Ytjncpgcbgdkflaa
open Go Go.AM
def labs : List (Nat × List (Nat × LabCfg)) := [
  (3, [(25, { keep := [0, 1, 2, 9, 10, 11, 12, 13, 14, 15, 16, 17, 18, 19, 20, 21, 22, 23, 24, 25, 26], own := [], trunc := false }),
    (39, { keep := [9, 10, 11, 12, 13, 14, 15, 16, 17, 18, 19, 20, 21, 22, 23, 24, 25, 26], own := [], trunc := false }),
    (30, { keep := [0, 1, 2, 9, 10, 11, 12, 13, 14, 15, 16, 17, 18, 19, 20, 21, 22, 23, 24, 25, 26, 27], own := [], trunc := false }),
    (33, { keep := [0, 1, 2, 9, 10, 11, 12, 13, 14, 15, 16, 17, 18, 19, 20, 21, 22, 23, 24, 25, 26, 27], own := [], trunc := false })]),
  (4, [(18, { keep := [2, 7, 8, 9, 10, 11, 12, 13, 14, 15], own := [], trunc := false })]),
  (7, [(200002, { keep := [0, 3, 8, 9, 10, 12], own := [], trunc := false }),
    (24, { keep := [8, 9, 10, 12, 52, 53, 54], own := [], trunc := false })]),
  (8, [(200002, { keep := [5, 6, 8, 9, 10], own := [], trunc := false })]),
  (9, [(14, { keep := [1, 2, 9, 17, 18, 19], own := [], trunc := false }),
    (23, { keep := [1, 2, 9, 17, 18, 19], own := [], trunc := false })]),
  (10, [(14, { keep := [6, 20, 21, 22], own := [], trunc := false }),
    (37, { keep := [6, 20, 21, 22], own := [], trunc := false }),
    (29, { keep := [6, 7, 8, 9, 11, 20, 21, 22], own := [], trunc := false })]),
  (12, [(8, { keep := [0, 1, 2, 8, 10, 11, 12], own := [], trunc := false }),
    (11, { keep := [0, 1, 2, 8, 10, 11, 12], own := [], trunc := false }),
    (17, { keep := [0, 1, 2, 8, 10, 11, 12], own := [], trunc := false })]),
  (13, [(8, { keep := [0, 1, 2, 3, 9, 10], own := [], trunc := false }),
    (11, { keep := [0, 1, 2, 3, 9, 10], own := [], trunc := false })]),
  (14, [(6, { keep := [0, 3], own := [], trunc := false }),
    (9, { keep := [0, 3], own := [], trunc := false }),
    (21, { keep := [0, 3, 4, 5, 6], own := [], trunc := false })]),
  (16, [(10, { keep := [0, 1, 5], own := [], trunc := false })]),
  (19, [(8, { keep := [4, 9, 10, 11], own := [], trunc := false })]),
  (20, [(10, { keep := [0, 1, 5], own := [], trunc := false })]),
  (38, [(8, { keep := [0, 1, 2, 3, 8, 10, 11, 12], own := [], trunc := false }),
    (11, { keep := [0, 1, 2, 3, 8, 10, 11, 12], own := [], trunc := false })]),
  (39, [(29, { keep := [1, 3, 4], own := [], trunc := false })]),
  (40, [(200002, { keep := [2, 5], own := [], trunc := false })]),
  (41, [(8, { keep := [0, 3, 9, 10, 11], own := [], trunc := false }),
    (19, { keep := [0, 3, 9, 10, 11], own := [], trunc := false }),
    (24, { keep := [6, 25, 26, 27], own := [], trunc := false })]),
  (42, [(8, { keep := [3, 6, 7, 8], own := [], trunc := false })]),
  (44, [(12, { keep := [3, 4, 5], own := [], trunc := false }),
    (24, { keep := [3, 6, 7], own := [], trunc := false })]),
  (56, [(4, { keep := [0, 1, 3], own := [], trunc := false })]),
  (58, [(9, { keep := [0, 1], own := [], trunc := false }),
    (15, { keep := [0], own := [], trunc := false })]),
  (59, [(8, { keep := [0, 3, 4], own := [], trunc := false })]),
  (67, [(4, { keep := [0, 1, 3], own := [], trunc := false })])]
def flats : List (Nat × List (Nat × Unit)) := [(17, [(20, ())])]
def modes : List (Nat × Nat) := [(34, 4), (57, 4), (58, 1)]
def ownBoxes : List (Nat × List (Nat × List (Nat × Nat))) := []
def ownLits : List (Nat × List (Nat × Unit)) := [(17, [(22, ())]), (18, [(18, ())])]
def specs : List (Nat × List (Nat × Sp)) := [(35, [(14, .ldx), (1000002, .stx)])]
def rngs : List (Nat × List (Nat × (Nat × Bool × Nat))) := [(7, [(100001, (56, true, 12))]), (8, [(100001, (56, true, 12))]), (40, [(100001, (67, false, 1))])]
def cfg : Cfg := { mode := fun f => (AM.look f modes).getD 0, lab := fun f k => (AM.look f labs).bind (AM.look k), ownLit := fun f d => ((AM.look f ownLits).bind (AM.look d)).isSome, ownBox := fun f d => ((AM.look f ownBoxes).bind (AM.look d)).getD [], flat := fun f d => ((AM.look f flats).bind (AM.look d)).isSome, spec := fun f k => (AM.look f specs).bind (AM.look k), rng := fun f k => (AM.look f rngs).bind (AM.look k) }
noncomputable def O : Oracle := den Try.prog cfg
theorem O_ent : O.ent = entRun Try.prog cfg O := den_ent
theorem O_lab : O.lab = labRun Try.prog cfg O := den_lab
end Go.Proofs.Ytjncpgcbgdkflaa
