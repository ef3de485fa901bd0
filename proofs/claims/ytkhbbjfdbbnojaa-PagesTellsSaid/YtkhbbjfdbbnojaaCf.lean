import Derived.Test.YtkhbbjfdbbnojaaAm18
import Derived.Test.YtkhbbjfdbbnojaaProg
import Derived.KernelRfl
set_option linter.unusedVariables false
set_option maxRecDepth 100000
namespace Go.Proofs.Ytkhbbjfdbbnojaa
open Go Go.AM
def labs : List (Nat × List (Nat × LabCfg)) := [
  (7, [(39, { keep := [5, 11, 12, 13, 14, 15, 16, 17, 18, 19, 20, 21, 22, 23, 24, 25, 26, 27, 28, 29], own := [], trunc := false }),
    (31, { keep := [1, 2, 5, 11, 12, 13, 14, 15, 16, 17, 18, 19, 20, 21, 22, 23, 25, 26, 27, 28, 29], own := [], trunc := false })]),
  (23, [(10, { keep := [0, 1, 5], own := [], trunc := false })]),
  (39, [(10, { keep := [0, 1, 5], own := [], trunc := false })]),
  (41, [(23, { keep := [8, 12, 13], own := [], trunc := false }),
    (24, { keep := [8, 12, 13, 54, 55, 56], own := [], trunc := false }),
    (33, { keep := [8, 12, 13, 54, 55, 56], own := [], trunc := false })]),
  (42, [(14, { keep := [1, 4, 7, 24, 25, 26], own := [], trunc := false }),
    (27, { keep := [1, 4, 7, 24, 25, 26], own := [], trunc := false })]),
  (43, [(14, { keep := [2, 3, 9, 24, 25, 26], own := [], trunc := false }),
    (23, { keep := [2, 3, 9, 24, 25, 26], own := [], trunc := false })]),
  (44, [(14, { keep := [1, 3], own := [], trunc := false }),
    (24, { keep := [1, 3, 4], own := [], trunc := false }),
    (34, { keep := [1, 5], own := [], trunc := false })]),
  (45, [(11, { keep := [5], own := [], trunc := false })]),
  (47, [(53, { keep := [4, 8, 11, 12], own := [], trunc := false }),
    (16, { keep := [1, 2, 3, 4, 8, 11, 12, 13, 14, 15], own := [], trunc := false }),
    (27, { keep := [1, 2, 3, 4, 8, 11, 12, 13, 14, 15], own := [], trunc := false }),
    (32, { keep := [2, 4, 8, 11, 12, 13, 14, 16, 17], own := [], trunc := false }),
    (35, { keep := [2, 4, 8, 11, 12, 13, 14, 16, 17], own := [], trunc := false }),
    (47, { keep := [2, 4, 8, 11, 12, 13, 14, 16], own := [], trunc := false }),
    (51, { keep := [2, 4, 8, 11, 12, 16], own := [], trunc := false }),
    (58, { keep := [4, 8, 11, 12, 18, 19, 20], own := [], trunc := false }),
    (69, { keep := [4, 8, 11, 12, 18, 19, 20, 21], own := [], trunc := false }),
    (77, { keep := [8, 12, 18, 19], own := [], trunc := false })]),
  (48, [(8, { keep := [1, 2, 4, 5, 6], own := [], trunc := false }),
    (11, { keep := [1, 2, 4, 5, 6], own := [], trunc := false })]),
  (49, [(8, { keep := [1, 2, 3, 7, 8], own := [], trunc := false }),
    (11, { keep := [1, 2, 3, 7, 8], own := [], trunc := false })]),
  (50, [(16, { keep := [3, 32, 33, 34], own := [], trunc := false })]),
  (51, [(10, { keep := [2, 3, 5], own := [], trunc := false })]),
  (101, [(10, { keep := [0, 1, 12, 13], own := [], trunc := false })]),
  (102, [(11, { keep := [7], own := [], trunc := false })]),
  (104, [(8, { keep := [2, 3, 14, 15, 16], own := [], trunc := false })]),
  (105, [(17, { keep := [0, 3, 5], own := [], trunc := false })]),
  (106, [(13, { keep := [0, 1, 5], own := [], trunc := false })]),
  (107, [(12, { keep := [2, 13, 14, 15], own := [], trunc := false })]),
  (108, [(8, { keep := [1, 2, 5, 6], own := [], trunc := false }),
    (14, { keep := [1, 2, 5, 6, 7], own := [], trunc := false }),
    (17, { keep := [1, 2, 5, 6, 7], own := [], trunc := false })]),
  (109, [(8, { keep := [1, 2, 3, 4], own := [], trunc := false }),
    (21, { keep := [1, 2, 3, 4, 5, 6], own := [], trunc := false })]),
  (110, [(8, { keep := [4, 14, 15, 16], own := [], trunc := false }),
    (18, { keep := [4, 14, 15, 16, 28, 29, 30], own := [], trunc := false }),
    (31, { keep := [4, 14, 15, 16, 28, 29, 30], own := [], trunc := false })]),
  (120, [(6, { keep := [0, 1, 7, 8], own := [], trunc := false })]),
  (144, [(6, { keep := [0, 1, 7, 8], own := [], trunc := false })])]
def flats : List (Nat × List (Nat × Unit)) := [(105, [(28, ()), (34, ())])]
def holeMap : List (Nat × List (Nat × (Nat × Nat))) := [(104, [(3, (0, 0))])]
def holeN : List (Nat × List (Nat × Nat)) := [(104, [(1, 1)])]
def modes : List (Nat × Nat) := [(93, 9), (104, 1), (105, 1), (106, 1), (109, 5), (143, 9)]
def ownBoxes : List (Nat × List (Nat × List (Nat × Nat))) := []
def ownLits : List (Nat × List (Nat × Unit)) := [(104, [(10, ()), (21, ()), (7, ())]), (105, [(26, ()), (33, ()), (27, ())])]
def holeZs : List (Nat × List PV) := [(93, [nilS, nilS, nilS]), (143, [nilS, nilS, nilS])]
def cfg : Cfg := { mode := fun f => (AM.look f modes).getD 0, lab := fun f k => (AM.look f labs).bind (AM.look k), ownLit := fun f d => ((AM.look f ownLits).bind (AM.look d)).isSome, ownBox := fun f d => ((AM.look f ownBoxes).bind (AM.look d)).getD [], flat := fun f d => ((AM.look f flats).bind (AM.look d)).isSome, holes := fun f d => ((AM.look f holeN).bind (AM.look d)).getD 0, hole := fun f d => (AM.look f holeMap).bind (AM.look d), holeZ := fun f => (AM.look f holeZs).getD [] }
noncomputable def O : Oracle := den Try.prog cfg
theorem O_ent : O.ent = entRun Try.prog cfg O := den_ent
theorem O_lab : O.lab = labRun Try.prog cfg O := den_lab
end Go.Proofs.Ytkhbbjfdbbnojaa
