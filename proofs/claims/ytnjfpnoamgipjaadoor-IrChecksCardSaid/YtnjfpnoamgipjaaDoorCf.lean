import Derived.Test.YtnjfpnoamgipjaaDoorAm18
import Derived.Test.YtnjfpnoamgipjaaDoorProg
import Derived.KernelRfl
set_option linter.unusedVariables false
set_option maxRecDepth 100000
namespace Go.Proofs.YtnjfpnoamgipjaaDoor
open Go Go.AM
def labs : List (Nat × List (Nat × LabCfg)) := [
  (3, [(6, { keep := [2, 3, 15, 16], own := [], trunc := false })]),
  (5, [(14, { keep := [2, 4, 7, 8, 9, 10], own := [], trunc := false }),
    (27, { keep := [7, 8, 9, 11], own := [], trunc := false })]),
  (12, [(10, { keep := [1, 12, 13, 14], own := [], trunc := false })]),
  (14, [(8, { keep := [1, 3, 12, 13, 14], own := [], trunc := false }),
    (17, { keep := [1, 3, 12, 13, 14], own := [], trunc := false })]),
  (19, [(22, { keep := [3, 6, 81, 82, 83], own := [], trunc := false }),
    (50, { keep := [3, 6, 151, 152, 153], own := [], trunc := false })]),
  (20, [(14, { keep := [2, 3, 63, 64, 65], own := [], trunc := false }),
    (37, { keep := [2, 3, 7], own := [], trunc := false }),
    (38, { keep := [2, 3, 7, 129, 130, 131], own := [], trunc := false })]),
  (22, [(16, { keep := [1, 2, 3, 8], own := [], trunc := false }),
    (19, { keep := [1, 2, 3, 8], own := [], trunc := false })]),
  (23, [(37, { keep := [1, 2, 3, 8], own := [], trunc := false }),
    (42, { keep := [1, 3, 8, 10], own := [], trunc := false }),
    (45, { keep := [1, 3, 8, 10], own := [], trunc := false })]),
  (24, [(14, { keep := [1, 2, 4, 6, 7, 28, 29, 30], own := [], trunc := false }),
    (41, { keep := [1, 2, 4, 6, 7, 28, 29, 30], own := [], trunc := false }),
    (23, { keep := [1, 2, 4, 6, 7, 8, 9, 28, 29, 30], own := [], trunc := false }),
    (47, { keep := [2, 4, 6, 7], own := [], trunc := false }),
    (51, { keep := [2, 4, 6, 7], own := [], trunc := false }),
    (52, { keep := [2, 4, 6, 7, 124, 125, 126], own := [], trunc := false })]),
  (25, [(14, { keep := [2, 3, 4, 6, 7, 8, 9, 30, 31, 32], own := [], trunc := false }),
    (41, { keep := [2, 3, 4, 6, 7, 8, 9, 30, 31, 32], own := [], trunc := false }),
    (35, { keep := [2, 3, 4, 6, 7, 8, 9, 10, 11, 30, 31, 32], own := [], trunc := false }),
    (33, { keep := [2, 3, 4, 6, 7, 8, 9, 10, 11, 30, 31, 32], own := [], trunc := false }),
    (31, { keep := [2, 3, 4, 6, 7, 8, 9, 10, 11, 30, 31, 32], own := [], trunc := false }),
    (39, { keep := [2, 3, 4, 6, 7, 8, 9, 11, 30, 31, 32], own := [], trunc := false }),
    (44, { keep := [4, 6, 8, 9, 83, 84, 85], own := [], trunc := false })]),
  (26, [(10, { keep := [2, 3, 60, 61], own := [], trunc := false })]),
  (42, [(6, { keep := [1, 7, 8, 9], own := [], trunc := false })]),
  (44, [(14, { keep := [1, 4, 26, 27, 28], own := [], trunc := false })]),
  (47, [(12, { keep := [3, 5, 30, 31, 32], own := [], trunc := false })]),
  (48, [(12, { keep := [3, 4, 5, 6, 9, 10], own := [], trunc := false })]),
  (50, [(12, { keep := [2, 3, 4, 7, 35, 36, 37], own := [], trunc := false }),
    (28, { keep := [2, 3, 7, 65, 66, 67], own := [], trunc := false })]),
  (51, [(12, { keep := [2, 3, 4, 7, 8, 9, 39, 40, 41], own := [], trunc := false }),
    (33, { keep := [2, 3, 4, 7, 8, 9, 39, 40, 41], own := [], trunc := false }),
    (49, { keep := [2, 3, 4, 7], own := [], trunc := false })]),
  (52, [(10, { keep := [3, 5, 6, 9, 10, 45, 46, 47], own := [], trunc := false }),
    (20, { keep := [3, 5, 6, 10, 90, 91, 92], own := [], trunc := false }),
    (30, { keep := [3, 5, 6, 10, 90, 91, 92, 160, 161, 162], own := [], trunc := false })]),
  (53, [(10, { keep := [2, 3, 37, 38], own := [], trunc := false })]),
  (54, [(37, { keep := [], own := [], trunc := false })]),
  (55, [(21, { keep := [3, 4], own := [], trunc := false }),
    (12, { keep := [0, 3, 4, 23, 24, 25], own := [], trunc := false })]),
  (56, [(8, { keep := [0, 3, 4, 5, 19, 20, 21], own := [], trunc := false }),
    (18, { keep := [0, 4, 5, 39, 40, 41], own := [], trunc := false }),
    (26, { keep := [0, 4, 5, 10, 39, 40, 41, 55, 56, 57], own := [], trunc := false })]),
  (57, [(4, { keep := [0, 1, 2], own := [], trunc := false }),
    (18, { keep := [1, 5, 35, 36], own := [], trunc := false }),
    (27, { keep := [1, 5, 35, 36], own := [], trunc := false })]),
  (58, [(8, { keep := [1, 2, 3, 4, 18, 19, 20], own := [], trunc := false }),
    (18, { keep := [1, 3, 4, 38, 39, 40], own := [], trunc := false }),
    (26, { keep := [1, 3, 4, 9, 38, 39, 40, 54, 55, 56], own := [], trunc := false })]),
  (59, [(10, { keep := [1, 12, 13, 14], own := [], trunc := false })]),
  (93, [(10, { keep := [0, 1, 12, 13], own := [], trunc := false })]),
  (97, [(6, { keep := [0, 1, 7, 8], own := [], trunc := false })]),
  (99, [(8, { keep := [5], own := [], trunc := false })]),
  (100, [(6, { keep := [2, 3, 9, 10, 11], own := [], trunc := false })]),
  (104, [(49, { keep := [2, 5, 6], own := [], trunc := false })]),
  (108, [(10, { keep := [1, 12, 13, 14], own := [], trunc := false })]),
  (122, [(6, { keep := [0, 1, 7, 8], own := [], trunc := false })]),
  (133, [(6, { keep := [0, 1, 7, 8], own := [], trunc := false })]),
  (135, [(6, { keep := [0, 1, 7, 8], own := [], trunc := false })]),
  (144, [(35, { keep := [0, 1, 5], own := [], trunc := false })]),
  (165, [(10, { keep := [0, 1, 12, 13], own := [], trunc := false })])]
def flats : List (Nat × List (Nat × Unit)) := [(144, [(55, ())])]
def holeN : List (Nat × List (Nat × Nat)) := [(99, [(1, 2)])]
def modes : List (Nat × Nat) := [(45, 3), (46, 3), (71, 3), (89, 3), (94, 3), (95, 3), (97, 3), (122, 3), (133, 3), (135, 3), (143, 1), (144, 1), (164, 3), (166, 4)]
def ownBoxes : List (Nat × List (Nat × List (Nat × Nat))) := []
def ownLits : List (Nat × List (Nat × Unit)) := [(24, [(56, ()), (65, ()), (96, ()), (131, ())]), (25, [(90, ())]), (56, [(26, ()), (62, ())]), (58, [(25, ()), (61, ())]), (99, [(7, ()), (13, ()), (9, ())])]
def specs : List (Nat × List (Nat × Sp)) := [(99, [(11, .frow 2 0), (15, .frow 2 1)]), (144, [(17, .ldx), (20, .ldx), (1000004, .stx)])]
def exts : List (Nat × ExtK) := [(134, .fields)]
def cfg : Cfg := { mode := fun f => (AM.look f modes).getD 0, lab := fun f k => (AM.look f labs).bind (AM.look k), ownLit := fun f d => ((AM.look f ownLits).bind (AM.look d)).isSome, ownBox := fun f d => ((AM.look f ownBoxes).bind (AM.look d)).getD [], ext := fun f => AM.look f exts, flat := fun f d => ((AM.look f flats).bind (AM.look d)).isSome, holes := fun f d => ((AM.look f holeN).bind (AM.look d)).getD 0, spec := fun f k => (AM.look f specs).bind (AM.look k) }
noncomputable def O : Oracle := den Tryd.prog cfg
theorem O_ent : O.ent = entRun Tryd.prog cfg O := den_ent
theorem O_lab : O.lab = labRun Tryd.prog cfg O := den_lab
end Go.Proofs.YtnjfpnoamgipjaaDoor
