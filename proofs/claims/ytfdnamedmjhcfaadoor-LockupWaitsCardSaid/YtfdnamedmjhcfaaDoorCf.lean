import Derived.Test.YtfdnamedmjhcfaaDoorAm18
import Derived.Test.YtfdnamedmjhcfaaDoorProg
import Derived.KernelRfl
set_option linter.unusedVariables false
set_option maxRecDepth 100000
namespace Go.Proofs.YtfdnamedmjhcfaaDoor
open Go Go.AM
def labs : List (Nat × List (Nat × LabCfg)) := [
  (3, [(17, { keep := [3, 5, 6, 7], own := [], trunc := false }),
    (23, { keep := [5, 6, 7, 8], own := [], trunc := false }),
    (28, { keep := [5, 8, 9], own := [], trunc := false })]),
  (4, [(16, { keep := [1, 2, 5, 6, 7, 8, 9], own := [], trunc := false }),
    (29, { keep := [5, 6, 7, 8], own := [], trunc := false }),
    (33, { keep := [5, 6, 7, 8], own := [], trunc := false }),
    (38, { keep := [5, 8, 12], own := [], trunc := false })]),
  (8, [(14, { keep := [3, 7, 17, 18, 19], own := [], trunc := false }),
    (27, { keep := [3, 7, 17, 18, 19], own := [], trunc := false })]),
  (10, [(8, { keep := [1, 3, 4], own := [], trunc := false }),
    (11, { keep := [1, 3, 4], own := [], trunc := false }),
    (19, { keep := [1, 3, 4, 5], own := [], trunc := false })]),
  (11, [(15, { keep := [1, 2, 6], own := [], trunc := false }),
    (16, { keep := [1, 2, 6, 25, 26, 27], own := [], trunc := false }),
    (34, { keep := [2, 6, 41, 42, 43], own := [], trunc := false })]),
  (21, [(14, { keep := [1, 4, 26, 27, 28], own := [], trunc := false })]),
  (24, [(12, { keep := [3, 5, 30, 31, 32], own := [], trunc := false })]),
  (28, [(10, { keep := [4, 5, 12, 13, 14], own := [], trunc := false })]),
  (29, [(16, { keep := [1, 99, 100, 101], own := [], trunc := false })]),
  (49, [(10, { keep := [0, 1, 12, 13], own := [], trunc := false })]),
  (53, [(6, { keep := [0, 1, 7, 8], own := [], trunc := false })]),
  (55, [(8, { keep := [5], own := [], trunc := false })]),
  (57, [(16, { keep := [0, 3, 21, 22, 23], own := [], trunc := false })]),
  (58, [(10, { keep := [0, 3, 4, 9, 10, 11], own := [], trunc := false })]),
  (63, [(49, { keep := [2, 3, 5, 6, 7], own := [], trunc := false })]),
  (70, [(6, { keep := [0, 1, 7, 8], own := [], trunc := false })]),
  (75, [(31, { keep := [0, 3], own := [], trunc := false })]),
  (77, [(13, { keep := [0, 8, 9], own := [], trunc := false }),
    (16, { keep := [0, 8, 9, 10, 42, 43], own := [], trunc := false })]),
  (85, [(6, { keep := [0, 1, 7, 8], own := [], trunc := false })]),
  (87, [(6, { keep := [0, 1, 7, 8], own := [], trunc := false })]),
  (96, [(35, { keep := [0, 1, 5], own := [], trunc := false })]),
  (100, [(6, { keep := [0, 1, 5], own := [], trunc := false })]),
  (101, [(6, { keep := [0, 1, 7, 8], own := [], trunc := false })]),
  (102, [(6, { keep := [0, 1, 7, 8], own := [], trunc := false })]),
  (105, [(8, { keep := [1, 5, 6], own := [], trunc := false })]),
  (109, [(6, { keep := [0, 1, 7, 8], own := [], trunc := false })]),
  (113, [(6, { keep := [0, 1, 11, 12, 13], own := [], trunc := false }),
    (33, { keep := [0, 1, 11, 12, 13], own := [], trunc := false }),
    (17, { keep := [0, 1, 5, 6, 7, 11, 12, 13], own := [], trunc := false })]),
  (135, [(10, { keep := [0, 1, 12, 13], own := [], trunc := false })]),
  (137, [(6, { keep := [0, 1, 7, 8], own := [], trunc := false })]),
  (138, [(4, { keep := [0, 2, 3], own := [], trunc := false })]),
  (140, [(6, { keep := [0, 1, 7, 8], own := [], trunc := false })]),
  (151, [(6, { keep := [0, 1, 7, 8], own := [], trunc := false })])]
def flats : List (Nat × List (Nat × Unit)) := [(30, [(21, ()), (23, ()), (28, ()), (30, ())]), (96, [(55, ())])]
def holeN : List (Nat × List (Nat × Nat)) := [(55, [(1, 2)])]
def modes : List (Nat × Nat) := [(22, 3), (23, 3), (26, 1), (27, 3), (29, 1), (45, 3), (50, 3), (51, 3), (53, 3), (56, 3), (59, 3), (60, 3), (61, 3), (62, 3), (63, 3), (64, 3), (65, 3), (66, 3), (67, 3), (69, 3), (70, 1), (72, 3), (73, 3), (74, 1), (75, 1), (77, 3), (85, 3), (87, 3), (95, 1), (96, 1), (97, 3), (98, 3), (101, 3), (102, 3), (104, 3), (105, 3), (106, 3), (107, 3), (108, 3), (109, 3), (110, 3), (111, 3), (112, 3), (113, 1), (114, 3), (133, 3), (134, 3), (136, 4), (138, 1), (139, 3), (140, 3), (141, 3), (151, 3), (152, 3)]
def ownBoxes : List (Nat × List (Nat × List (Nat × Nat))) := []
def ownLits : List (Nat × List (Nat × Unit)) := [(30, [(25, ())]), (55, [(7, ()), (13, ()), (9, ())])]
def specs : List (Nat × List (Nat × Sp)) := [(55, [(11, .frow 2 0), (15, .frow 2 1)]), (96, [(17, .ldx), (20, .ldx), (1000004, .stx)])]
def exts : List (Nat × ExtK) := [(86, .fields)]
def cfg : Cfg := { mode := fun f => (AM.look f modes).getD 0, lab := fun f k => (AM.look f labs).bind (AM.look k), ownLit := fun f d => ((AM.look f ownLits).bind (AM.look d)).isSome, ownBox := fun f d => ((AM.look f ownBoxes).bind (AM.look d)).getD [], ext := fun f => AM.look f exts, flat := fun f d => ((AM.look f flats).bind (AM.look d)).isSome, holes := fun f d => ((AM.look f holeN).bind (AM.look d)).getD 0, spec := fun f k => (AM.look f specs).bind (AM.look k) }
noncomputable def O : Oracle := den Tryd.prog cfg
theorem O_ent : O.ent = entRun Tryd.prog cfg O := den_ent
theorem O_lab : O.lab = labRun Tryd.prog cfg O := den_lab
end Go.Proofs.YtfdnamedmjhcfaaDoor
