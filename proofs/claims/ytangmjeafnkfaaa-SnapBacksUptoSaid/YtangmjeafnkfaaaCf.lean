import Derived.Test.YtangmjeafnkfaaaAm18
import Derived.Test.YtangmjeafnkfaaaProg
import Derived.KernelRfl
set_option linter.unusedVariables false
set_option maxRecDepth 100000
namespace Go.Proofs.Ytangmjeafnkfaaa
open Go Go.AM
def labs : List (Nat × List (Nat × LabCfg)) := [
  (11, [(31, { keep := [9, 10], own := [], trunc := false })]),
  (17, [(10, { keep := [0, 1, 5], own := [], trunc := false })]),
  (19, [(8, { keep := [1, 3, 4], own := [], trunc := false }),
    (22, { keep := [1, 3, 5], own := [], trunc := false }),
    (32, { keep := [1, 3, 6], own := [], trunc := false }),
    (40, { keep := [1, 3, 6, 7], own := [], trunc := false }),
    (50, { keep := [1, 3, 8], own := [], trunc := false }),
    (64, { keep := [1, 3, 10], own := [], trunc := false })]),
  (75, [(8, { keep := [0, 3, 4], own := [], trunc := false })]),
  (76, [(8, { keep := [0, 3, 4], own := [], trunc := false }),
    (22, { keep := [0, 3, 4, 5, 6], own := [], trunc := false })]),
  (101, [(11, { keep := [0, 1, 5], own := [], trunc := false }),
    (14, { keep := [0, 1, 5, 6, 7], own := [], trunc := false })]),
  (103, [(11, { keep := [0, 1, 5], own := [], trunc := false }),
    (14, { keep := [0, 1, 5, 6, 7], own := [], trunc := false })]),
  (105, [(11, { keep := [0, 1, 5], own := [], trunc := false }),
    (14, { keep := [0, 1, 5, 6, 7], own := [], trunc := false })]),
  (107, [(11, { keep := [0, 1, 5], own := [], trunc := false }),
    (14, { keep := [0, 1, 5, 6, 7], own := [], trunc := false })]),
  (109, [(11, { keep := [0, 1, 5], own := [], trunc := false }),
    (14, { keep := [0, 1, 5, 6, 7], own := [], trunc := false })]),
  (111, [(11, { keep := [0, 1, 5], own := [], trunc := false }),
    (14, { keep := [0, 1, 5, 6, 7], own := [], trunc := false })]),
  (140, [(11, { keep := [0, 1, 5], own := [], trunc := false }),
    (14, { keep := [0, 1, 5, 6, 7], own := [], trunc := false })]),
  (142, [(11, { keep := [0, 1, 5], own := [], trunc := false }),
    (14, { keep := [0, 1, 5, 6, 7], own := [], trunc := false })]),
  (152, [(11, { keep := [0, 1, 5], own := [], trunc := false }),
    (14, { keep := [0, 1, 5, 6, 7], own := [], trunc := false })])]
def modes : List (Nat × Nat) := [(19, 1), (48, 2), (50, 1), (51, 1), (62, 1), (63, 1), (64, 1), (65, 1), (66, 1), (67, 1), (68, 1), (69, 1), (70, 1), (71, 1), (72, 1), (73, 1), (74, 1), (77, 1), (78, 1), (79, 1), (101, 1), (102, 1), (103, 1), (104, 1), (105, 1), (106, 1), (107, 1), (108, 1), (109, 1), (110, 1), (111, 1), (112, 1), (113, 1), (114, 5), (115, 1), (116, 4), (117, 1), (119, 1), (122, 3), (126, 1), (127, 1), (128, 1), (129, 1), (136, 1), (137, 1), (138, 1), (139, 1), (140, 1), (141, 1), (142, 2), (143, 1), (144, 0), (147, 1), (149, 1), (150, 1), (151, 1), (152, 1), (153, 1), (154, 1)]
def ownBoxes : List (Nat × List (Nat × List (Nat × Nat))) := []
def ownLits : List (Nat × List (Nat × Unit)) := [(23, [(21, ()), (40, ()), (43, ()), (45, ())]), (120, [(14, ())])]
def cfg : Cfg := { mode := fun f => (AM.look f modes).getD 0, lab := fun f k => (AM.look f labs).bind (AM.look k), ownLit := fun f d => ((AM.look f ownLits).bind (AM.look d)).isSome, ownBox := fun f d => ((AM.look f ownBoxes).bind (AM.look d)).getD [] }
noncomputable def O : Oracle := den Try.prog cfg
theorem O_ent : O.ent = entRun Try.prog cfg O := den_ent
theorem O_lab : O.lab = labRun Try.prog cfg O := den_lab
end Go.Proofs.Ytangmjeafnkfaaa
