import Derived.Test.YtkhbbjfdbbnojaaAm18
import Derived.Test.YtkhbbjfdbbnojaaProg
import Derived.KernelRfl
set_option linter.unusedVariables false
set_option maxRecDepth 100000
namespace Go.Proofs.Ytkhbbjfdbbnojaa
open Go Go.AM
def labs : List (Nat × List (Nat × LabCfg)) := [
  (11, [(43, { keep := [1, 2, 7, 8, 9, 10, 11, 12, 13, 14, 15, 16, 17, 18, 19, 20], own := [], trunc := false }),
    (34, { keep := [0, 1, 2, 7, 8, 9, 10, 11, 12, 13, 14, 15, 16, 17, 18, 19, 20, 21], own := [], trunc := false }),
    (37, { keep := [0, 1, 2, 7, 8, 9, 10, 11, 12, 13, 14, 15, 16, 17, 18, 19, 20, 21], own := [], trunc := false }),
    (46, { keep := [1, 2, 7, 8, 9, 10, 11, 12, 13, 14, 15, 16, 17, 18, 19, 20, 22, 23], own := [], trunc := false }),
    (49, { keep := [1, 2, 7, 8, 9, 10, 11, 12, 13, 14, 15, 16, 17, 18, 19, 20, 22, 23], own := [], trunc := false }),
    (63, { keep := [7, 8, 9, 10, 11, 12, 13, 14, 15, 16, 17, 18, 19, 20], own := [], trunc := false }),
    (67, { keep := [7, 8, 9, 10, 11, 12, 13, 14, 15, 16, 17, 18, 19, 20], own := [], trunc := false })]),
  (23, [(10, { keep := [0, 1, 5], own := [], trunc := false })]),
  (68, [(18, { keep := [7, 8, 29, 30, 31], own := [], trunc := false }),
    (29, { keep := [7, 8, 29, 30, 31], own := [], trunc := false })]),
  (69, [(8, { keep := [0, 1, 6, 11, 12, 13], own := [], trunc := false })]),
  (70, [(8, { keep := [0, 3, 4], own := [], trunc := false }),
    (11, { keep := [0, 3, 4], own := [], trunc := false })]),
  (71, [(10, { keep := [0, 1, 5], own := [], trunc := false })]),
  (98, [(8, { keep := [0, 1, 6, 7, 8], own := [], trunc := false })]),
  (101, [(10, { keep := [0, 1, 12, 13], own := [], trunc := false })]),
  (126, [(8, { keep := [0, 3, 4], own := [], trunc := false })]),
  (153, [(10, { keep := [0, 3], own := [], trunc := false }),
    (20, { keep := [0, 3, 4, 5], own := [], trunc := false }),
    (23, { keep := [0, 3, 4, 5], own := [], trunc := false })])]
def modes : List (Nat × Nat) := [(152, 1), (153, 1)]
def ownBoxes : List (Nat × List (Nat × List (Nat × Nat))) := []
def ownLits : List (Nat × List (Nat × Unit)) := [(126, [(7, ())])]
def exts : List (Nat × ExtK) := [(152, .ints)]
def cfg : Cfg := { mode := fun f => (AM.look f modes).getD 0, lab := fun f k => (AM.look f labs).bind (AM.look k), ownLit := fun f d => ((AM.look f ownLits).bind (AM.look d)).isSome, ownBox := fun f d => ((AM.look f ownBoxes).bind (AM.look d)).getD [], ext := fun f => AM.look f exts }
noncomputable def O : Oracle := den Try.prog cfg
theorem O_ent : O.ent = entRun Try.prog cfg O := den_ent
theorem O_lab : O.lab = labRun Try.prog cfg O := den_lab
end Go.Proofs.Ytkhbbjfdbbnojaa
