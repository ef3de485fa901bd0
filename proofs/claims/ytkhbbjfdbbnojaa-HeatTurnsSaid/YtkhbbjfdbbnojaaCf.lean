import Derived.Test.YtkhbbjfdbbnojaaAm18
import Derived.Test.YtkhbbjfdbbnojaaProg
import Derived.KernelRfl
set_option linter.unusedVariables false
set_option maxRecDepth 100000
namespace Go.Proofs.Ytkhbbjfdbbnojaa
open Go Go.AM
def labs : List (Nat × List (Nat × LabCfg)) := [
  (9, [(20, { keep := [0, 1, 5, 7, 46, 47], own := [], trunc := false }),
    (39, { keep := [0, 1, 5, 7, 46, 47], own := [], trunc := false }),
    (37, { keep := [0, 1, 5, 7, 10, 46, 47], own := [], trunc := false })]),
  (58, [(27, { keep := [0, 9, 10], own := [], trunc := false })]),
  (59, [(21, { keep := [0, 8, 9], own := [], trunc := false }),
    (39, { keep := [0, 8, 9, 11], own := [], trunc := false })]),
  (60, [(10, { keep := [0, 6, 7, 16, 17, 18], own := [], trunc := false }),
    (89, { keep := [0, 6, 7, 16, 17, 18], own := [], trunc := false }),
    (18, { keep := [0, 6, 7, 9, 10, 16, 17, 18, 22, 23, 24], own := [], trunc := false }),
    (27, { keep := [0, 6, 7, 9, 10, 16, 17, 18, 22, 23, 24], own := [], trunc := false }),
    (71, { keep := [0, 6, 7, 10, 16, 17, 18], own := [], trunc := false }),
    (64, { keep := [0, 6, 7, 9, 10, 16, 17, 18], own := [], trunc := false }),
    (87, { keep := [0, 6, 7, 14, 16, 17, 18], own := [], trunc := false })]),
  (61, [(10, { keep := [1, 12, 13, 14], own := [], trunc := false })]),
  (62, [(10, { keep := [1, 12, 13, 14], own := [], trunc := false })]),
  (63, [(8, { keep := [3, 10], own := [], trunc := false })]),
  (118, [(8, { keep := [3, 6, 7, 8], own := [], trunc := false })])]
def flats : List (Nat × List (Nat × Unit)) := [(60, [(183, ())])]
def modes : List (Nat × Nat) := [(56, 1), (58, 1), (59, 1), (63, 2), (115, 4), (116, 1)]
def ownBoxes : List (Nat × List (Nat × List (Nat × Nat))) := []
def ownLits : List (Nat × List (Nat × Unit)) := []
def exts : List (Nat × (Bool × Nat)) := [(116, (true, 6))]
def cfg : Cfg := { mode := fun f => (AM.look f modes).getD 0, lab := fun f k => (AM.look f labs).bind (AM.look k), ownLit := fun f d => ((AM.look f ownLits).bind (AM.look d)).isSome, ownBox := fun f d => ((AM.look f ownBoxes).bind (AM.look d)).getD [], ext := fun f => AM.look f exts, flat := fun f d => ((AM.look f flats).bind (AM.look d)).isSome }
noncomputable def O : Oracle := den Try.prog cfg
theorem O_ent : O.ent = entRun Try.prog cfg O := den_ent
theorem O_lab : O.lab = labRun Try.prog cfg O := den_lab
end Go.Proofs.Ytkhbbjfdbbnojaa
