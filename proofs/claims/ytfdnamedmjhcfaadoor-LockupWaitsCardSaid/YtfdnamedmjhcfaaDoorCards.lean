/-
  DERIVED. GIVEN WITH THE SEED: THE CARDS: each row of YtfdnamedmjhcfaaDoorRows.lean that lists a variable, with what it lists TIED to the program's text (the seventh form; the later family's looks); each row that meets fmt, with fmt's text TOLD by the authors' own Lean function (tested against real Go, not proved from fmt's source: count such statements apart). THE CARD IS WHAT COUNTS. Prove the row's statement (the work); the ties are given (YtfdnamedmjhcfaaDoorTie.lean); close each card by the builder's one call (the guide's Derived/Test/ToyasCard.lean, 'card_holds'). Laid BY PROGRAM, IN A SANDBOX (cutbox-door.mjs). By AI agents, Wed Nov 11 2026. No macro, syntax, notation, axiom, sorry.
-/
import Derived.Test.YtfdnamedmjhcfaaDoorRows
import GoSem.ClaimSeven
namespace Go.Proofs.YtfdnamedmjhcfaaDoor
namespace Rows

/-- THE TIED CARD OF 'backstitchlaw4.LockupWaits'. -/
def lockupWaitsCard : Claim7 := { stood := { row := lockupWaitsRow, standIns := [], harness := (true, "592a95ae9b489047b7f8729ab7aad537ec6b2c15888b8a616c1a119af2f6f5ab"), looks := false }, kinds := [], alts := [], laidByText := true, laidKinds := [.listed, .data], laidTests := true, laidLooks := .later }
def LockupWaitsCardSaid : Prop := Claim7.holds Tryd.pinned (.plain (OpenSpec.ofChange lockupWaitsSpec)) lockupWaitsCard

/-- THE TIED CARD OF 'backstitchlaw4.WalkMarks'. -/
def walkMarksCard : Claim7 := { stood := { row := walkMarksRow, standIns := [], harness := (true, "592a95ae9b489047b7f8729ab7aad537ec6b2c15888b8a616c1a119af2f6f5ab"), looks := false }, kinds := [], alts := [], laidByText := true, laidKinds := [.listed, .data], laidTests := true, laidLooks := .later }
def WalkMarksCardSaid : Prop := Claim7.holds Tryd.pinned (.plain (OpenSpec.ofChange walkMarksSpec)) walkMarksCard

/-- THE TIED CARD OF 'backstitchlaw4.BrkFirsts'. -/
def brkFirstsCard : Claim7 := { stood := { row := brkFirstsRow, standIns := [], harness := (true, "592a95ae9b489047b7f8729ab7aad537ec6b2c15888b8a616c1a119af2f6f5ab"), looks := false }, kinds := [], alts := [], laidByText := true, laidKinds := [.data, .pinned], laidTests := true, laidLooks := .later }
def BrkFirstsCardSaid : Prop := Claim7.holds Tryd.pinned (.plain (OpenSpec.ofChange brkFirstsSpec)) brkFirstsCard

/-- THE TIED CARD OF 'backstitchlaw4.BrkTells'. -/
def brkTellsCard : Claim7 := { stood := { row := brkTellsRow, standIns := [], harness := (true, "592a95ae9b489047b7f8729ab7aad537ec6b2c15888b8a616c1a119af2f6f5ab"), looks := false }, kinds := [], alts := [], laidByText := true, laidKinds := [.data, .data, .data, .data, .pinned], laidTests := true, laidLooks := .later }
def BrkTellsCardSaid : Prop := Claim7.holds Tryd.pinned (.plain (OpenSpec.ofChange brkTellsSpec)) brkTellsCard

/-- THE SECOND FORM's CARD OF 'backstitchlaw4.LockupWaits'. -/
def lockupWaitsUptoCard : Claim7 := { stood := { row := lockupWaitsUptoRow, standIns := [], harness := (true, "592a95ae9b489047b7f8729ab7aad537ec6b2c15888b8a616c1a119af2f6f5ab"), looks := false }, kinds := [], alts := [], laidByText := true, laidKinds := [.listed, .data], laidTests := true, laidLooks := .later }
def LockupWaitsUptoCardSaid : Prop := Claim7.holds Tryd.pinned (.plain (OpenSpec.upto lockupWaitsSpec)) lockupWaitsUptoCard

/-- THE SECOND FORM's CARD OF 'backstitchlaw4.WalkMarks'. -/
def walkMarksUptoCard : Claim7 := { stood := { row := walkMarksUptoRow, standIns := [], harness := (true, "592a95ae9b489047b7f8729ab7aad537ec6b2c15888b8a616c1a119af2f6f5ab"), looks := false }, kinds := [], alts := [], laidByText := true, laidKinds := [.listed, .data], laidTests := true, laidLooks := .later }
def WalkMarksUptoCardSaid : Prop := Claim7.holds Tryd.pinned (.plain (OpenSpec.upto walkMarksSpec)) walkMarksUptoCard

/-- THE SECOND FORM's CARD OF 'backstitchlaw4.BrkFirsts'. -/
def brkFirstsUptoCard : Claim7 := { stood := { row := brkFirstsUptoRow, standIns := [], harness := (true, "592a95ae9b489047b7f8729ab7aad537ec6b2c15888b8a616c1a119af2f6f5ab"), looks := false }, kinds := [], alts := [], laidByText := true, laidKinds := [.data, .pinned], laidTests := true, laidLooks := .later }
def BrkFirstsUptoCardSaid : Prop := Claim7.holds Tryd.pinned (.plain (OpenSpec.upto brkFirstsSpec)) brkFirstsUptoCard

/-- THE SECOND FORM's CARD OF 'backstitchlaw4.BrkTells'. -/
def brkTellsUptoCard : Claim7 := { stood := { row := brkTellsUptoRow, standIns := [], harness := (true, "592a95ae9b489047b7f8729ab7aad537ec6b2c15888b8a616c1a119af2f6f5ab"), looks := false }, kinds := [], alts := [], laidByText := true, laidKinds := [.data, .data, .data, .data, .pinned], laidTests := true, laidLooks := .later }
def BrkTellsUptoCardSaid : Prop := Claim7.holds Tryd.pinned (.plain (OpenSpec.upto brkTellsSpec)) brkTellsUptoCard
end Rows
end Go.Proofs.YtfdnamedmjhcfaaDoor
