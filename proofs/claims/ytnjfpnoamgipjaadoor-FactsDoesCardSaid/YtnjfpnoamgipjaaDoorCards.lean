/-
  DERIVED. GIVEN WITH THE SEED: THE CARDS: each row of YtnjfpnoamgipjaaDoorRows.lean that lists a variable, with what it lists TIED to the program's text (the seventh form; the later family's looks); each row that meets fmt, with fmt's text TOLD by the authors' own Lean function (tested against real Go, not proved from fmt's source: count such statements apart). THE CARD IS WHAT COUNTS. Prove the row's statement (the work); the ties are given (YtnjfpnoamgipjaaDoorTie.lean); close each card by the builder's one call (the guide's Derived/Test/ToyasCard.lean, 'card_holds'). Laid BY PROGRAM, IN A SANDBOX (cutbox-door.mjs). By AI agents, Wed Nov 11 2026. No macro, syntax, notation, axiom, sorry.
-/
import Derived.Test.YtnjfpnoamgipjaaDoorRows
import GoSem.ClaimSeven
namespace Go.Proofs.YtnjfpnoamgipjaaDoor
namespace Rows

/-- THE TIED CARD OF 'backstitchlaw2.IrChecks'. -/
def irChecksCard : Claim7 := { stood := { row := irChecksRow, standIns := [], harness := (true, "ec216e15b5e855b586eae21178a7a68b6c376c5f94f582552495f8a4e5f10422"), looks := false }, kinds := [], alts := [], laidByText := true, laidKinds := [.listed, .data], laidTests := true, laidLooks := .later }
def IrChecksCardSaid : Prop := Claim7.holds Tryd.pinned (.plain (OpenSpec.ofChange irChecksSpec)) irChecksCard

/-- THE TIED CARD OF 'backstitchlaw2.IrKinds'. -/
def irKindsCard : Claim7 := { stood := { row := irKindsRow, standIns := [], harness := (true, "ec216e15b5e855b586eae21178a7a68b6c376c5f94f582552495f8a4e5f10422"), looks := false }, kinds := [], alts := [], laidByText := true, laidKinds := [.listed, .data], laidTests := true, laidLooks := .later }
def IrKindsCardSaid : Prop := Claim7.holds Tryd.pinned (.plain (OpenSpec.ofChange irKindsSpec)) irKindsCard

/-- THE TIED CARD OF 'backstitchlaw2.IrCuts'. -/
def irCutsCard : Claim7 := { stood := { row := irCutsRow, standIns := [], harness := (true, "ec216e15b5e855b586eae21178a7a68b6c376c5f94f582552495f8a4e5f10422"), looks := false }, kinds := [], alts := [], laidByText := true, laidKinds := [.listed, .data], laidTests := true, laidLooks := .later }
def IrCutsCardSaid : Prop := Claim7.holds Tryd.pinned (.plain (OpenSpec.ofChange irCutsSpec)) irCutsCard

/-- THE TIED CARD OF 'backstitchlaw2.SpanOfs'. -/
def spanOfsCard : Claim7 := { stood := { row := spanOfsRow, standIns := [], harness := (true, "ec216e15b5e855b586eae21178a7a68b6c376c5f94f582552495f8a4e5f10422"), looks := false }, kinds := [], alts := [], laidByText := true, laidKinds := [.listed, .data], laidTests := true, laidLooks := .later }
def SpanOfsCardSaid : Prop := Claim7.holds Tryd.pinned (.plain (OpenSpec.ofChange spanOfsSpec)) spanOfsCard

/-- THE TIED CARD OF 'backstitchlaw2.CseDoes'. -/
def cseDoesCard : Claim7 := { stood := { row := cseDoesRow, standIns := [], harness := (true, "ec216e15b5e855b586eae21178a7a68b6c376c5f94f582552495f8a4e5f10422"), looks := false }, kinds := [], alts := [], laidByText := true, laidKinds := [.listed, .data], laidTests := true, laidLooks := .later }
def CseDoesCardSaid : Prop := Claim7.holds Tryd.pinned (.plain (OpenSpec.ofChange cseDoesSpec)) cseDoesCard

/-- THE TIED CARD OF 'backstitchlaw2.FactsDoes'. -/
def factsDoesCard : Claim7 := { stood := { row := factsDoesRow, standIns := [], harness := (true, "ec216e15b5e855b586eae21178a7a68b6c376c5f94f582552495f8a4e5f10422"), looks := false }, kinds := [], alts := [], laidByText := true, laidKinds := [.listed, .data], laidTests := true, laidLooks := .later }
def FactsDoesCardSaid : Prop := Claim7.holds Tryd.pinned (.plain (OpenSpec.ofChange factsDoesSpec)) factsDoesCard

/-- THE TIED CARD OF 'backstitchlaw2.PeelDoes'. -/
def peelDoesCard : Claim7 := { stood := { row := peelDoesRow, standIns := [], harness := (true, "ec216e15b5e855b586eae21178a7a68b6c376c5f94f582552495f8a4e5f10422"), looks := false }, kinds := [], alts := [], laidByText := true, laidKinds := [.listed, .data], laidTests := true, laidLooks := .later }
def PeelDoesCardSaid : Prop := Claim7.holds Tryd.pinned (.plain (OpenSpec.ofChange peelDoesSpec)) peelDoesCard

/-- THE TIED CARD OF 'backstitchlaw2.SpanDoes'. -/
def spanDoesCard : Claim7 := { stood := { row := spanDoesRow, standIns := [], harness := (true, "ec216e15b5e855b586eae21178a7a68b6c376c5f94f582552495f8a4e5f10422"), looks := false }, kinds := [], alts := [], laidByText := true, laidKinds := [.listed, .data], laidTests := true, laidLooks := .later }
def SpanDoesCardSaid : Prop := Claim7.holds Tryd.pinned (.plain (OpenSpec.ofChange spanDoesSpec)) spanDoesCard

/-- THE TIED CARD OF 'backstitchlaw2.AliasDoes'. -/
def aliasDoesCard : Claim7 := { stood := { row := aliasDoesRow, standIns := [], harness := (true, "ec216e15b5e855b586eae21178a7a68b6c376c5f94f582552495f8a4e5f10422"), looks := false }, kinds := [], alts := [], laidByText := true, laidKinds := [.listed, .data], laidTests := true, laidLooks := .later }
def AliasDoesCardSaid : Prop := Claim7.holds Tryd.pinned (.plain (OpenSpec.ofChange aliasDoesSpec)) aliasDoesCard

/-- THE SECOND FORM's CARD OF 'backstitchlaw2.IrChecks'. -/
def irChecksUptoCard : Claim7 := { stood := { row := irChecksUptoRow, standIns := [], harness := (true, "ec216e15b5e855b586eae21178a7a68b6c376c5f94f582552495f8a4e5f10422"), looks := false }, kinds := [], alts := [], laidByText := true, laidKinds := [.listed, .data], laidTests := true, laidLooks := .later }
def IrChecksUptoCardSaid : Prop := Claim7.holds Tryd.pinned (.plain (OpenSpec.upto irChecksSpec)) irChecksUptoCard

/-- THE SECOND FORM's CARD OF 'backstitchlaw2.IrKinds'. -/
def irKindsUptoCard : Claim7 := { stood := { row := irKindsUptoRow, standIns := [], harness := (true, "ec216e15b5e855b586eae21178a7a68b6c376c5f94f582552495f8a4e5f10422"), looks := false }, kinds := [], alts := [], laidByText := true, laidKinds := [.listed, .data], laidTests := true, laidLooks := .later }
def IrKindsUptoCardSaid : Prop := Claim7.holds Tryd.pinned (.plain (OpenSpec.upto irKindsSpec)) irKindsUptoCard

/-- THE SECOND FORM's CARD OF 'backstitchlaw2.IrCuts'. -/
def irCutsUptoCard : Claim7 := { stood := { row := irCutsUptoRow, standIns := [], harness := (true, "ec216e15b5e855b586eae21178a7a68b6c376c5f94f582552495f8a4e5f10422"), looks := false }, kinds := [], alts := [], laidByText := true, laidKinds := [.listed, .data], laidTests := true, laidLooks := .later }
def IrCutsUptoCardSaid : Prop := Claim7.holds Tryd.pinned (.plain (OpenSpec.upto irCutsSpec)) irCutsUptoCard

/-- THE SECOND FORM's CARD OF 'backstitchlaw2.SpanOfs'. -/
def spanOfsUptoCard : Claim7 := { stood := { row := spanOfsUptoRow, standIns := [], harness := (true, "ec216e15b5e855b586eae21178a7a68b6c376c5f94f582552495f8a4e5f10422"), looks := false }, kinds := [], alts := [], laidByText := true, laidKinds := [.listed, .data], laidTests := true, laidLooks := .later }
def SpanOfsUptoCardSaid : Prop := Claim7.holds Tryd.pinned (.plain (OpenSpec.upto spanOfsSpec)) spanOfsUptoCard

/-- THE SECOND FORM's CARD OF 'backstitchlaw2.CseDoes'. -/
def cseDoesUptoCard : Claim7 := { stood := { row := cseDoesUptoRow, standIns := [], harness := (true, "ec216e15b5e855b586eae21178a7a68b6c376c5f94f582552495f8a4e5f10422"), looks := false }, kinds := [], alts := [], laidByText := true, laidKinds := [.listed, .data], laidTests := true, laidLooks := .later }
def CseDoesUptoCardSaid : Prop := Claim7.holds Tryd.pinned (.plain (OpenSpec.upto cseDoesSpec)) cseDoesUptoCard

/-- THE SECOND FORM's CARD OF 'backstitchlaw2.FactsDoes'. -/
def factsDoesUptoCard : Claim7 := { stood := { row := factsDoesUptoRow, standIns := [], harness := (true, "ec216e15b5e855b586eae21178a7a68b6c376c5f94f582552495f8a4e5f10422"), looks := false }, kinds := [], alts := [], laidByText := true, laidKinds := [.listed, .data], laidTests := true, laidLooks := .later }
def FactsDoesUptoCardSaid : Prop := Claim7.holds Tryd.pinned (.plain (OpenSpec.upto factsDoesSpec)) factsDoesUptoCard

/-- THE SECOND FORM's CARD OF 'backstitchlaw2.PeelDoes'. -/
def peelDoesUptoCard : Claim7 := { stood := { row := peelDoesUptoRow, standIns := [], harness := (true, "ec216e15b5e855b586eae21178a7a68b6c376c5f94f582552495f8a4e5f10422"), looks := false }, kinds := [], alts := [], laidByText := true, laidKinds := [.listed, .data], laidTests := true, laidLooks := .later }
def PeelDoesUptoCardSaid : Prop := Claim7.holds Tryd.pinned (.plain (OpenSpec.upto peelDoesSpec)) peelDoesUptoCard

/-- THE SECOND FORM's CARD OF 'backstitchlaw2.SpanDoes'. -/
def spanDoesUptoCard : Claim7 := { stood := { row := spanDoesUptoRow, standIns := [], harness := (true, "ec216e15b5e855b586eae21178a7a68b6c376c5f94f582552495f8a4e5f10422"), looks := false }, kinds := [], alts := [], laidByText := true, laidKinds := [.listed, .data], laidTests := true, laidLooks := .later }
def SpanDoesUptoCardSaid : Prop := Claim7.holds Tryd.pinned (.plain (OpenSpec.upto spanDoesSpec)) spanDoesUptoCard

/-- THE SECOND FORM's CARD OF 'backstitchlaw2.AliasDoes'. -/
def aliasDoesUptoCard : Claim7 := { stood := { row := aliasDoesUptoRow, standIns := [], harness := (true, "ec216e15b5e855b586eae21178a7a68b6c376c5f94f582552495f8a4e5f10422"), looks := false }, kinds := [], alts := [], laidByText := true, laidKinds := [.listed, .data], laidTests := true, laidLooks := .later }
def AliasDoesUptoCardSaid : Prop := Claim7.holds Tryd.pinned (.plain (OpenSpec.upto aliasDoesSpec)) aliasDoesUptoCard
end Rows
end Go.Proofs.YtnjfpnoamgipjaaDoor
