/-
  DERIVED. GIVEN WITH THE SEED: THE CARDS: each row of YtobechphfppffaaGreatDoorRows.lean that lists a variable, with what it lists TIED to the program's text (the seventh form; the later family's looks); each row that meets fmt, with fmt's text TOLD by the authors' own Lean function (tested against real Go, not proved from fmt's source: count such statements apart). THE CARD IS WHAT COUNTS. Prove the row's statement (the work); the ties are given (YtobechphfppffaaGreatDoorTie.lean); close each card by the builder's one call (the guide's Derived/Test/ToyasCard.lean, 'card_holds'). Laid BY PROGRAM, IN A SANDBOX (cutbox-door.mjs). By AI agents, Wed Nov 11 2026. No macro, syntax, notation, axiom, sorry.
-/
import Derived.Test.YtobechphfppffaaGreatDoorRows
import GoSem.ClaimSeven
namespace Go.Proofs.YtobechphfppffaaGreatDoor
namespace Rows

/-- THE TIED CARD OF 'interpreterlaw26.ConfigNobody'. -/
def configNobodyCard : Claim7 := { stood := { row := configNobodyRow, standIns := [], harness := (true, "d6a72afcefa5f77d4ccc8aeefd81543c656b055a7719e1cee39c752a72362dd9"), looks := true }, kinds := [], alts := [], laidByText := true, laidKinds := [.data, .data, .data, .data, .sentinel, .sentinel, .pinned], laidTests := true, laidLooks := .later }
def ConfigNobodyCardSaid : Prop := Claim7.holds Tryz.pinned (.plain (OpenSpec.ofChange configNobodySpec)) configNobodyCard

/-- THE TIED CARD OF 'interpreterlaw26.ConfigKnown'. -/
def configKnownCard : Claim7 := { stood := { row := configKnownRow, standIns := [], harness := (true, "d6a72afcefa5f77d4ccc8aeefd81543c656b055a7719e1cee39c752a72362dd9"), looks := true }, kinds := [], alts := [], laidByText := true, laidKinds := [.data, .data, .data, .data, .sentinel, .sentinel, .pinned], laidTests := true, laidLooks := .later }
def ConfigKnownCardSaid : Prop := Claim7.holds Tryz.pinned (.plain (OpenSpec.ofChange configKnownSpec)) configKnownCard

/-- THE TIED CARD OF 'interpreterlaw26.ConfigWords'. -/
def configWordsCard : Claim7 := { stood := { row := configWordsRow, standIns := [], harness := (true, "d6a72afcefa5f77d4ccc8aeefd81543c656b055a7719e1cee39c752a72362dd9"), looks := true }, kinds := [], alts := [], laidByText := true, laidKinds := [.data, .data, .data, .data, .sentinel, .sentinel, .pinned], laidTests := true, laidLooks := .later }
def ConfigWordsCardSaid : Prop := Claim7.holds Tryz.pinned (.plain (OpenSpec.ofChange configWordsSpec)) configWordsCard

/-- THE TIED CARD OF 'interpreterlaw26.ConfigBack'. -/
def configBackCard : Claim7 := { stood := { row := configBackRow, standIns := [], harness := (true, "d6a72afcefa5f77d4ccc8aeefd81543c656b055a7719e1cee39c752a72362dd9"), looks := true }, kinds := [], alts := [], laidByText := true, laidKinds := [.data, .data, .data, .data, .sentinel, .sentinel, .pinned], laidTests := true, laidLooks := .later }
def ConfigBackCardSaid : Prop := Claim7.holds Tryz.pinned (.plain (OpenSpec.ofChange configBackSpec)) configBackCard

/-- THE TIED CARD OF 'interpreterlaw26.ConfigPlays'. -/
def configPlaysCard : Claim7 := { stood := { row := configPlaysRow, standIns := [], harness := (true, "d6a72afcefa5f77d4ccc8aeefd81543c656b055a7719e1cee39c752a72362dd9"), looks := true }, kinds := [], alts := [], laidByText := true, laidKinds := [.data, .data, .data, .data, .sentinel, .sentinel, .pinned], laidTests := true, laidLooks := .later }
def ConfigPlaysCardSaid : Prop := Claim7.holds Tryz.pinned (.plain (OpenSpec.ofChange configPlaysSpec)) configPlaysCard

/-- THE TIED CARD OF 'interpreterlaw26.ConfigHolds'. -/
def configHoldsCard : Claim7 := { stood := { row := configHoldsRow, standIns := [], harness := (true, "d6a72afcefa5f77d4ccc8aeefd81543c656b055a7719e1cee39c752a72362dd9"), looks := true }, kinds := [], alts := [], laidByText := true, laidKinds := [.data, .data, .data, .data, .sentinel, .sentinel, .pinned], laidTests := true, laidLooks := .later }
def ConfigHoldsCardSaid : Prop := Claim7.holds Tryz.pinned (.plain (OpenSpec.ofChange configHoldsSpec)) configHoldsCard

/-- THE TIED CARD OF 'interpreterlaw26.ConfigOwn'. -/
def configOwnCard : Claim7 := { stood := { row := configOwnRow, standIns := [], harness := (true, "d6a72afcefa5f77d4ccc8aeefd81543c656b055a7719e1cee39c752a72362dd9"), looks := true }, kinds := [], alts := [], laidByText := true, laidKinds := [.data, .data, .data, .data, .sentinel, .sentinel, .pinned], laidTests := true, laidLooks := .later }
def ConfigOwnCardSaid : Prop := Claim7.holds Tryz.pinned (.plain (OpenSpec.ofChange configOwnSpec)) configOwnCard

/-- THE SECOND FORM's CARD OF 'interpreterlaw26.ConfigNobody'. -/
def configNobodyUptoCard : Claim7 := { stood := { row := configNobodyUptoRow, standIns := [], harness := (true, "d6a72afcefa5f77d4ccc8aeefd81543c656b055a7719e1cee39c752a72362dd9"), looks := true }, kinds := [], alts := [], laidByText := true, laidKinds := [.data, .data, .data, .data, .sentinel, .sentinel, .pinned], laidTests := true, laidLooks := .later }
def ConfigNobodyUptoCardSaid : Prop := Claim7.holds Tryz.pinned (.plain (OpenSpec.upto configNobodySpec)) configNobodyUptoCard

/-- THE SECOND FORM's CARD OF 'interpreterlaw26.ConfigKnown'. -/
def configKnownUptoCard : Claim7 := { stood := { row := configKnownUptoRow, standIns := [], harness := (true, "d6a72afcefa5f77d4ccc8aeefd81543c656b055a7719e1cee39c752a72362dd9"), looks := true }, kinds := [], alts := [], laidByText := true, laidKinds := [.data, .data, .data, .data, .sentinel, .sentinel, .pinned], laidTests := true, laidLooks := .later }
def ConfigKnownUptoCardSaid : Prop := Claim7.holds Tryz.pinned (.plain (OpenSpec.upto configKnownSpec)) configKnownUptoCard

/-- THE SECOND FORM's CARD OF 'interpreterlaw26.ConfigWords'. -/
def configWordsUptoCard : Claim7 := { stood := { row := configWordsUptoRow, standIns := [], harness := (true, "d6a72afcefa5f77d4ccc8aeefd81543c656b055a7719e1cee39c752a72362dd9"), looks := true }, kinds := [], alts := [], laidByText := true, laidKinds := [.data, .data, .data, .data, .sentinel, .sentinel, .pinned], laidTests := true, laidLooks := .later }
def ConfigWordsUptoCardSaid : Prop := Claim7.holds Tryz.pinned (.plain (OpenSpec.upto configWordsSpec)) configWordsUptoCard

/-- THE SECOND FORM's CARD OF 'interpreterlaw26.ConfigBack'. -/
def configBackUptoCard : Claim7 := { stood := { row := configBackUptoRow, standIns := [], harness := (true, "d6a72afcefa5f77d4ccc8aeefd81543c656b055a7719e1cee39c752a72362dd9"), looks := true }, kinds := [], alts := [], laidByText := true, laidKinds := [.data, .data, .data, .data, .sentinel, .sentinel, .pinned], laidTests := true, laidLooks := .later }
def ConfigBackUptoCardSaid : Prop := Claim7.holds Tryz.pinned (.plain (OpenSpec.upto configBackSpec)) configBackUptoCard

/-- THE SECOND FORM's CARD OF 'interpreterlaw26.ConfigPlays'. -/
def configPlaysUptoCard : Claim7 := { stood := { row := configPlaysUptoRow, standIns := [], harness := (true, "d6a72afcefa5f77d4ccc8aeefd81543c656b055a7719e1cee39c752a72362dd9"), looks := true }, kinds := [], alts := [], laidByText := true, laidKinds := [.data, .data, .data, .data, .sentinel, .sentinel, .pinned], laidTests := true, laidLooks := .later }
def ConfigPlaysUptoCardSaid : Prop := Claim7.holds Tryz.pinned (.plain (OpenSpec.upto configPlaysSpec)) configPlaysUptoCard

/-- THE SECOND FORM's CARD OF 'interpreterlaw26.ConfigHolds'. -/
def configHoldsUptoCard : Claim7 := { stood := { row := configHoldsUptoRow, standIns := [], harness := (true, "d6a72afcefa5f77d4ccc8aeefd81543c656b055a7719e1cee39c752a72362dd9"), looks := true }, kinds := [], alts := [], laidByText := true, laidKinds := [.data, .data, .data, .data, .sentinel, .sentinel, .pinned], laidTests := true, laidLooks := .later }
def ConfigHoldsUptoCardSaid : Prop := Claim7.holds Tryz.pinned (.plain (OpenSpec.upto configHoldsSpec)) configHoldsUptoCard

/-- THE SECOND FORM's CARD OF 'interpreterlaw26.ConfigOwn'. -/
def configOwnUptoCard : Claim7 := { stood := { row := configOwnUptoRow, standIns := [], harness := (true, "d6a72afcefa5f77d4ccc8aeefd81543c656b055a7719e1cee39c752a72362dd9"), looks := true }, kinds := [], alts := [], laidByText := true, laidKinds := [.data, .data, .data, .data, .sentinel, .sentinel, .pinned], laidTests := true, laidLooks := .later }
def ConfigOwnUptoCardSaid : Prop := Claim7.holds Tryz.pinned (.plain (OpenSpec.upto configOwnSpec)) configOwnUptoCard
end Rows
end Go.Proofs.YtobechphfppffaaGreatDoor
