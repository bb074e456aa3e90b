/-
  DERIVED. GIVEN WITH THE SEED: THE CARDS: each row of YtpkhoemonibajaaDoorRows.lean that lists a variable, with what it lists TIED to the program's text (the seventh form; the later family's looks); each row that meets fmt, with fmt's text TOLD by the authors' own Lean function (tested against real Go, not proved from fmt's source: count such statements apart). THE CARD IS WHAT COUNTS. Prove the row's statement (the work); the ties are given (YtpkhoemonibajaaDoorTie.lean); close each card by the builder's one call (the guide's Derived/Test/ToyasCard.lean, 'card_holds'). Laid BY PROGRAM, IN A SANDBOX (cutbox-door.mjs). By AI agents, Wed Nov 11 2026. No macro, syntax, notation, axiom, sorry.
-/
import Derived.Test.YtpkhoemonibajaaDoorRows
import GoSem.ClaimSeven
namespace Go.Proofs.YtpkhoemonibajaaDoor
namespace Rows

/-- THE TIED CARD OF 'interpreterlaw21.BibKnown'. -/
def bibKnownCard : Claim7 := { stood := { row := bibKnownRow, standIns := [], harness := (true, "0100e7229194faa4373a57a795634299d592154f9ed6e2293633068e6b39936a"), looks := true }, kinds := [], alts := [], laidByText := true, laidKinds := [.data, .data, .data], laidTests := true, laidLooks := .later }
def BibKnownCardSaid : Prop := Claim7.holds Tryd.pinned (.plain (OpenSpec.ofChange bibKnownSpec)) bibKnownCard

/-- THE TIED CARD OF 'interpreterlaw21.BibHeld'. -/
def bibHeldCard : Claim7 := { stood := { row := bibHeldRow, standIns := [], harness := (true, "0100e7229194faa4373a57a795634299d592154f9ed6e2293633068e6b39936a"), looks := true }, kinds := [], alts := [], laidByText := true, laidKinds := [.data, .data, .data], laidTests := true, laidLooks := .later }
def BibHeldCardSaid : Prop := Claim7.holds Tryd.pinned (.plain (OpenSpec.ofChange bibHeldSpec)) bibHeldCard

/-- THE TIED CARD OF 'interpreterlaw24.SynsOnce'. -/
def synsOnceCard : Claim7 := { stood := { row := synsOnceRow, standIns := [], harness := (true, "0100e7229194faa4373a57a795634299d592154f9ed6e2293633068e6b39936a"), looks := true }, kinds := [], alts := [], laidByText := true, laidKinds := [.data, .data, .data], laidTests := true, laidLooks := .later }
def SynsOnceCardSaid : Prop := Claim7.holds Tryd.pinned (.plain (OpenSpec.ofChange synsOnceSpec)) synsOnceCard

/-- THE TIED CARD OF 'interpreterlaw24.SynsFirst'. -/
def synsFirstCard : Claim7 := { stood := { row := synsFirstRow, standIns := [], harness := (true, "0100e7229194faa4373a57a795634299d592154f9ed6e2293633068e6b39936a"), looks := true }, kinds := [], alts := [], laidByText := true, laidKinds := [.data, .data, .data], laidTests := true, laidLooks := .later }
def SynsFirstCardSaid : Prop := Claim7.holds Tryd.pinned (.plain (OpenSpec.ofChange synsFirstSpec)) synsFirstCard

/-- THE TIED CARD OF 'interpreterlaw24.SynsKnown'. -/
def synsKnownCard : Claim7 := { stood := { row := synsKnownRow, standIns := [], harness := (true, "0100e7229194faa4373a57a795634299d592154f9ed6e2293633068e6b39936a"), looks := true }, kinds := [], alts := [], laidByText := true, laidKinds := [.data, .data, .data], laidTests := true, laidLooks := .later }
def SynsKnownCardSaid : Prop := Claim7.holds Tryd.pinned (.plain (OpenSpec.ofChange synsKnownSpec)) synsKnownCard

/-- THE TIED CARD OF 'interpreterlaw22.SessionParts'. -/
def sessionPartsCard : Claim7 := { stood := { row := sessionPartsRow, standIns := [], harness := (true, "0100e7229194faa4373a57a795634299d592154f9ed6e2293633068e6b39936a"), looks := true }, kinds := [], alts := [], laidByText := true, laidKinds := [.data, .data, .data], laidTests := true, laidLooks := .later }
def SessionPartsCardSaid : Prop := Claim7.holds Tryd.pinned (.plain (OpenSpec.ofChange sessionPartsSpec)) sessionPartsCard

/-- THE TIED CARD OF 'interpreterlaw24.SynsPlays'. -/
def synsPlaysCard : Claim7 := { stood := { row := synsPlaysRow, standIns := [], harness := (true, "0100e7229194faa4373a57a795634299d592154f9ed6e2293633068e6b39936a"), looks := true }, kinds := [], alts := [], laidByText := true, laidKinds := [.data, .data, .data], laidTests := true, laidLooks := .later }
def SynsPlaysCardSaid : Prop := Claim7.holds Tryd.pinned (.plain (OpenSpec.ofChange synsPlaysSpec)) synsPlaysCard

/-- THE TIED CARD OF 'interpreterlaw24.SynsNobody'. -/
def synsNobodyCard : Claim7 := { stood := { row := synsNobodyRow, standIns := [], harness := (true, "0100e7229194faa4373a57a795634299d592154f9ed6e2293633068e6b39936a"), looks := true }, kinds := [], alts := [], laidByText := true, laidKinds := [.data, .data, .data], laidTests := true, laidLooks := .later }
def SynsNobodyCardSaid : Prop := Claim7.holds Tryd.pinned (.plain (OpenSpec.ofChange synsNobodySpec)) synsNobodyCard

/-- THE TIED CARD OF 'interpreterlaw22.SessionKnown'. -/
def sessionKnownCard : Claim7 := { stood := { row := sessionKnownRow, standIns := [], harness := (true, "0100e7229194faa4373a57a795634299d592154f9ed6e2293633068e6b39936a"), looks := true }, kinds := [], alts := [], laidByText := true, laidKinds := [.data, .data, .data], laidTests := true, laidLooks := .later }
def SessionKnownCardSaid : Prop := Claim7.holds Tryd.pinned (.plain (OpenSpec.ofChange sessionKnownSpec)) sessionKnownCard

/-- THE TIED CARD OF 'interpreterlaw22.SessionNobody'. -/
def sessionNobodyCard : Claim7 := { stood := { row := sessionNobodyRow, standIns := [], harness := (true, "0100e7229194faa4373a57a795634299d592154f9ed6e2293633068e6b39936a"), looks := true }, kinds := [], alts := [], laidByText := true, laidKinds := [.data, .data, .data], laidTests := true, laidLooks := .later }
def SessionNobodyCardSaid : Prop := Claim7.holds Tryd.pinned (.plain (OpenSpec.ofChange sessionNobodySpec)) sessionNobodyCard

/-- THE TIED CARD OF 'interpreterlaw22.SessionHas'. -/
def sessionHasCard : Claim7 := { stood := { row := sessionHasRow, standIns := [], harness := (true, "0100e7229194faa4373a57a795634299d592154f9ed6e2293633068e6b39936a"), looks := true }, kinds := [], alts := [], laidByText := true, laidKinds := [.data, .data, .data], laidTests := true, laidLooks := .later }
def SessionHasCardSaid : Prop := Claim7.holds Tryd.pinned (.plain (OpenSpec.ofChange sessionHasSpec)) sessionHasCard

/-- THE TIED CARD OF 'interpreterlaw21.BibPairs'. -/
def bibPairsCard : Claim7 := { stood := { row := bibPairsRow, standIns := [], harness := (true, "0100e7229194faa4373a57a795634299d592154f9ed6e2293633068e6b39936a"), looks := true }, kinds := [], alts := [], laidByText := true, laidKinds := [.data, .data, .data], laidTests := true, laidLooks := .later }
def BibPairsCardSaid : Prop := Claim7.holds Tryd.pinned (.plain (OpenSpec.ofChange bibPairsSpec)) bibPairsCard

/-- THE TIED CARD OF 'interpreterlaw21.BibOnce'. -/
def bibOnceCard : Claim7 := { stood := { row := bibOnceRow, standIns := [], harness := (true, "0100e7229194faa4373a57a795634299d592154f9ed6e2293633068e6b39936a"), looks := true }, kinds := [], alts := [], laidByText := true, laidKinds := [.data, .data, .data], laidTests := true, laidLooks := .later }
def BibOnceCardSaid : Prop := Claim7.holds Tryd.pinned (.plain (OpenSpec.ofChange bibOnceSpec)) bibOnceCard

/-- THE TIED CARD OF 'interpreterlaw21.BibNobody'. -/
def bibNobodyCard : Claim7 := { stood := { row := bibNobodyRow, standIns := [], harness := (true, "0100e7229194faa4373a57a795634299d592154f9ed6e2293633068e6b39936a"), looks := true }, kinds := [], alts := [], laidByText := true, laidKinds := [.data, .data, .data], laidTests := true, laidLooks := .later }
def BibNobodyCardSaid : Prop := Claim7.holds Tryd.pinned (.plain (OpenSpec.ofChange bibNobodySpec)) bibNobodyCard

/-- THE SECOND FORM's CARD OF 'interpreterlaw21.BibKnown'. -/
def bibKnownUptoCard : Claim7 := { stood := { row := bibKnownUptoRow, standIns := [], harness := (true, "0100e7229194faa4373a57a795634299d592154f9ed6e2293633068e6b39936a"), looks := true }, kinds := [], alts := [], laidByText := true, laidKinds := [.data, .data, .data], laidTests := true, laidLooks := .later }
def BibKnownUptoCardSaid : Prop := Claim7.holds Tryd.pinned (.plain (OpenSpec.upto bibKnownSpec)) bibKnownUptoCard

/-- THE SECOND FORM's CARD OF 'interpreterlaw21.BibHeld'. -/
def bibHeldUptoCard : Claim7 := { stood := { row := bibHeldUptoRow, standIns := [], harness := (true, "0100e7229194faa4373a57a795634299d592154f9ed6e2293633068e6b39936a"), looks := true }, kinds := [], alts := [], laidByText := true, laidKinds := [.data, .data, .data], laidTests := true, laidLooks := .later }
def BibHeldUptoCardSaid : Prop := Claim7.holds Tryd.pinned (.plain (OpenSpec.upto bibHeldSpec)) bibHeldUptoCard

/-- THE SECOND FORM's CARD OF 'interpreterlaw24.SynsOnce'. -/
def synsOnceUptoCard : Claim7 := { stood := { row := synsOnceUptoRow, standIns := [], harness := (true, "0100e7229194faa4373a57a795634299d592154f9ed6e2293633068e6b39936a"), looks := true }, kinds := [], alts := [], laidByText := true, laidKinds := [.data, .data, .data], laidTests := true, laidLooks := .later }
def SynsOnceUptoCardSaid : Prop := Claim7.holds Tryd.pinned (.plain (OpenSpec.upto synsOnceSpec)) synsOnceUptoCard

/-- THE SECOND FORM's CARD OF 'interpreterlaw24.SynsFirst'. -/
def synsFirstUptoCard : Claim7 := { stood := { row := synsFirstUptoRow, standIns := [], harness := (true, "0100e7229194faa4373a57a795634299d592154f9ed6e2293633068e6b39936a"), looks := true }, kinds := [], alts := [], laidByText := true, laidKinds := [.data, .data, .data], laidTests := true, laidLooks := .later }
def SynsFirstUptoCardSaid : Prop := Claim7.holds Tryd.pinned (.plain (OpenSpec.upto synsFirstSpec)) synsFirstUptoCard

/-- THE SECOND FORM's CARD OF 'interpreterlaw24.SynsKnown'. -/
def synsKnownUptoCard : Claim7 := { stood := { row := synsKnownUptoRow, standIns := [], harness := (true, "0100e7229194faa4373a57a795634299d592154f9ed6e2293633068e6b39936a"), looks := true }, kinds := [], alts := [], laidByText := true, laidKinds := [.data, .data, .data], laidTests := true, laidLooks := .later }
def SynsKnownUptoCardSaid : Prop := Claim7.holds Tryd.pinned (.plain (OpenSpec.upto synsKnownSpec)) synsKnownUptoCard

/-- THE SECOND FORM's CARD OF 'interpreterlaw22.SessionParts'. -/
def sessionPartsUptoCard : Claim7 := { stood := { row := sessionPartsUptoRow, standIns := [], harness := (true, "0100e7229194faa4373a57a795634299d592154f9ed6e2293633068e6b39936a"), looks := true }, kinds := [], alts := [], laidByText := true, laidKinds := [.data, .data, .data], laidTests := true, laidLooks := .later }
def SessionPartsUptoCardSaid : Prop := Claim7.holds Tryd.pinned (.plain (OpenSpec.upto sessionPartsSpec)) sessionPartsUptoCard

/-- THE SECOND FORM's CARD OF 'interpreterlaw24.SynsPlays'. -/
def synsPlaysUptoCard : Claim7 := { stood := { row := synsPlaysUptoRow, standIns := [], harness := (true, "0100e7229194faa4373a57a795634299d592154f9ed6e2293633068e6b39936a"), looks := true }, kinds := [], alts := [], laidByText := true, laidKinds := [.data, .data, .data], laidTests := true, laidLooks := .later }
def SynsPlaysUptoCardSaid : Prop := Claim7.holds Tryd.pinned (.plain (OpenSpec.upto synsPlaysSpec)) synsPlaysUptoCard

/-- THE SECOND FORM's CARD OF 'interpreterlaw24.SynsNobody'. -/
def synsNobodyUptoCard : Claim7 := { stood := { row := synsNobodyUptoRow, standIns := [], harness := (true, "0100e7229194faa4373a57a795634299d592154f9ed6e2293633068e6b39936a"), looks := true }, kinds := [], alts := [], laidByText := true, laidKinds := [.data, .data, .data], laidTests := true, laidLooks := .later }
def SynsNobodyUptoCardSaid : Prop := Claim7.holds Tryd.pinned (.plain (OpenSpec.upto synsNobodySpec)) synsNobodyUptoCard

/-- THE SECOND FORM's CARD OF 'interpreterlaw22.SessionKnown'. -/
def sessionKnownUptoCard : Claim7 := { stood := { row := sessionKnownUptoRow, standIns := [], harness := (true, "0100e7229194faa4373a57a795634299d592154f9ed6e2293633068e6b39936a"), looks := true }, kinds := [], alts := [], laidByText := true, laidKinds := [.data, .data, .data], laidTests := true, laidLooks := .later }
def SessionKnownUptoCardSaid : Prop := Claim7.holds Tryd.pinned (.plain (OpenSpec.upto sessionKnownSpec)) sessionKnownUptoCard

/-- THE SECOND FORM's CARD OF 'interpreterlaw22.SessionNobody'. -/
def sessionNobodyUptoCard : Claim7 := { stood := { row := sessionNobodyUptoRow, standIns := [], harness := (true, "0100e7229194faa4373a57a795634299d592154f9ed6e2293633068e6b39936a"), looks := true }, kinds := [], alts := [], laidByText := true, laidKinds := [.data, .data, .data], laidTests := true, laidLooks := .later }
def SessionNobodyUptoCardSaid : Prop := Claim7.holds Tryd.pinned (.plain (OpenSpec.upto sessionNobodySpec)) sessionNobodyUptoCard

/-- THE SECOND FORM's CARD OF 'interpreterlaw22.SessionHas'. -/
def sessionHasUptoCard : Claim7 := { stood := { row := sessionHasUptoRow, standIns := [], harness := (true, "0100e7229194faa4373a57a795634299d592154f9ed6e2293633068e6b39936a"), looks := true }, kinds := [], alts := [], laidByText := true, laidKinds := [.data, .data, .data], laidTests := true, laidLooks := .later }
def SessionHasUptoCardSaid : Prop := Claim7.holds Tryd.pinned (.plain (OpenSpec.upto sessionHasSpec)) sessionHasUptoCard

/-- THE SECOND FORM's CARD OF 'interpreterlaw21.BibPairs'. -/
def bibPairsUptoCard : Claim7 := { stood := { row := bibPairsUptoRow, standIns := [], harness := (true, "0100e7229194faa4373a57a795634299d592154f9ed6e2293633068e6b39936a"), looks := true }, kinds := [], alts := [], laidByText := true, laidKinds := [.data, .data, .data], laidTests := true, laidLooks := .later }
def BibPairsUptoCardSaid : Prop := Claim7.holds Tryd.pinned (.plain (OpenSpec.upto bibPairsSpec)) bibPairsUptoCard

/-- THE SECOND FORM's CARD OF 'interpreterlaw21.BibOnce'. -/
def bibOnceUptoCard : Claim7 := { stood := { row := bibOnceUptoRow, standIns := [], harness := (true, "0100e7229194faa4373a57a795634299d592154f9ed6e2293633068e6b39936a"), looks := true }, kinds := [], alts := [], laidByText := true, laidKinds := [.data, .data, .data], laidTests := true, laidLooks := .later }
def BibOnceUptoCardSaid : Prop := Claim7.holds Tryd.pinned (.plain (OpenSpec.upto bibOnceSpec)) bibOnceUptoCard

/-- THE SECOND FORM's CARD OF 'interpreterlaw21.BibNobody'. -/
def bibNobodyUptoCard : Claim7 := { stood := { row := bibNobodyUptoRow, standIns := [], harness := (true, "0100e7229194faa4373a57a795634299d592154f9ed6e2293633068e6b39936a"), looks := true }, kinds := [], alts := [], laidByText := true, laidKinds := [.data, .data, .data], laidTests := true, laidLooks := .later }
def BibNobodyUptoCardSaid : Prop := Claim7.holds Tryd.pinned (.plain (OpenSpec.upto bibNobodySpec)) bibNobodyUptoCard
end Rows
end Go.Proofs.YtpkhoemonibajaaDoor
