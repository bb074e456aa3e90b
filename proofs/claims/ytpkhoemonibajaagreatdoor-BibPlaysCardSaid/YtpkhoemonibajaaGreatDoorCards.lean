/-
  DERIVED. GIVEN WITH THE SEED: THE CARDS: each row of YtpkhoemonibajaaGreatDoorRows.lean that lists a variable, with what it lists TIED to the program's text (the seventh form; the later family's looks); each row that meets fmt, with fmt's text TOLD by the authors' own Lean function (tested against real Go, not proved from fmt's source: count such statements apart). THE CARD IS WHAT COUNTS. Prove the row's statement (the work); the ties are given (YtpkhoemonibajaaGreatDoorTie.lean); close each card by the builder's one call (the guide's Derived/Test/ToyasCard.lean, 'card_holds'). Laid BY PROGRAM, IN A SANDBOX (cutbox-door.mjs). By AI agents, Wed Nov 11 2026. No macro, syntax, notation, axiom, sorry.
-/
import Derived.Test.YtpkhoemonibajaaGreatDoorRows
import GoSem.ClaimSeven
namespace Go.Proofs.YtpkhoemonibajaaGreatDoor
namespace Rows

/-- THE TIED CARD OF 'interpreterlaw22.SessionPlays'. -/
def sessionPlaysCard : Claim7 := { stood := { row := sessionPlaysRow, standIns := [], harness := (true, "2fd531d12b8519b9bf8b37ce305cf6a7a55807b4e05ee48ccb970ae22ca02548"), looks := true }, kinds := [], alts := [], laidByText := true, laidKinds := [.data, .data, .data], laidTests := true, laidLooks := .later }
def SessionPlaysCardSaid : Prop := Claim7.holds Tryz.pinned (.plain (OpenSpec.ofChange sessionPlaysSpec)) sessionPlaysCard

/-- THE TIED CARD OF 'interpreterlaw21.BibPlays'. -/
def bibPlaysCard : Claim7 := { stood := { row := bibPlaysRow, standIns := [], harness := (true, "2fd531d12b8519b9bf8b37ce305cf6a7a55807b4e05ee48ccb970ae22ca02548"), looks := true }, kinds := [], alts := [], laidByText := true, laidKinds := [.data, .data, .data], laidTests := true, laidLooks := .later }
def BibPlaysCardSaid : Prop := Claim7.holds Tryz.pinned (.plain (OpenSpec.ofChange bibPlaysSpec)) bibPlaysCard

/-- THE SECOND FORM's CARD OF 'interpreterlaw22.SessionPlays'. -/
def sessionPlaysUptoCard : Claim7 := { stood := { row := sessionPlaysUptoRow, standIns := [], harness := (true, "2fd531d12b8519b9bf8b37ce305cf6a7a55807b4e05ee48ccb970ae22ca02548"), looks := true }, kinds := [], alts := [], laidByText := true, laidKinds := [.data, .data, .data], laidTests := true, laidLooks := .later }
def SessionPlaysUptoCardSaid : Prop := Claim7.holds Tryz.pinned (.plain (OpenSpec.upto sessionPlaysSpec)) sessionPlaysUptoCard

/-- THE SECOND FORM's CARD OF 'interpreterlaw21.BibPlays'. -/
def bibPlaysUptoCard : Claim7 := { stood := { row := bibPlaysUptoRow, standIns := [], harness := (true, "2fd531d12b8519b9bf8b37ce305cf6a7a55807b4e05ee48ccb970ae22ca02548"), looks := true }, kinds := [], alts := [], laidByText := true, laidKinds := [.data, .data, .data], laidTests := true, laidLooks := .later }
def BibPlaysUptoCardSaid : Prop := Claim7.holds Tryz.pinned (.plain (OpenSpec.upto bibPlaysSpec)) bibPlaysUptoCard
end Rows
end Go.Proofs.YtpkhoemonibajaaGreatDoor
