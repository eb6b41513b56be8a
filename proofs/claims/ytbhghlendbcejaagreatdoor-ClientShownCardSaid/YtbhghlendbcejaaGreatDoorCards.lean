/-
  DERIVED. GIVEN WITH THE SEED: THE CARDS: each row of YtbhghlendbcejaaGreatDoorRows.lean that lists a variable, with what it lists TIED to the program's text (the seventh form; the later family's looks); each row that meets fmt, with fmt's text TOLD by the authors' own Lean function (tested against real Go, not proved from fmt's source: count such statements apart). THE CARD IS WHAT COUNTS. Prove the row's statement (the work); the ties are given (YtbhghlendbcejaaGreatDoorTie.lean); close each card by the builder's one call (the guide's Derived/Test/ToyasCard.lean, 'card_holds'). Laid BY PROGRAM, IN A SANDBOX (cutbox-door.mjs). By AI agents, Wed Nov 11 2026. No macro, syntax, notation, axiom, sorry.
-/
import Derived.Test.YtbhghlendbcejaaGreatDoorRows
import GoSem.ClaimSeven
namespace Go.Proofs.YtbhghlendbcejaaGreatDoor
namespace Rows

/-- THE TIED CARD OF 'nunciolaw19.ClientProofs'. -/
def clientProofsCard : Claim7 := { stood := { row := clientProofsRow, standIns := [], harness := (true, "25227fbeddac0df4b4a2da0854b48f4ea1c04e9bd2cb32b6e732e2938fe45540"), looks := true }, kinds := [], alts := [], laidByText := true, laidKinds := [.data, .sentinel], laidTests := true, laidLooks := .later }
def ClientProofsCardSaid : Prop := Claim7.holds Tryz.pinned (.plain (OpenSpec.ofChange clientProofsSpec)) clientProofsCard

/-- THE TIED CARD OF 'nunciolaw19.ClientShown'. -/
def clientShownCard : Claim7 := { stood := { row := clientShownRow, standIns := [], harness := (true, "25227fbeddac0df4b4a2da0854b48f4ea1c04e9bd2cb32b6e732e2938fe45540"), looks := true }, kinds := [], alts := [], laidByText := true, laidKinds := [.data, .sentinel], laidTests := true, laidLooks := .later }
def ClientShownCardSaid : Prop := Claim7.holds Tryz.pinned (.plain (OpenSpec.ofChange clientShownSpec)) clientShownCard

/-- THE TIED CARD OF 'nunciolaw19.ClientStays'. -/
def clientStaysCard : Claim7 := { stood := { row := clientStaysRow, standIns := [], harness := (true, "25227fbeddac0df4b4a2da0854b48f4ea1c04e9bd2cb32b6e732e2938fe45540"), looks := true }, kinds := [], alts := [], laidByText := true, laidKinds := [.data, .sentinel], laidTests := true, laidLooks := .later }
def ClientStaysCardSaid : Prop := Claim7.holds Tryz.pinned (.plain (OpenSpec.ofChange clientStaysSpec)) clientStaysCard

/-- THE TIED CARD OF 'nunciolaw19.ClientPlays'. -/
def clientPlaysCard : Claim7 := { stood := { row := clientPlaysRow, standIns := [], harness := (true, "25227fbeddac0df4b4a2da0854b48f4ea1c04e9bd2cb32b6e732e2938fe45540"), looks := true }, kinds := [], alts := [], laidByText := true, laidKinds := [.data, .sentinel], laidTests := true, laidLooks := .later }
def ClientPlaysCardSaid : Prop := Claim7.holds Tryz.pinned (.plain (OpenSpec.ofChange clientPlaysSpec)) clientPlaysCard

/-- THE TIED CARD OF 'nunciolaw19.ClientNil'. -/
def clientNilCard : Claim7 := { stood := { row := clientNilRow, standIns := [], harness := (true, "25227fbeddac0df4b4a2da0854b48f4ea1c04e9bd2cb32b6e732e2938fe45540"), looks := true }, kinds := [], alts := [], laidByText := true, laidKinds := [.data, .sentinel], laidTests := true, laidLooks := .later }
def ClientNilCardSaid : Prop := Claim7.holds Tryz.pinned (.plain (OpenSpec.ofChange clientNilSpec)) clientNilCard

/-- THE SECOND FORM's CARD OF 'nunciolaw19.ClientProofs'. -/
def clientProofsUptoCard : Claim7 := { stood := { row := clientProofsUptoRow, standIns := [], harness := (true, "25227fbeddac0df4b4a2da0854b48f4ea1c04e9bd2cb32b6e732e2938fe45540"), looks := true }, kinds := [], alts := [], laidByText := true, laidKinds := [.data, .sentinel], laidTests := true, laidLooks := .later }
def ClientProofsUptoCardSaid : Prop := Claim7.holds Tryz.pinned (.plain (OpenSpec.upto clientProofsSpec)) clientProofsUptoCard

/-- THE SECOND FORM's CARD OF 'nunciolaw19.ClientShown'. -/
def clientShownUptoCard : Claim7 := { stood := { row := clientShownUptoRow, standIns := [], harness := (true, "25227fbeddac0df4b4a2da0854b48f4ea1c04e9bd2cb32b6e732e2938fe45540"), looks := true }, kinds := [], alts := [], laidByText := true, laidKinds := [.data, .sentinel], laidTests := true, laidLooks := .later }
def ClientShownUptoCardSaid : Prop := Claim7.holds Tryz.pinned (.plain (OpenSpec.upto clientShownSpec)) clientShownUptoCard

/-- THE SECOND FORM's CARD OF 'nunciolaw19.ClientStays'. -/
def clientStaysUptoCard : Claim7 := { stood := { row := clientStaysUptoRow, standIns := [], harness := (true, "25227fbeddac0df4b4a2da0854b48f4ea1c04e9bd2cb32b6e732e2938fe45540"), looks := true }, kinds := [], alts := [], laidByText := true, laidKinds := [.data, .sentinel], laidTests := true, laidLooks := .later }
def ClientStaysUptoCardSaid : Prop := Claim7.holds Tryz.pinned (.plain (OpenSpec.upto clientStaysSpec)) clientStaysUptoCard

/-- THE SECOND FORM's CARD OF 'nunciolaw19.ClientPlays'. -/
def clientPlaysUptoCard : Claim7 := { stood := { row := clientPlaysUptoRow, standIns := [], harness := (true, "25227fbeddac0df4b4a2da0854b48f4ea1c04e9bd2cb32b6e732e2938fe45540"), looks := true }, kinds := [], alts := [], laidByText := true, laidKinds := [.data, .sentinel], laidTests := true, laidLooks := .later }
def ClientPlaysUptoCardSaid : Prop := Claim7.holds Tryz.pinned (.plain (OpenSpec.upto clientPlaysSpec)) clientPlaysUptoCard

/-- THE SECOND FORM's CARD OF 'nunciolaw19.ClientNil'. -/
def clientNilUptoCard : Claim7 := { stood := { row := clientNilUptoRow, standIns := [], harness := (true, "25227fbeddac0df4b4a2da0854b48f4ea1c04e9bd2cb32b6e732e2938fe45540"), looks := true }, kinds := [], alts := [], laidByText := true, laidKinds := [.data, .sentinel], laidTests := true, laidLooks := .later }
def ClientNilUptoCardSaid : Prop := Claim7.holds Tryz.pinned (.plain (OpenSpec.upto clientNilSpec)) clientNilUptoCard
end Rows
end Go.Proofs.YtbhghlendbcejaaGreatDoor
