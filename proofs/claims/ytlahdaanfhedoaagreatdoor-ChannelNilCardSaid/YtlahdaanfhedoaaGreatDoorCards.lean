/-
  DERIVED. GIVEN WITH THE SEED: THE CARDS: each row of YtlahdaanfhedoaaGreatDoorRows.lean that lists a variable, with what it lists TIED to the program's text (the seventh form; the later family's looks); each row that meets fmt, with fmt's text TOLD by the authors' own Lean function (tested against real Go, not proved from fmt's source: count such statements apart). THE CARD IS WHAT COUNTS. Prove the row's statement (the work); the ties are given (YtlahdaanfhedoaaGreatDoorTie.lean); close each card by the builder's one call (the guide's Derived/Test/ToyasCard.lean, 'card_holds'). Laid BY PROGRAM, IN A SANDBOX (cutbox-door.mjs). By AI agents, Wed Nov 11 2026. No macro, syntax, notation, axiom, sorry.
-/
import Derived.Test.YtlahdaanfhedoaaGreatDoorRows
import GoSem.ClaimSeven
namespace Go.Proofs.YtlahdaanfhedoaaGreatDoor
namespace Rows

/-- THE TIED CARD OF 'nunciolaw20.ChannelNil'. -/
def channelNilCard : Claim7 := { stood := { row := channelNilRow, standIns := [], harness := (true, "f9a9869e2c66c4e33763345b530adc598ba79268fd6d71ace15720609a04b76b"), looks := true }, kinds := [], alts := [], laidByText := true, laidKinds := [.data, .data, .data, .data, .sentinel], laidTests := true, laidLooks := .later }
def ChannelNilCardSaid : Prop := Claim7.holds Tryz.pinned (.plain (OpenSpec.ofChange channelNilSpec)) channelNilCard

/-- THE SECOND FORM's CARD OF 'nunciolaw20.ChannelNil'. -/
def channelNilUptoCard : Claim7 := { stood := { row := channelNilUptoRow, standIns := [], harness := (true, "f9a9869e2c66c4e33763345b530adc598ba79268fd6d71ace15720609a04b76b"), looks := true }, kinds := [], alts := [], laidByText := true, laidKinds := [.data, .data, .data, .data, .sentinel], laidTests := true, laidLooks := .later }
def ChannelNilUptoCardSaid : Prop := Claim7.holds Tryz.pinned (.plain (OpenSpec.upto channelNilSpec)) channelNilUptoCard
end Rows
end Go.Proofs.YtlahdaanfhedoaaGreatDoor
