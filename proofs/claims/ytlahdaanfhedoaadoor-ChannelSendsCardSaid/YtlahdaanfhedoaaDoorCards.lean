/-
  DERIVED. GIVEN WITH THE SEED: THE CARDS: each row of YtlahdaanfhedoaaDoorRows.lean that lists a variable, with what it lists TIED to the program's text (the seventh form; the later family's looks); each row that meets fmt, with fmt's text TOLD by the authors' own Lean function (tested against real Go, not proved from fmt's source: count such statements apart). THE CARD IS WHAT COUNTS. Prove the row's statement (the work); the ties are given (YtlahdaanfhedoaaDoorTie.lean); close each card by the builder's one call (the guide's Derived/Test/ToyasCard.lean, 'card_holds'). Laid BY PROGRAM, IN A SANDBOX (cutbox-door.mjs). By AI agents, Wed Nov 11 2026. No macro, syntax, notation, axiom, sorry.
-/
import Derived.Test.YtlahdaanfhedoaaDoorRows
import GoSem.ClaimSeven
namespace Go.Proofs.YtlahdaanfhedoaaDoor
namespace Rows

/-- THE TIED CARD OF 'nunciolaw20.ChannelNames'. -/
def channelNamesCard : Claim7 := { stood := { row := channelNamesRow, standIns := [], harness := (true, "ba5357130d0ec2d994bcb320bf6fa0d07b8f337b130c3738be45a90bbd5d875e"), looks := true }, kinds := [], alts := [], laidByText := true, laidKinds := [.data, .data, .data, .data, .sentinel], laidTests := true, laidLooks := .later }
def ChannelNamesCardSaid : Prop := Claim7.holds Tryd.pinned (.plain (OpenSpec.ofChange channelNamesSpec)) channelNamesCard

/-- THE TIED CARD OF 'nunciolaw20.ChannelSends'. -/
def channelSendsCard : Claim7 := { stood := { row := channelSendsRow, standIns := [], harness := (true, "ba5357130d0ec2d994bcb320bf6fa0d07b8f337b130c3738be45a90bbd5d875e"), looks := true }, kinds := [], alts := [], laidByText := true, laidKinds := [.data, .data, .data, .data, .sentinel], laidTests := true, laidLooks := .later }
def ChannelSendsCardSaid : Prop := Claim7.holds Tryd.pinned (.plain (OpenSpec.ofChange channelSendsSpec)) channelSendsCard

/-- THE SECOND FORM's CARD OF 'nunciolaw20.ChannelNames'. -/
def channelNamesUptoCard : Claim7 := { stood := { row := channelNamesUptoRow, standIns := [], harness := (true, "ba5357130d0ec2d994bcb320bf6fa0d07b8f337b130c3738be45a90bbd5d875e"), looks := true }, kinds := [], alts := [], laidByText := true, laidKinds := [.data, .data, .data, .data, .sentinel], laidTests := true, laidLooks := .later }
def ChannelNamesUptoCardSaid : Prop := Claim7.holds Tryd.pinned (.plain (OpenSpec.upto channelNamesSpec)) channelNamesUptoCard

/-- THE SECOND FORM's CARD OF 'nunciolaw20.ChannelSends'. -/
def channelSendsUptoCard : Claim7 := { stood := { row := channelSendsUptoRow, standIns := [], harness := (true, "ba5357130d0ec2d994bcb320bf6fa0d07b8f337b130c3738be45a90bbd5d875e"), looks := true }, kinds := [], alts := [], laidByText := true, laidKinds := [.data, .data, .data, .data, .sentinel], laidTests := true, laidLooks := .later }
def ChannelSendsUptoCardSaid : Prop := Claim7.holds Tryd.pinned (.plain (OpenSpec.upto channelSendsSpec)) channelSendsUptoCard
end Rows
end Go.Proofs.YtlahdaanfhedoaaDoor
