/-
  DERIVED. GIVEN WITH THE SEED: THE CARDS: each row of YtcbkehnlgpcelaaGreatDoorRows.lean that lists a variable, with what it lists TIED to the program's text (the seventh form; the later family's looks); each row that meets fmt, with fmt's text TOLD by the authors' own Lean function (tested against real Go, not proved from fmt's source: count such statements apart). THE CARD IS WHAT COUNTS. Prove the row's statement (the work); the ties are given (YtcbkehnlgpcelaaGreatDoorTie.lean); close each card by the builder's one call (the guide's Derived/Test/ToyasCard.lean, 'card_holds'). Laid BY PROGRAM, IN A SANDBOX (cutbox-door.mjs). By AI agents, Wed Nov 11 2026. No macro, syntax, notation, axiom, sorry.
-/
import Derived.Test.YtcbkehnlgpcelaaGreatDoorRows
import GoSem.ClaimSeven
namespace Go.Proofs.YtcbkehnlgpcelaaGreatDoor
namespace Rows

/-- THE TIED CARD OF 'nunciolaw13.SignerOn'. -/
def signerOnCard : Claim7 := { stood := { row := signerOnRow, standIns := [], harness := (true, "a37f6a0352fbb5270a42cb721960b0c2efbc528fdb4521a825d3a029debb924e"), looks := true }, kinds := [], alts := [], laidByText := true, laidKinds := [.data, .sentinel], laidTests := true, laidLooks := .later }
def SignerOnCardSaid : Prop := Claim7.holds Tryz.pinned (.plain (OpenSpec.ofChange signerOnSpec)) signerOnCard

/-- THE TIED CARD OF 'nunciolaw13.SignerNil'. -/
def signerNilCard : Claim7 := { stood := { row := signerNilRow, standIns := [], harness := (true, "a37f6a0352fbb5270a42cb721960b0c2efbc528fdb4521a825d3a029debb924e"), looks := true }, kinds := [], alts := [], laidByText := true, laidKinds := [.data, .sentinel], laidTests := true, laidLooks := .later }
def SignerNilCardSaid : Prop := Claim7.holds Tryz.pinned (.plain (OpenSpec.ofChange signerNilSpec)) signerNilCard

/-- THE TIED CARD OF 'nunciolaw13.SignerRises'. -/
def signerRisesCard : Claim7 := { stood := { row := signerRisesRow, standIns := [], harness := (true, "a37f6a0352fbb5270a42cb721960b0c2efbc528fdb4521a825d3a029debb924e"), looks := true }, kinds := [], alts := [], laidByText := true, laidKinds := [.data, .sentinel], laidTests := true, laidLooks := .later }
def SignerRisesCardSaid : Prop := Claim7.holds Tryz.pinned (.plain (OpenSpec.ofChange signerRisesSpec)) signerRisesCard

/-- THE TIED CARD OF 'nunciolaw13.SignerPlays'. -/
def signerPlaysCard : Claim7 := { stood := { row := signerPlaysRow, standIns := [], harness := (true, "a37f6a0352fbb5270a42cb721960b0c2efbc528fdb4521a825d3a029debb924e"), looks := true }, kinds := [], alts := [], laidByText := true, laidKinds := [.data, .sentinel], laidTests := true, laidLooks := .later }
def SignerPlaysCardSaid : Prop := Claim7.holds Tryz.pinned (.plain (OpenSpec.ofChange signerPlaysSpec)) signerPlaysCard

/-- THE TIED CARD OF 'nunciolaw13.SignerNever'. -/
def signerNeverCard : Claim7 := { stood := { row := signerNeverRow, standIns := [], harness := (true, "a37f6a0352fbb5270a42cb721960b0c2efbc528fdb4521a825d3a029debb924e"), looks := true }, kinds := [], alts := [], laidByText := true, laidKinds := [.data, .sentinel], laidTests := true, laidLooks := .later }
def SignerNeverCardSaid : Prop := Claim7.holds Tryz.pinned (.plain (OpenSpec.ofChange signerNeverSpec)) signerNeverCard

/-- THE SECOND FORM's CARD OF 'nunciolaw13.SignerOn'. -/
def signerOnUptoCard : Claim7 := { stood := { row := signerOnUptoRow, standIns := [], harness := (true, "a37f6a0352fbb5270a42cb721960b0c2efbc528fdb4521a825d3a029debb924e"), looks := true }, kinds := [], alts := [], laidByText := true, laidKinds := [.data, .sentinel], laidTests := true, laidLooks := .later }
def SignerOnUptoCardSaid : Prop := Claim7.holds Tryz.pinned (.plain (OpenSpec.upto signerOnSpec)) signerOnUptoCard

/-- THE SECOND FORM's CARD OF 'nunciolaw13.SignerNil'. -/
def signerNilUptoCard : Claim7 := { stood := { row := signerNilUptoRow, standIns := [], harness := (true, "a37f6a0352fbb5270a42cb721960b0c2efbc528fdb4521a825d3a029debb924e"), looks := true }, kinds := [], alts := [], laidByText := true, laidKinds := [.data, .sentinel], laidTests := true, laidLooks := .later }
def SignerNilUptoCardSaid : Prop := Claim7.holds Tryz.pinned (.plain (OpenSpec.upto signerNilSpec)) signerNilUptoCard

/-- THE SECOND FORM's CARD OF 'nunciolaw13.SignerRises'. -/
def signerRisesUptoCard : Claim7 := { stood := { row := signerRisesUptoRow, standIns := [], harness := (true, "a37f6a0352fbb5270a42cb721960b0c2efbc528fdb4521a825d3a029debb924e"), looks := true }, kinds := [], alts := [], laidByText := true, laidKinds := [.data, .sentinel], laidTests := true, laidLooks := .later }
def SignerRisesUptoCardSaid : Prop := Claim7.holds Tryz.pinned (.plain (OpenSpec.upto signerRisesSpec)) signerRisesUptoCard

/-- THE SECOND FORM's CARD OF 'nunciolaw13.SignerPlays'. -/
def signerPlaysUptoCard : Claim7 := { stood := { row := signerPlaysUptoRow, standIns := [], harness := (true, "a37f6a0352fbb5270a42cb721960b0c2efbc528fdb4521a825d3a029debb924e"), looks := true }, kinds := [], alts := [], laidByText := true, laidKinds := [.data, .sentinel], laidTests := true, laidLooks := .later }
def SignerPlaysUptoCardSaid : Prop := Claim7.holds Tryz.pinned (.plain (OpenSpec.upto signerPlaysSpec)) signerPlaysUptoCard

/-- THE SECOND FORM's CARD OF 'nunciolaw13.SignerNever'. -/
def signerNeverUptoCard : Claim7 := { stood := { row := signerNeverUptoRow, standIns := [], harness := (true, "a37f6a0352fbb5270a42cb721960b0c2efbc528fdb4521a825d3a029debb924e"), looks := true }, kinds := [], alts := [], laidByText := true, laidKinds := [.data, .sentinel], laidTests := true, laidLooks := .later }
def SignerNeverUptoCardSaid : Prop := Claim7.holds Tryz.pinned (.plain (OpenSpec.upto signerNeverSpec)) signerNeverUptoCard
end Rows
end Go.Proofs.YtcbkehnlgpcelaaGreatDoor
