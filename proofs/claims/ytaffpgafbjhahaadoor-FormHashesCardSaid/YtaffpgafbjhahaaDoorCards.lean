/-
  DERIVED. GIVEN WITH THE SEED: THE CARDS: each row of YtaffpgafbjhahaaDoorRows.lean that lists a variable, with what it lists TIED to the program's text (the seventh form; the later family's looks); each row that meets fmt, with fmt's text TOLD by the authors' own Lean function (tested against real Go, not proved from fmt's source: count such statements apart). THE CARD IS WHAT COUNTS. Prove the row's statement (the work); the ties are given (YtaffpgafbjhahaaDoorTie.lean); close each card by the builder's one call (the guide's Derived/Test/ToyasCard.lean, 'card_holds'). Laid BY PROGRAM, IN A SANDBOX (cutbox-door.mjs). By AI agents, Wed Nov 11 2026. No macro, syntax, notation, axiom, sorry.
-/
import Derived.Test.YtaffpgafbjhahaaDoorRows
import GoSem.ClaimSeven
namespace Go.Proofs.YtaffpgafbjhahaaDoor
namespace Rows

/-- THE TIED CARD OF 'nunciolaw06.FormSigns'. -/
def formSignsCard : Claim7 := { stood := { row := formSignsRow, standIns := [], harness := (true, "faba35225579cfd310d87719f4f648bbdf43a64415e90ac810c163bc160d2532"), looks := true }, kinds := [], alts := [], laidByText := true, laidKinds := [.sentinel], laidTests := true, laidLooks := .later }
def FormSignsCardSaid : Prop := Claim7.holds Tryd.pinned (.plain (OpenSpec.ofChange formSignsSpec)) formSignsCard

/-- THE TIED CARD OF 'nunciolaw06.FormPackets'. -/
def formPacketsCard : Claim7 := { stood := { row := formPacketsRow, standIns := [], harness := (true, "faba35225579cfd310d87719f4f648bbdf43a64415e90ac810c163bc160d2532"), looks := true }, kinds := [], alts := [], laidByText := true, laidKinds := [.sentinel], laidTests := true, laidLooks := .later }
def FormPacketsCardSaid : Prop := Claim7.holds Tryd.pinned (.plain (OpenSpec.ofChange formPacketsSpec)) formPacketsCard

/-- THE TIED CARD OF 'nunciolaw06.FormReads'. -/
def formReadsCard : Claim7 := { stood := { row := formReadsRow, standIns := [], harness := (true, "faba35225579cfd310d87719f4f648bbdf43a64415e90ac810c163bc160d2532"), looks := true }, kinds := [], alts := [], laidByText := true, laidKinds := [.sentinel], laidTests := true, laidLooks := .later }
def FormReadsCardSaid : Prop := Claim7.holds Tryd.pinned (.plain (OpenSpec.ofChange formReadsSpec)) formReadsCard

/-- THE TIED CARD OF 'nunciolaw06.FormBack'. -/
def formBackCard : Claim7 := { stood := { row := formBackRow, standIns := [], harness := (true, "faba35225579cfd310d87719f4f648bbdf43a64415e90ac810c163bc160d2532"), looks := true }, kinds := [], alts := [], laidByText := true, laidKinds := [.sentinel], laidTests := true, laidLooks := .later }
def FormBackCardSaid : Prop := Claim7.holds Tryd.pinned (.plain (OpenSpec.ofChange formBackSpec)) formBackCard

/-- THE TIED CARD OF 'nunciolaw06.FormHashes'. -/
def formHashesCard : Claim7 := { stood := { row := formHashesRow, standIns := [], harness := (true, "faba35225579cfd310d87719f4f648bbdf43a64415e90ac810c163bc160d2532"), looks := true }, kinds := [], alts := [], laidByText := true, laidKinds := [.data, .sentinel], laidTests := true, laidLooks := .later }
def FormHashesCardSaid : Prop := Claim7.holds Tryd.pinned (.plain (OpenSpec.ofChange formHashesSpec)) formHashesCard

/-- THE TIED CARD OF 'nunciolaw06.FormVotes'. -/
def formVotesCard : Claim7 := { stood := { row := formVotesRow, standIns := [], harness := (true, "faba35225579cfd310d87719f4f648bbdf43a64415e90ac810c163bc160d2532"), looks := true }, kinds := [], alts := [], laidByText := true, laidKinds := [.data, .sentinel], laidTests := true, laidLooks := .later }
def FormVotesCardSaid : Prop := Claim7.holds Tryd.pinned (.plain (OpenSpec.ofChange formVotesSpec)) formVotesCard

/-- THE TIED CARD OF 'nunciolaw06.FormSets'. -/
def formSetsCard : Claim7 := { stood := { row := formSetsRow, standIns := [], harness := (true, "faba35225579cfd310d87719f4f648bbdf43a64415e90ac810c163bc160d2532"), looks := true }, kinds := [], alts := [], laidByText := true, laidKinds := [.data, .sentinel], laidTests := true, laidLooks := .later }
def FormSetsCardSaid : Prop := Claim7.holds Tryd.pinned (.plain (OpenSpec.ofChange formSetsSpec)) formSetsCard

/-- THE TIED CARD OF 'nunciolaw06.FormOnly'. -/
def formOnlyCard : Claim7 := { stood := { row := formOnlyRow, standIns := [], harness := (true, "faba35225579cfd310d87719f4f648bbdf43a64415e90ac810c163bc160d2532"), looks := true }, kinds := [], alts := [], laidByText := true, laidKinds := [.sentinel], laidTests := true, laidLooks := .later }
def FormOnlyCardSaid : Prop := Claim7.holds Tryd.pinned (.plain (OpenSpec.ofChange formOnlySpec)) formOnlyCard

/-- THE SECOND FORM's CARD OF 'nunciolaw06.FormSigns'. -/
def formSignsUptoCard : Claim7 := { stood := { row := formSignsUptoRow, standIns := [], harness := (true, "faba35225579cfd310d87719f4f648bbdf43a64415e90ac810c163bc160d2532"), looks := true }, kinds := [], alts := [], laidByText := true, laidKinds := [.sentinel], laidTests := true, laidLooks := .later }
def FormSignsUptoCardSaid : Prop := Claim7.holds Tryd.pinned (.plain (OpenSpec.upto formSignsSpec)) formSignsUptoCard

/-- THE SECOND FORM's CARD OF 'nunciolaw06.FormPackets'. -/
def formPacketsUptoCard : Claim7 := { stood := { row := formPacketsUptoRow, standIns := [], harness := (true, "faba35225579cfd310d87719f4f648bbdf43a64415e90ac810c163bc160d2532"), looks := true }, kinds := [], alts := [], laidByText := true, laidKinds := [.sentinel], laidTests := true, laidLooks := .later }
def FormPacketsUptoCardSaid : Prop := Claim7.holds Tryd.pinned (.plain (OpenSpec.upto formPacketsSpec)) formPacketsUptoCard

/-- THE SECOND FORM's CARD OF 'nunciolaw06.FormReads'. -/
def formReadsUptoCard : Claim7 := { stood := { row := formReadsUptoRow, standIns := [], harness := (true, "faba35225579cfd310d87719f4f648bbdf43a64415e90ac810c163bc160d2532"), looks := true }, kinds := [], alts := [], laidByText := true, laidKinds := [.sentinel], laidTests := true, laidLooks := .later }
def FormReadsUptoCardSaid : Prop := Claim7.holds Tryd.pinned (.plain (OpenSpec.upto formReadsSpec)) formReadsUptoCard

/-- THE SECOND FORM's CARD OF 'nunciolaw06.FormBack'. -/
def formBackUptoCard : Claim7 := { stood := { row := formBackUptoRow, standIns := [], harness := (true, "faba35225579cfd310d87719f4f648bbdf43a64415e90ac810c163bc160d2532"), looks := true }, kinds := [], alts := [], laidByText := true, laidKinds := [.sentinel], laidTests := true, laidLooks := .later }
def FormBackUptoCardSaid : Prop := Claim7.holds Tryd.pinned (.plain (OpenSpec.upto formBackSpec)) formBackUptoCard

/-- THE SECOND FORM's CARD OF 'nunciolaw06.FormHashes'. -/
def formHashesUptoCard : Claim7 := { stood := { row := formHashesUptoRow, standIns := [], harness := (true, "faba35225579cfd310d87719f4f648bbdf43a64415e90ac810c163bc160d2532"), looks := true }, kinds := [], alts := [], laidByText := true, laidKinds := [.data, .sentinel], laidTests := true, laidLooks := .later }
def FormHashesUptoCardSaid : Prop := Claim7.holds Tryd.pinned (.plain (OpenSpec.upto formHashesSpec)) formHashesUptoCard

/-- THE SECOND FORM's CARD OF 'nunciolaw06.FormVotes'. -/
def formVotesUptoCard : Claim7 := { stood := { row := formVotesUptoRow, standIns := [], harness := (true, "faba35225579cfd310d87719f4f648bbdf43a64415e90ac810c163bc160d2532"), looks := true }, kinds := [], alts := [], laidByText := true, laidKinds := [.data, .sentinel], laidTests := true, laidLooks := .later }
def FormVotesUptoCardSaid : Prop := Claim7.holds Tryd.pinned (.plain (OpenSpec.upto formVotesSpec)) formVotesUptoCard

/-- THE SECOND FORM's CARD OF 'nunciolaw06.FormSets'. -/
def formSetsUptoCard : Claim7 := { stood := { row := formSetsUptoRow, standIns := [], harness := (true, "faba35225579cfd310d87719f4f648bbdf43a64415e90ac810c163bc160d2532"), looks := true }, kinds := [], alts := [], laidByText := true, laidKinds := [.data, .sentinel], laidTests := true, laidLooks := .later }
def FormSetsUptoCardSaid : Prop := Claim7.holds Tryd.pinned (.plain (OpenSpec.upto formSetsSpec)) formSetsUptoCard

/-- THE SECOND FORM's CARD OF 'nunciolaw06.FormOnly'. -/
def formOnlyUptoCard : Claim7 := { stood := { row := formOnlyUptoRow, standIns := [], harness := (true, "faba35225579cfd310d87719f4f648bbdf43a64415e90ac810c163bc160d2532"), looks := true }, kinds := [], alts := [], laidByText := true, laidKinds := [.sentinel], laidTests := true, laidLooks := .later }
def FormOnlyUptoCardSaid : Prop := Claim7.holds Tryd.pinned (.plain (OpenSpec.upto formOnlySpec)) formOnlyUptoCard
end Rows
end Go.Proofs.YtaffpgafbjhahaaDoor
