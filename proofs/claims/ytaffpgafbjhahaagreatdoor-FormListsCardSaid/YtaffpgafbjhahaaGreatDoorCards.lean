/-
  DERIVED. GIVEN WITH THE SEED: THE CARDS: each row of YtaffpgafbjhahaaGreatDoorRows.lean that lists a variable, with what it lists TIED to the program's text (the seventh form; the later family's looks); each row that meets fmt, with fmt's text TOLD by the authors' own Lean function (tested against real Go, not proved from fmt's source: count such statements apart). THE CARD IS WHAT COUNTS. Prove the row's statement (the work); the ties are given (YtaffpgafbjhahaaGreatDoorTie.lean); close each card by the builder's one call (the guide's Derived/Test/ToyasCard.lean, 'card_holds'). Laid BY PROGRAM, IN A SANDBOX (cutbox-door.mjs). By AI agents, Wed Nov 11 2026. No macro, syntax, notation, axiom, sorry.
-/
import Derived.Test.YtaffpgafbjhahaaGreatDoorRows
import GoSem.ClaimSeven
namespace Go.Proofs.YtaffpgafbjhahaaGreatDoor
namespace Rows

/-- THE TIED CARD OF 'nunciolaw06.FormLists'. -/
def formListsCard : Claim7 := { stood := { row := formListsRow, standIns := [], harness := (true, "2a0f660d7110431fb048244d95ce158eb24b54fb32b37adabc2c8a8b31ef19e9"), looks := true }, kinds := [], alts := [], laidByText := true, laidKinds := [.sentinel], laidTests := true, laidLooks := .later }
def FormListsCardSaid : Prop := Claim7.holds Tryz.pinned (.plain (OpenSpec.ofChange formListsSpec)) formListsCard

/-- THE SECOND FORM's CARD OF 'nunciolaw06.FormLists'. -/
def formListsUptoCard : Claim7 := { stood := { row := formListsUptoRow, standIns := [], harness := (true, "2a0f660d7110431fb048244d95ce158eb24b54fb32b37adabc2c8a8b31ef19e9"), looks := true }, kinds := [], alts := [], laidByText := true, laidKinds := [.sentinel], laidTests := true, laidLooks := .later }
def FormListsUptoCardSaid : Prop := Claim7.holds Tryz.pinned (.plain (OpenSpec.upto formListsSpec)) formListsUptoCard
end Rows
end Go.Proofs.YtaffpgafbjhahaaGreatDoor
