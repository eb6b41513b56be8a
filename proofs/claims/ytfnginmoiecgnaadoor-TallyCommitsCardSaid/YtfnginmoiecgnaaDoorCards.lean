/-
  DERIVED. GIVEN WITH THE SEED: THE CARDS: each row of YtfnginmoiecgnaaDoorRows.lean that lists a variable, with what it lists TIED to the program's text (the seventh form; the later family's looks); each row that meets fmt, with fmt's text TOLD by the authors' own Lean function (tested against real Go, not proved from fmt's source: count such statements apart). THE CARD IS WHAT COUNTS. Prove the row's statement (the work); the ties are given (YtfnginmoiecgnaaDoorTie.lean); close each card by the builder's one call (the guide's Derived/Test/ToyasCard.lean, 'card_holds'). Laid BY PROGRAM, IN A SANDBOX (cutbox-door.mjs). By AI agents, Wed Nov 11 2026. No macro, syntax, notation, axiom, sorry.
-/
import Derived.Test.YtfnginmoiecgnaaDoorRows
import GoSem.ClaimSeven
namespace Go.Proofs.YtfnginmoiecgnaaDoor
namespace Rows

/-- THE TIED CARD OF 'nunciolaw09.TallySigns'. -/
def tallySignsCard : Claim7 := { stood := { row := tallySignsRow, standIns := [], harness := (true, "4cdadb784123c916e1b916c07a173675a9e86270594de9673249633f62c4bfcc"), looks := true }, kinds := [], alts := [], laidByText := true, laidKinds := [.data, .sentinel], laidTests := true, laidLooks := .later }
def TallySignsCardSaid : Prop := Claim7.holds Tryd.pinned (.plain (OpenSpec.ofChange tallySignsSpec)) tallySignsCard

/-- THE TIED CARD OF 'nunciolaw09.TallyOne'. -/
def tallyOneCard : Claim7 := { stood := { row := tallyOneRow, standIns := [], harness := (true, "4cdadb784123c916e1b916c07a173675a9e86270594de9673249633f62c4bfcc"), looks := true }, kinds := [], alts := [], laidByText := true, laidKinds := [.data, .sentinel], laidTests := true, laidLooks := .later }
def TallyOneCardSaid : Prop := Claim7.holds Tryd.pinned (.plain (OpenSpec.ofChange tallyOneSpec)) tallyOneCard

/-- THE TIED CARD OF 'nunciolaw09.TallyChecks'. -/
def tallyChecksCard : Claim7 := { stood := { row := tallyChecksRow, standIns := [], harness := (true, "4cdadb784123c916e1b916c07a173675a9e86270594de9673249633f62c4bfcc"), looks := true }, kinds := [], alts := [], laidByText := true, laidKinds := [.data, .sentinel], laidTests := true, laidLooks := .later }
def TallyChecksCardSaid : Prop := Claim7.holds Tryd.pinned (.plain (OpenSpec.ofChange tallyChecksSpec)) tallyChecksCard

/-- THE TIED CARD OF 'nunciolaw09.TallyOrder'. -/
def tallyOrderCard : Claim7 := { stood := { row := tallyOrderRow, standIns := [], harness := (true, "4cdadb784123c916e1b916c07a173675a9e86270594de9673249633f62c4bfcc"), looks := true }, kinds := [], alts := [], laidByText := true, laidKinds := [.data, .sentinel], laidTests := true, laidLooks := .later }
def TallyOrderCardSaid : Prop := Claim7.holds Tryd.pinned (.plain (OpenSpec.ofChange tallyOrderSpec)) tallyOrderCard

/-- THE TIED CARD OF 'nunciolaw09.TallyNil'. -/
def tallyNilCard : Claim7 := { stood := { row := tallyNilRow, standIns := [], harness := (true, "4cdadb784123c916e1b916c07a173675a9e86270594de9673249633f62c4bfcc"), looks := true }, kinds := [], alts := [], laidByText := true, laidKinds := [.data, .sentinel], laidTests := true, laidLooks := .later }
def TallyNilCardSaid : Prop := Claim7.holds Tryd.pinned (.plain (OpenSpec.ofChange tallyNilSpec)) tallyNilCard

/-- THE TIED CARD OF 'nunciolaw09.TallyCommits'. -/
def tallyCommitsCard : Claim7 := { stood := { row := tallyCommitsRow, standIns := [], harness := (true, "4cdadb784123c916e1b916c07a173675a9e86270594de9673249633f62c4bfcc"), looks := true }, kinds := [], alts := [], laidByText := true, laidKinds := [.data, .sentinel], laidTests := true, laidLooks := .later }
def TallyCommitsCardSaid : Prop := Claim7.holds Tryd.pinned (.plain (OpenSpec.ofChange tallyCommitsSpec)) tallyCommitsCard

/-- THE SECOND FORM's CARD OF 'nunciolaw09.TallySigns'. -/
def tallySignsUptoCard : Claim7 := { stood := { row := tallySignsUptoRow, standIns := [], harness := (true, "4cdadb784123c916e1b916c07a173675a9e86270594de9673249633f62c4bfcc"), looks := true }, kinds := [], alts := [], laidByText := true, laidKinds := [.data, .sentinel], laidTests := true, laidLooks := .later }
def TallySignsUptoCardSaid : Prop := Claim7.holds Tryd.pinned (.plain (OpenSpec.upto tallySignsSpec)) tallySignsUptoCard

/-- THE SECOND FORM's CARD OF 'nunciolaw09.TallyOne'. -/
def tallyOneUptoCard : Claim7 := { stood := { row := tallyOneUptoRow, standIns := [], harness := (true, "4cdadb784123c916e1b916c07a173675a9e86270594de9673249633f62c4bfcc"), looks := true }, kinds := [], alts := [], laidByText := true, laidKinds := [.data, .sentinel], laidTests := true, laidLooks := .later }
def TallyOneUptoCardSaid : Prop := Claim7.holds Tryd.pinned (.plain (OpenSpec.upto tallyOneSpec)) tallyOneUptoCard

/-- THE SECOND FORM's CARD OF 'nunciolaw09.TallyChecks'. -/
def tallyChecksUptoCard : Claim7 := { stood := { row := tallyChecksUptoRow, standIns := [], harness := (true, "4cdadb784123c916e1b916c07a173675a9e86270594de9673249633f62c4bfcc"), looks := true }, kinds := [], alts := [], laidByText := true, laidKinds := [.data, .sentinel], laidTests := true, laidLooks := .later }
def TallyChecksUptoCardSaid : Prop := Claim7.holds Tryd.pinned (.plain (OpenSpec.upto tallyChecksSpec)) tallyChecksUptoCard

/-- THE SECOND FORM's CARD OF 'nunciolaw09.TallyOrder'. -/
def tallyOrderUptoCard : Claim7 := { stood := { row := tallyOrderUptoRow, standIns := [], harness := (true, "4cdadb784123c916e1b916c07a173675a9e86270594de9673249633f62c4bfcc"), looks := true }, kinds := [], alts := [], laidByText := true, laidKinds := [.data, .sentinel], laidTests := true, laidLooks := .later }
def TallyOrderUptoCardSaid : Prop := Claim7.holds Tryd.pinned (.plain (OpenSpec.upto tallyOrderSpec)) tallyOrderUptoCard

/-- THE SECOND FORM's CARD OF 'nunciolaw09.TallyNil'. -/
def tallyNilUptoCard : Claim7 := { stood := { row := tallyNilUptoRow, standIns := [], harness := (true, "4cdadb784123c916e1b916c07a173675a9e86270594de9673249633f62c4bfcc"), looks := true }, kinds := [], alts := [], laidByText := true, laidKinds := [.data, .sentinel], laidTests := true, laidLooks := .later }
def TallyNilUptoCardSaid : Prop := Claim7.holds Tryd.pinned (.plain (OpenSpec.upto tallyNilSpec)) tallyNilUptoCard

/-- THE SECOND FORM's CARD OF 'nunciolaw09.TallyCommits'. -/
def tallyCommitsUptoCard : Claim7 := { stood := { row := tallyCommitsUptoRow, standIns := [], harness := (true, "4cdadb784123c916e1b916c07a173675a9e86270594de9673249633f62c4bfcc"), looks := true }, kinds := [], alts := [], laidByText := true, laidKinds := [.data, .sentinel], laidTests := true, laidLooks := .later }
def TallyCommitsUptoCardSaid : Prop := Claim7.holds Tryd.pinned (.plain (OpenSpec.upto tallyCommitsSpec)) tallyCommitsUptoCard
end Rows
end Go.Proofs.YtfnginmoiecgnaaDoor
