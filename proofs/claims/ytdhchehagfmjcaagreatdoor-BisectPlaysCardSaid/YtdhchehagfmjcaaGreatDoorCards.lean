/-
  DERIVED. GIVEN WITH THE SEED: THE CARDS: each row of YtdhchehagfmjcaaGreatDoorRows.lean that lists a variable, with what it lists TIED to the program's text (the seventh form; the later family's looks); each row that meets fmt, with fmt's text TOLD by the authors' own Lean function (tested against real Go, not proved from fmt's source: count such statements apart). THE CARD IS WHAT COUNTS. Prove the row's statement (the work); the ties are given (YtdhchehagfmjcaaGreatDoorTie.lean); close each card by the builder's one call (the guide's Derived/Test/ToyasCard.lean, 'card_holds'). Laid BY PROGRAM, IN A SANDBOX (cutbox-door.mjs). By AI agents, Wed Nov 11 2026. No macro, syntax, notation, axiom, sorry.
-/
import Derived.Test.YtdhchehagfmjcaaGreatDoorRows
import GoSem.ClaimSeven
namespace Go.Proofs.YtdhchehagfmjcaaGreatDoor
namespace Rows

/-- THE TIED CARD OF 'nunciolaw15.VerifySteps'. -/
def verifyStepsCard : Claim7 := { stood := { row := verifyStepsRow, standIns := [], harness := (true, "9ba1ab4dbdda737abedc26b20640b2d8fbd65526defaceee6a8fd453b6d335e7"), looks := true }, kinds := [], alts := [], laidByText := true, laidKinds := [.data, .sentinel], laidTests := true, laidLooks := .later }
def VerifyStepsCardSaid : Prop := Claim7.holds Tryz.pinned (.plain (OpenSpec.ofChange verifyStepsSpec)) verifyStepsCard

/-- THE TIED CARD OF 'nunciolaw15.VerifySound'. -/
def verifySoundCard : Claim7 := { stood := { row := verifySoundRow, standIns := [], harness := (true, "9ba1ab4dbdda737abedc26b20640b2d8fbd65526defaceee6a8fd453b6d335e7"), looks := true }, kinds := [], alts := [], laidByText := true, laidKinds := [.data, .sentinel], laidTests := true, laidLooks := .later }
def VerifySoundCardSaid : Prop := Claim7.holds Tryz.pinned (.plain (OpenSpec.ofChange verifySoundSpec)) verifySoundCard

/-- THE TIED CARD OF 'nunciolaw15.VerifyVouched'. -/
def verifyVouchedCard : Claim7 := { stood := { row := verifyVouchedRow, standIns := [], harness := (true, "9ba1ab4dbdda737abedc26b20640b2d8fbd65526defaceee6a8fd453b6d335e7"), looks := true }, kinds := [], alts := [], laidByText := true, laidKinds := [.data, .sentinel], laidTests := true, laidLooks := .later }
def VerifyVouchedCardSaid : Prop := Claim7.holds Tryz.pinned (.plain (OpenSpec.ofChange verifyVouchedSpec)) verifyVouchedCard

/-- THE TIED CARD OF 'nunciolaw15.VerifyClocks'. -/
def verifyClocksCard : Claim7 := { stood := { row := verifyClocksRow, standIns := [], harness := (true, "9ba1ab4dbdda737abedc26b20640b2d8fbd65526defaceee6a8fd453b6d335e7"), looks := true }, kinds := [], alts := [], laidByText := true, laidKinds := [.data, .sentinel], laidTests := true, laidLooks := .later }
def VerifyClocksCardSaid : Prop := Claim7.holds Tryz.pinned (.plain (OpenSpec.ofChange verifyClocksSpec)) verifyClocksCard

/-- THE TIED CARD OF 'nunciolaw15.VerifyBent'. -/
def verifyBentCard : Claim7 := { stood := { row := verifyBentRow, standIns := [], harness := (true, "9ba1ab4dbdda737abedc26b20640b2d8fbd65526defaceee6a8fd453b6d335e7"), looks := true }, kinds := [], alts := [], laidByText := true, laidKinds := [.data, .sentinel], laidTests := true, laidLooks := .later }
def VerifyBentCardSaid : Prop := Claim7.holds Tryz.pinned (.plain (OpenSpec.ofChange verifyBentSpec)) verifyBentCard

/-- THE TIED CARD OF 'nunciolaw15.VerifyNext'. -/
def verifyNextCard : Claim7 := { stood := { row := verifyNextRow, standIns := [], harness := (true, "9ba1ab4dbdda737abedc26b20640b2d8fbd65526defaceee6a8fd453b6d335e7"), looks := true }, kinds := [], alts := [], laidByText := true, laidKinds := [.data, .sentinel], laidTests := true, laidLooks := .later }
def VerifyNextCardSaid : Prop := Claim7.holds Tryz.pinned (.plain (OpenSpec.ofChange verifyNextSpec)) verifyNextCard

/-- THE TIED CARD OF 'nunciolaw16.BisectChain'. -/
def bisectChainCard : Claim7 := { stood := { row := bisectChainRow, standIns := [], harness := (true, "9ba1ab4dbdda737abedc26b20640b2d8fbd65526defaceee6a8fd453b6d335e7"), looks := true }, kinds := [], alts := [], laidByText := true, laidKinds := [.data, .sentinel], laidTests := true, laidLooks := .later }
def BisectChainCardSaid : Prop := Claim7.holds Tryz.pinned (.plain (OpenSpec.ofChange bisectChainSpec)) bisectChainCard

/-- THE TIED CARD OF 'nunciolaw16.BisectFetches'. -/
def bisectFetchesCard : Claim7 := { stood := { row := bisectFetchesRow, standIns := [], harness := (true, "9ba1ab4dbdda737abedc26b20640b2d8fbd65526defaceee6a8fd453b6d335e7"), looks := true }, kinds := [], alts := [], laidByText := true, laidKinds := [.data, .sentinel], laidTests := true, laidLooks := .later }
def BisectFetchesCardSaid : Prop := Claim7.holds Tryz.pinned (.plain (OpenSpec.ofChange bisectFetchesSpec)) bisectFetchesCard

/-- THE TIED CARD OF 'nunciolaw16.BisectWants'. -/
def bisectWantsCard : Claim7 := { stood := { row := bisectWantsRow, standIns := [], harness := (true, "9ba1ab4dbdda737abedc26b20640b2d8fbd65526defaceee6a8fd453b6d335e7"), looks := true }, kinds := [], alts := [], laidByText := true, laidKinds := [.data, .sentinel], laidTests := true, laidLooks := .later }
def BisectWantsCardSaid : Prop := Claim7.holds Tryz.pinned (.plain (OpenSpec.ofChange bisectWantsSpec)) bisectWantsCard

/-- THE TIED CARD OF 'nunciolaw16.BisectPlays'. -/
def bisectPlaysCard : Claim7 := { stood := { row := bisectPlaysRow, standIns := [], harness := (true, "9ba1ab4dbdda737abedc26b20640b2d8fbd65526defaceee6a8fd453b6d335e7"), looks := true }, kinds := [], alts := [], laidByText := true, laidKinds := [.data, .sentinel], laidTests := true, laidLooks := .later }
def BisectPlaysCardSaid : Prop := Claim7.holds Tryz.pinned (.plain (OpenSpec.ofChange bisectPlaysSpec)) bisectPlaysCard

/-- THE TIED CARD OF 'nunciolaw16.BisectNil'. -/
def bisectNilCard : Claim7 := { stood := { row := bisectNilRow, standIns := [], harness := (true, "9ba1ab4dbdda737abedc26b20640b2d8fbd65526defaceee6a8fd453b6d335e7"), looks := true }, kinds := [], alts := [], laidByText := true, laidKinds := [.data, .sentinel], laidTests := true, laidLooks := .later }
def BisectNilCardSaid : Prop := Claim7.holds Tryz.pinned (.plain (OpenSpec.ofChange bisectNilSpec)) bisectNilCard

/-- THE TIED CARD OF 'nunciolaw16.BisectPrune'. -/
def bisectPruneCard : Claim7 := { stood := { row := bisectPruneRow, standIns := [], harness := (true, "9ba1ab4dbdda737abedc26b20640b2d8fbd65526defaceee6a8fd453b6d335e7"), looks := true }, kinds := [], alts := [], laidByText := true, laidKinds := [.data, .sentinel], laidTests := true, laidLooks := .later }
def BisectPruneCardSaid : Prop := Claim7.holds Tryz.pinned (.plain (OpenSpec.ofChange bisectPruneSpec)) bisectPruneCard

/-- THE SECOND FORM's CARD OF 'nunciolaw15.VerifySteps'. -/
def verifyStepsUptoCard : Claim7 := { stood := { row := verifyStepsUptoRow, standIns := [], harness := (true, "9ba1ab4dbdda737abedc26b20640b2d8fbd65526defaceee6a8fd453b6d335e7"), looks := true }, kinds := [], alts := [], laidByText := true, laidKinds := [.data, .sentinel], laidTests := true, laidLooks := .later }
def VerifyStepsUptoCardSaid : Prop := Claim7.holds Tryz.pinned (.plain (OpenSpec.upto verifyStepsSpec)) verifyStepsUptoCard

/-- THE SECOND FORM's CARD OF 'nunciolaw15.VerifySound'. -/
def verifySoundUptoCard : Claim7 := { stood := { row := verifySoundUptoRow, standIns := [], harness := (true, "9ba1ab4dbdda737abedc26b20640b2d8fbd65526defaceee6a8fd453b6d335e7"), looks := true }, kinds := [], alts := [], laidByText := true, laidKinds := [.data, .sentinel], laidTests := true, laidLooks := .later }
def VerifySoundUptoCardSaid : Prop := Claim7.holds Tryz.pinned (.plain (OpenSpec.upto verifySoundSpec)) verifySoundUptoCard

/-- THE SECOND FORM's CARD OF 'nunciolaw15.VerifyVouched'. -/
def verifyVouchedUptoCard : Claim7 := { stood := { row := verifyVouchedUptoRow, standIns := [], harness := (true, "9ba1ab4dbdda737abedc26b20640b2d8fbd65526defaceee6a8fd453b6d335e7"), looks := true }, kinds := [], alts := [], laidByText := true, laidKinds := [.data, .sentinel], laidTests := true, laidLooks := .later }
def VerifyVouchedUptoCardSaid : Prop := Claim7.holds Tryz.pinned (.plain (OpenSpec.upto verifyVouchedSpec)) verifyVouchedUptoCard

/-- THE SECOND FORM's CARD OF 'nunciolaw15.VerifyClocks'. -/
def verifyClocksUptoCard : Claim7 := { stood := { row := verifyClocksUptoRow, standIns := [], harness := (true, "9ba1ab4dbdda737abedc26b20640b2d8fbd65526defaceee6a8fd453b6d335e7"), looks := true }, kinds := [], alts := [], laidByText := true, laidKinds := [.data, .sentinel], laidTests := true, laidLooks := .later }
def VerifyClocksUptoCardSaid : Prop := Claim7.holds Tryz.pinned (.plain (OpenSpec.upto verifyClocksSpec)) verifyClocksUptoCard

/-- THE SECOND FORM's CARD OF 'nunciolaw15.VerifyBent'. -/
def verifyBentUptoCard : Claim7 := { stood := { row := verifyBentUptoRow, standIns := [], harness := (true, "9ba1ab4dbdda737abedc26b20640b2d8fbd65526defaceee6a8fd453b6d335e7"), looks := true }, kinds := [], alts := [], laidByText := true, laidKinds := [.data, .sentinel], laidTests := true, laidLooks := .later }
def VerifyBentUptoCardSaid : Prop := Claim7.holds Tryz.pinned (.plain (OpenSpec.upto verifyBentSpec)) verifyBentUptoCard

/-- THE SECOND FORM's CARD OF 'nunciolaw15.VerifyNext'. -/
def verifyNextUptoCard : Claim7 := { stood := { row := verifyNextUptoRow, standIns := [], harness := (true, "9ba1ab4dbdda737abedc26b20640b2d8fbd65526defaceee6a8fd453b6d335e7"), looks := true }, kinds := [], alts := [], laidByText := true, laidKinds := [.data, .sentinel], laidTests := true, laidLooks := .later }
def VerifyNextUptoCardSaid : Prop := Claim7.holds Tryz.pinned (.plain (OpenSpec.upto verifyNextSpec)) verifyNextUptoCard

/-- THE SECOND FORM's CARD OF 'nunciolaw16.BisectChain'. -/
def bisectChainUptoCard : Claim7 := { stood := { row := bisectChainUptoRow, standIns := [], harness := (true, "9ba1ab4dbdda737abedc26b20640b2d8fbd65526defaceee6a8fd453b6d335e7"), looks := true }, kinds := [], alts := [], laidByText := true, laidKinds := [.data, .sentinel], laidTests := true, laidLooks := .later }
def BisectChainUptoCardSaid : Prop := Claim7.holds Tryz.pinned (.plain (OpenSpec.upto bisectChainSpec)) bisectChainUptoCard

/-- THE SECOND FORM's CARD OF 'nunciolaw16.BisectFetches'. -/
def bisectFetchesUptoCard : Claim7 := { stood := { row := bisectFetchesUptoRow, standIns := [], harness := (true, "9ba1ab4dbdda737abedc26b20640b2d8fbd65526defaceee6a8fd453b6d335e7"), looks := true }, kinds := [], alts := [], laidByText := true, laidKinds := [.data, .sentinel], laidTests := true, laidLooks := .later }
def BisectFetchesUptoCardSaid : Prop := Claim7.holds Tryz.pinned (.plain (OpenSpec.upto bisectFetchesSpec)) bisectFetchesUptoCard

/-- THE SECOND FORM's CARD OF 'nunciolaw16.BisectWants'. -/
def bisectWantsUptoCard : Claim7 := { stood := { row := bisectWantsUptoRow, standIns := [], harness := (true, "9ba1ab4dbdda737abedc26b20640b2d8fbd65526defaceee6a8fd453b6d335e7"), looks := true }, kinds := [], alts := [], laidByText := true, laidKinds := [.data, .sentinel], laidTests := true, laidLooks := .later }
def BisectWantsUptoCardSaid : Prop := Claim7.holds Tryz.pinned (.plain (OpenSpec.upto bisectWantsSpec)) bisectWantsUptoCard

/-- THE SECOND FORM's CARD OF 'nunciolaw16.BisectPlays'. -/
def bisectPlaysUptoCard : Claim7 := { stood := { row := bisectPlaysUptoRow, standIns := [], harness := (true, "9ba1ab4dbdda737abedc26b20640b2d8fbd65526defaceee6a8fd453b6d335e7"), looks := true }, kinds := [], alts := [], laidByText := true, laidKinds := [.data, .sentinel], laidTests := true, laidLooks := .later }
def BisectPlaysUptoCardSaid : Prop := Claim7.holds Tryz.pinned (.plain (OpenSpec.upto bisectPlaysSpec)) bisectPlaysUptoCard

/-- THE SECOND FORM's CARD OF 'nunciolaw16.BisectNil'. -/
def bisectNilUptoCard : Claim7 := { stood := { row := bisectNilUptoRow, standIns := [], harness := (true, "9ba1ab4dbdda737abedc26b20640b2d8fbd65526defaceee6a8fd453b6d335e7"), looks := true }, kinds := [], alts := [], laidByText := true, laidKinds := [.data, .sentinel], laidTests := true, laidLooks := .later }
def BisectNilUptoCardSaid : Prop := Claim7.holds Tryz.pinned (.plain (OpenSpec.upto bisectNilSpec)) bisectNilUptoCard

/-- THE SECOND FORM's CARD OF 'nunciolaw16.BisectPrune'. -/
def bisectPruneUptoCard : Claim7 := { stood := { row := bisectPruneUptoRow, standIns := [], harness := (true, "9ba1ab4dbdda737abedc26b20640b2d8fbd65526defaceee6a8fd453b6d335e7"), looks := true }, kinds := [], alts := [], laidByText := true, laidKinds := [.data, .sentinel], laidTests := true, laidLooks := .later }
def BisectPruneUptoCardSaid : Prop := Claim7.holds Tryz.pinned (.plain (OpenSpec.upto bisectPruneSpec)) bisectPruneUptoCard
end Rows
end Go.Proofs.YtdhchehagfmjcaaGreatDoor
