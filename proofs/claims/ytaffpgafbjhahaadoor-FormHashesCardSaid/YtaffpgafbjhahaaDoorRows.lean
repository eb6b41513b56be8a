/-
  NARROWER THAN 'FOR EVERY INPUT', by the rows' own cells (each row's printed sentence says how): FormSigns: laid · FormPackets: laid · FormReads: laid · FormBack: laid · FormHashes: laid · FormVotes: laid · FormSets: laid · FormOnly: laid.
  DERIVED. THE GIVEN ROWS OF THIS SEAT. 8 by the template 'for every input the law returns true; each argument reads behind the call as it read before'; 0 by the template 'total and deterministic' (their statements: YtaffpgafbjhahaaDoorTotals.lean).
  GIVEN WITH THE SEED: the statements are not yours to turn. If you find one false, say at which input.
  Laid BY PROGRAM, IN A SANDBOX (cutbox-rows.mjs): the forced cells as the released guide's own fill.sh prints them over the translation d30b1104abd76692… (all of the seat's roots in one cut). By AI agents, Wed Nov 11 2026. No macro, syntax, notation, axiom, sorry.
-/
import Derived.Test.YtaffpgafbjhahaaDoorChecked
import GoSem.Claim
import GoSem.ClaimJoined
import GoSem.ClaimMapViews
import Derived.JoinedTies
import Derived.KernelRfl
namespace Go.Proofs.YtaffpgafbjhahaaDoor
/- THE CELL 'sum', in the pinned program and in every row, IS THE sha256 OF THE DUMP (.gsa) THAT YtaffpgafbjhahaaDoorProg.lean LOADS. Nothing in Lean hashes anything: it is a label: what it is worth is what the hold of that sum in a sandbox is worth. -/
noncomputable def Tryd.pinned : Pinned := { name := "ytaffpgafbjhahaadoor", sum := "d30b1104abd766922976582b1dfa8bf41c031f052eac8057630d61b2a19899b7", checked := Tryd.checked }
namespace Rows
def none {H : Type} : Left H := { results := [], args := [] }

/- WHAT THE LISTED PACKAGE-LEVEL VARIABLES READ AS WHEN THE CALL BEGINS. Each datum BY PROGRAM (the guide's laid-datum.mjs) off the statement by which the dump's own 'gosem.cut.vars' lays the variable. In a bare row this is a premise. The card (YtaffpgafbjhahaaDoorCards.lean) ties it to the program's text. -/
def laid_bytes_ErrTooLarge {H : Type} : DataW H := .iface "*errors.errorString" (.ptr (.agg [.lit (.string [98, 121, 116, 101, 115, 46, 66, 117, 102, 102, 101, 114, 58, 32, 116, 111, 111, 32, 108, 97, 114, 103, 101])]))
def laid_nuncio_blake_roots {H : Type} : DataW H := .agg [.lit (.int .u32 1779033703), .lit (.int .u32 3144134277), .lit (.int .u32 1013904242), .lit (.int .u32 2773480762), .lit (.int .u32 1359893119), .lit (.int .u32 2600822924), .lit (.int .u32 528734635), .lit (.int .u32 1541459225)]

/-- 'nunciolaw06.FormSigns': WHATEVER THE INPUT: true; the input reads as it did. -/
def formSignsSpec : ChangeSpec := { name := "formSigns", fn := fun _ => fun
  | [d1, d2] => { results := [.lit (.bool true)], args := [d1, d2] }
  | _ => none }
def formSignsRow : OpenClaim := { program := "ytaffpgafbjhahaadoor", sum := "d30b1104abd766922976582b1dfa8bf41c031f052eac8057630d61b2a19899b7", func := "nuncio/nunciolaw06.FormSigns", spec := "formSigns", unfollowed := true, recurses := true, named := ["bytes.ErrTooLarge"], apart := false, laid := [("bytes.ErrTooLarge", laid_bytes_ErrTooLarge)] }
def FormSignsSaid : Prop := formSignsRow.holds Tryd.pinned (OpenSpec.ofChange formSignsSpec)

/-- ITS FALSE NEIGHBOUR: 'it returns false'. Refute it at one input. -/
def formSignsWrong : ChangeSpec := { name := "formSigns", fn := fun _ => fun
  | [d1, d2] => { results := [.lit (.bool false)], args := [d1, d2] }
  | _ => none }
def FormSignsWrongFalsely : Prop := formSignsRow.holds Tryd.pinned (OpenSpec.ofChange formSignsWrong)

/-- 'nunciolaw06.FormPackets': WHATEVER THE INPUT: true; the input reads as it did. -/
def formPacketsSpec : ChangeSpec := { name := "formPackets", fn := fun _ => fun
  | [d1, d2] => { results := [.lit (.bool true)], args := [d1, d2] }
  | _ => none }
def formPacketsRow : OpenClaim := { program := "ytaffpgafbjhahaadoor", sum := "d30b1104abd766922976582b1dfa8bf41c031f052eac8057630d61b2a19899b7", func := "nuncio/nunciolaw06.FormPackets", spec := "formPackets", unfollowed := true, recurses := true, named := ["bytes.ErrTooLarge"], apart := false, laid := [("bytes.ErrTooLarge", laid_bytes_ErrTooLarge)] }
def FormPacketsSaid : Prop := formPacketsRow.holds Tryd.pinned (OpenSpec.ofChange formPacketsSpec)

/-- ITS FALSE NEIGHBOUR: 'it returns false'. Refute it at one input. -/
def formPacketsWrong : ChangeSpec := { name := "formPackets", fn := fun _ => fun
  | [d1, d2] => { results := [.lit (.bool false)], args := [d1, d2] }
  | _ => none }
def FormPacketsWrongFalsely : Prop := formPacketsRow.holds Tryd.pinned (OpenSpec.ofChange formPacketsWrong)

/-- 'nunciolaw06.FormReads': WHATEVER THE INPUT: true; the input reads as it did. -/
def formReadsSpec : ChangeSpec := { name := "formReads", fn := fun _ => fun
  | [d] => { results := [.lit (.bool true)], args := [d] }
  | _ => none }
def formReadsRow : OpenClaim := { program := "ytaffpgafbjhahaadoor", sum := "d30b1104abd766922976582b1dfa8bf41c031f052eac8057630d61b2a19899b7", func := "nuncio/nunciolaw06.FormReads", spec := "formReads", unfollowed := true, recurses := true, named := ["bytes.ErrTooLarge"], apart := false, laid := [("bytes.ErrTooLarge", laid_bytes_ErrTooLarge)] }
def FormReadsSaid : Prop := formReadsRow.holds Tryd.pinned (OpenSpec.ofChange formReadsSpec)

/-- ITS FALSE NEIGHBOUR: 'it returns false'. Refute it at one input. -/
def formReadsWrong : ChangeSpec := { name := "formReads", fn := fun _ => fun
  | [d] => { results := [.lit (.bool false)], args := [d] }
  | _ => none }
def FormReadsWrongFalsely : Prop := formReadsRow.holds Tryd.pinned (OpenSpec.ofChange formReadsWrong)

/-- 'nunciolaw06.FormBack': WHATEVER THE INPUT: true; the input reads as it did. -/
def formBackSpec : ChangeSpec := { name := "formBack", fn := fun _ => fun
  | [d1, d2, d3] => { results := [.lit (.bool true)], args := [d1, d2, d3] }
  | _ => none }
def formBackRow : OpenClaim := { program := "ytaffpgafbjhahaadoor", sum := "d30b1104abd766922976582b1dfa8bf41c031f052eac8057630d61b2a19899b7", func := "nuncio/nunciolaw06.FormBack", spec := "formBack", unfollowed := true, recurses := true, named := ["bytes.ErrTooLarge"], apart := false, laid := [("bytes.ErrTooLarge", laid_bytes_ErrTooLarge)] }
def FormBackSaid : Prop := formBackRow.holds Tryd.pinned (OpenSpec.ofChange formBackSpec)

/-- ITS FALSE NEIGHBOUR: 'it returns false'. Refute it at one input. -/
def formBackWrong : ChangeSpec := { name := "formBack", fn := fun _ => fun
  | [d1, d2, d3] => { results := [.lit (.bool false)], args := [d1, d2, d3] }
  | _ => none }
def FormBackWrongFalsely : Prop := formBackRow.holds Tryd.pinned (OpenSpec.ofChange formBackWrong)

/-- 'nunciolaw06.FormHashes': WHATEVER THE INPUT: true; the input reads as it did. -/
def formHashesSpec : ChangeSpec := { name := "formHashes", fn := fun _ => fun
  | [d1, d2] => { results := [.lit (.bool true)], args := [d1, d2] }
  | _ => none }
def formHashesRow : OpenClaim := { program := "ytaffpgafbjhahaadoor", sum := "d30b1104abd766922976582b1dfa8bf41c031f052eac8057630d61b2a19899b7", func := "nuncio/nunciolaw06.FormHashes", spec := "formHashes", unfollowed := true, recurses := true, named := ["bytes.ErrTooLarge", "nuncio/blake.roots"], apart := false, laid := [("nuncio/blake.roots", laid_nuncio_blake_roots), ("bytes.ErrTooLarge", laid_bytes_ErrTooLarge)] }
def FormHashesSaid : Prop := formHashesRow.holds Tryd.pinned (OpenSpec.ofChange formHashesSpec)

/-- ITS FALSE NEIGHBOUR: 'it returns false'. Refute it at one input. -/
def formHashesWrong : ChangeSpec := { name := "formHashes", fn := fun _ => fun
  | [d1, d2] => { results := [.lit (.bool false)], args := [d1, d2] }
  | _ => none }
def FormHashesWrongFalsely : Prop := formHashesRow.holds Tryd.pinned (OpenSpec.ofChange formHashesWrong)

/-- 'nunciolaw06.FormVotes': WHATEVER THE INPUT: true; the input reads as it did. -/
def formVotesSpec : ChangeSpec := { name := "formVotes", fn := fun _ => fun
  | [d1, d2] => { results := [.lit (.bool true)], args := [d1, d2] }
  | _ => none }
def formVotesRow : OpenClaim := { program := "ytaffpgafbjhahaadoor", sum := "d30b1104abd766922976582b1dfa8bf41c031f052eac8057630d61b2a19899b7", func := "nuncio/nunciolaw06.FormVotes", spec := "formVotes", unfollowed := true, recurses := true, named := ["bytes.ErrTooLarge", "nuncio/blake.roots"], apart := false, laid := [("nuncio/blake.roots", laid_nuncio_blake_roots), ("bytes.ErrTooLarge", laid_bytes_ErrTooLarge)] }
def FormVotesSaid : Prop := formVotesRow.holds Tryd.pinned (OpenSpec.ofChange formVotesSpec)

/-- ITS FALSE NEIGHBOUR: 'it returns false'. Refute it at one input. -/
def formVotesWrong : ChangeSpec := { name := "formVotes", fn := fun _ => fun
  | [d1, d2] => { results := [.lit (.bool false)], args := [d1, d2] }
  | _ => none }
def FormVotesWrongFalsely : Prop := formVotesRow.holds Tryd.pinned (OpenSpec.ofChange formVotesWrong)

/-- 'nunciolaw06.FormSets': WHATEVER THE INPUT: true; the input reads as it did. -/
def formSetsSpec : ChangeSpec := { name := "formSets", fn := fun _ => fun
  | [d] => { results := [.lit (.bool true)], args := [d] }
  | _ => none }
def formSetsRow : OpenClaim := { program := "ytaffpgafbjhahaadoor", sum := "d30b1104abd766922976582b1dfa8bf41c031f052eac8057630d61b2a19899b7", func := "nuncio/nunciolaw06.FormSets", spec := "formSets", unfollowed := true, recurses := true, named := ["bytes.ErrTooLarge", "nuncio/blake.roots"], apart := false, laid := [("nuncio/blake.roots", laid_nuncio_blake_roots), ("bytes.ErrTooLarge", laid_bytes_ErrTooLarge)] }
def FormSetsSaid : Prop := formSetsRow.holds Tryd.pinned (OpenSpec.ofChange formSetsSpec)

/-- ITS FALSE NEIGHBOUR: 'it returns false'. Refute it at one input. -/
def formSetsWrong : ChangeSpec := { name := "formSets", fn := fun _ => fun
  | [d] => { results := [.lit (.bool false)], args := [d] }
  | _ => none }
def FormSetsWrongFalsely : Prop := formSetsRow.holds Tryd.pinned (OpenSpec.ofChange formSetsWrong)

/-- 'nunciolaw06.FormOnly': WHATEVER THE INPUT: true; the input reads as it did. -/
def formOnlySpec : ChangeSpec := { name := "formOnly", fn := fun _ => fun
  | [d1, d2] => { results := [.lit (.bool true)], args := [d1, d2] }
  | _ => none }
def formOnlyRow : OpenClaim := { program := "ytaffpgafbjhahaadoor", sum := "d30b1104abd766922976582b1dfa8bf41c031f052eac8057630d61b2a19899b7", func := "nuncio/nunciolaw06.FormOnly", spec := "formOnly", unfollowed := true, recurses := true, named := ["bytes.ErrTooLarge"], apart := false, laid := [("bytes.ErrTooLarge", laid_bytes_ErrTooLarge)] }
def FormOnlySaid : Prop := formOnlyRow.holds Tryd.pinned (OpenSpec.ofChange formOnlySpec)

/-- ITS FALSE NEIGHBOUR: 'it returns false'. Refute it at one input. -/
def formOnlyWrong : ChangeSpec := { name := "formOnly", fn := fun _ => fun
  | [d1, d2] => { results := [.lit (.bool false)], args := [d1, d2] }
  | _ => none }
def FormOnlyWrongFalsely : Prop := formOnlyRow.holds Tryd.pinned (OpenSpec.ofChange formOnlyWrong)

/- THE SECOND FORM. 'bulk': how many values and letters a reading holds, each counted each time it is reached (what is shared counts as often as it is met; a slice's spare places count too). A statement '..UptoSaid' is the law's where the arguments, and the package variables that the reading takes, are together of bulk at most 1048576: NARROWER than '..Said'. Prove '..Said' where nothing that the law and all that it calls make is longer than what came in: it says more and counts as full. Else prove '..UptoSaid'. A law counts once. -/
mutual
def uptoBulk {H : Type} : DataW H → Nat
  | .lit (.string bytes) => bytes.length + 1
  | .lit _ => 1
  | .nil => 1
  | .ptr d => uptoBulk d + 1
  | .slice elems spare => uptoBulkAll elems + uptoBulkAll spare + 1
  | .agg parts => uptoBulkAll parts + 1
  | .iface _ d => uptoBulk d + 1
  | .map entries => uptoBulkEntries entries + 1
  | .held _ => 1
def uptoBulkAll {H : Type} : List (DataW H) → Nat
  | [] => 0
  | d :: r => uptoBulk d + uptoBulkAll r
def uptoBulkEntries {H : Type} : List (Lit × DataW H) → Nat
  | [] => 0
  | x :: r => uptoBulkEntry x + uptoBulkEntries r
def uptoBulkEntry {H : Type} : Lit × DataW H → Nat
  | (.string bytes, d) => bytes.length + uptoBulk d + 1
  | (_, d) => uptoBulk d + 1
 end
def uptoSmall : (H : Type) → List (DataW H) → Bool := fun _ ds => decide (uptoBulkAll ds ≤ 1048576)
def OpenSpec.upto (s : _root_.Go.ChangeSpec) : _root_.Go.OpenSpec := { _root_.Go.OpenSpec.ofChange s with cond := some uptoSmall }

/-- 'nunciolaw06.FormSigns', WHERE WHAT IT READS IS OF BULK AT MOST 1048576: true; the input reads as it did. -/
def formSignsUptoRow : OpenClaim := { program := "ytaffpgafbjhahaadoor", sum := "d30b1104abd766922976582b1dfa8bf41c031f052eac8057630d61b2a19899b7", func := "nuncio/nunciolaw06.FormSigns", spec := "formSigns", unfollowed := true, recurses := true, named := ["bytes.ErrTooLarge"], apart := false, laid := [("bytes.ErrTooLarge", laid_bytes_ErrTooLarge)], narrowed := true }
def FormSignsUptoSaid : Prop := formSignsUptoRow.holds Tryd.pinned (OpenSpec.upto formSignsSpec)

/-- 'nunciolaw06.FormPackets', WHERE WHAT IT READS IS OF BULK AT MOST 1048576: true; the input reads as it did. -/
def formPacketsUptoRow : OpenClaim := { program := "ytaffpgafbjhahaadoor", sum := "d30b1104abd766922976582b1dfa8bf41c031f052eac8057630d61b2a19899b7", func := "nuncio/nunciolaw06.FormPackets", spec := "formPackets", unfollowed := true, recurses := true, named := ["bytes.ErrTooLarge"], apart := false, laid := [("bytes.ErrTooLarge", laid_bytes_ErrTooLarge)], narrowed := true }
def FormPacketsUptoSaid : Prop := formPacketsUptoRow.holds Tryd.pinned (OpenSpec.upto formPacketsSpec)

/-- 'nunciolaw06.FormReads', WHERE WHAT IT READS IS OF BULK AT MOST 1048576: true; the input reads as it did. -/
def formReadsUptoRow : OpenClaim := { program := "ytaffpgafbjhahaadoor", sum := "d30b1104abd766922976582b1dfa8bf41c031f052eac8057630d61b2a19899b7", func := "nuncio/nunciolaw06.FormReads", spec := "formReads", unfollowed := true, recurses := true, named := ["bytes.ErrTooLarge"], apart := false, laid := [("bytes.ErrTooLarge", laid_bytes_ErrTooLarge)], narrowed := true }
def FormReadsUptoSaid : Prop := formReadsUptoRow.holds Tryd.pinned (OpenSpec.upto formReadsSpec)

/-- 'nunciolaw06.FormBack', WHERE WHAT IT READS IS OF BULK AT MOST 1048576: true; the input reads as it did. -/
def formBackUptoRow : OpenClaim := { program := "ytaffpgafbjhahaadoor", sum := "d30b1104abd766922976582b1dfa8bf41c031f052eac8057630d61b2a19899b7", func := "nuncio/nunciolaw06.FormBack", spec := "formBack", unfollowed := true, recurses := true, named := ["bytes.ErrTooLarge"], apart := false, laid := [("bytes.ErrTooLarge", laid_bytes_ErrTooLarge)], narrowed := true }
def FormBackUptoSaid : Prop := formBackUptoRow.holds Tryd.pinned (OpenSpec.upto formBackSpec)

/-- 'nunciolaw06.FormHashes', WHERE WHAT IT READS IS OF BULK AT MOST 1048576: true; the input reads as it did. -/
def formHashesUptoRow : OpenClaim := { program := "ytaffpgafbjhahaadoor", sum := "d30b1104abd766922976582b1dfa8bf41c031f052eac8057630d61b2a19899b7", func := "nuncio/nunciolaw06.FormHashes", spec := "formHashes", unfollowed := true, recurses := true, named := ["bytes.ErrTooLarge", "nuncio/blake.roots"], apart := false, laid := [("nuncio/blake.roots", laid_nuncio_blake_roots), ("bytes.ErrTooLarge", laid_bytes_ErrTooLarge)], narrowed := true }
def FormHashesUptoSaid : Prop := formHashesUptoRow.holds Tryd.pinned (OpenSpec.upto formHashesSpec)

/-- 'nunciolaw06.FormVotes', WHERE WHAT IT READS IS OF BULK AT MOST 1048576: true; the input reads as it did. -/
def formVotesUptoRow : OpenClaim := { program := "ytaffpgafbjhahaadoor", sum := "d30b1104abd766922976582b1dfa8bf41c031f052eac8057630d61b2a19899b7", func := "nuncio/nunciolaw06.FormVotes", spec := "formVotes", unfollowed := true, recurses := true, named := ["bytes.ErrTooLarge", "nuncio/blake.roots"], apart := false, laid := [("nuncio/blake.roots", laid_nuncio_blake_roots), ("bytes.ErrTooLarge", laid_bytes_ErrTooLarge)], narrowed := true }
def FormVotesUptoSaid : Prop := formVotesUptoRow.holds Tryd.pinned (OpenSpec.upto formVotesSpec)

/-- 'nunciolaw06.FormSets', WHERE WHAT IT READS IS OF BULK AT MOST 1048576: true; the input reads as it did. -/
def formSetsUptoRow : OpenClaim := { program := "ytaffpgafbjhahaadoor", sum := "d30b1104abd766922976582b1dfa8bf41c031f052eac8057630d61b2a19899b7", func := "nuncio/nunciolaw06.FormSets", spec := "formSets", unfollowed := true, recurses := true, named := ["bytes.ErrTooLarge", "nuncio/blake.roots"], apart := false, laid := [("nuncio/blake.roots", laid_nuncio_blake_roots), ("bytes.ErrTooLarge", laid_bytes_ErrTooLarge)], narrowed := true }
def FormSetsUptoSaid : Prop := formSetsUptoRow.holds Tryd.pinned (OpenSpec.upto formSetsSpec)

/-- 'nunciolaw06.FormOnly', WHERE WHAT IT READS IS OF BULK AT MOST 1048576: true; the input reads as it did. -/
def formOnlyUptoRow : OpenClaim := { program := "ytaffpgafbjhahaadoor", sum := "d30b1104abd766922976582b1dfa8bf41c031f052eac8057630d61b2a19899b7", func := "nuncio/nunciolaw06.FormOnly", spec := "formOnly", unfollowed := true, recurses := true, named := ["bytes.ErrTooLarge"], apart := false, laid := [("bytes.ErrTooLarge", laid_bytes_ErrTooLarge)], narrowed := true }
def FormOnlyUptoSaid : Prop := formOnlyUptoRow.holds Tryd.pinned (OpenSpec.upto formOnlySpec)

end Rows
end Go.Proofs.YtaffpgafbjhahaaDoor
