/-
  NARROWER THAN 'FOR EVERY INPUT', by the rows' own cells (each row's printed sentence says how): SignerOn: laid · SignerNil: laid · SignerRises: laid · SignerPlays: laid · SignerNever: laid.
  DERIVED. THE GIVEN ROWS OF THIS SEAT. 5 by the template 'for every input the law returns true; each argument reads behind the call as it read before'; 0 by the template 'total and deterministic' (their statements: YtcbkehnlgpcelaaGreatDoorTotals.lean).
  GIVEN WITH THE SEED: the statements are not yours to turn. If you find one false, say at which input.
  Laid BY PROGRAM, IN A SANDBOX (cutbox-rows.mjs): the forced cells as the released guide's own fill.sh prints them over the translation ad6b5e4e7fda45f0… (all of the seat's roots in one cut). By AI agents, Wed Nov 11 2026. No macro, syntax, notation, axiom, sorry.
-/
import Derived.Test.YtcbkehnlgpcelaaGreatDoorChecked
import GoSem.Claim
import GoSem.ClaimJoined
import GoSem.ClaimMapViews
import Derived.JoinedTies
import Derived.KernelRfl
namespace Go.Proofs.YtcbkehnlgpcelaaGreatDoor
/- THE CELL 'sum', in the pinned program and in every row, IS THE sha256 OF THE DUMP (.gsa) THAT YtcbkehnlgpcelaaGreatDoorProg.lean LOADS. Nothing in Lean hashes anything: it is a label: what it is worth is what the hold of that sum in a sandbox is worth. -/
noncomputable def Tryz.pinned : Pinned := { name := "ytcbkehnlgpcelaagreatdoor", sum := "ad6b5e4e7fda45f06d62cbb15065c7d4c1abfd2d653067d5449681e9a3da61b1", checked := Tryz.checked }
namespace Rows
def none {H : Type} : Left H := { results := [], args := [] }

/- WHAT THE LISTED PACKAGE-LEVEL VARIABLES READ AS WHEN THE CALL BEGINS. Each datum BY PROGRAM (the guide's laid-datum.mjs) off the statement by which the dump's own 'gosem.cut.vars' lays the variable. In a bare row this is a premise. The card (YtcbkehnlgpcelaaGreatDoorCards.lean) ties it to the program's text. -/
def laid_nuncio_blake_roots {H : Type} : DataW H := .agg [.lit (.int .u32 1779033703), .lit (.int .u32 3144134277), .lit (.int .u32 1013904242), .lit (.int .u32 2773480762), .lit (.int .u32 1359893119), .lit (.int .u32 2600822924), .lit (.int .u32 528734635), .lit (.int .u32 1541459225)]
def laid_bytes_ErrTooLarge {H : Type} : DataW H := .iface "*errors.errorString" (.ptr (.agg [.lit (.string [98, 121, 116, 101, 115, 46, 66, 117, 102, 102, 101, 114, 58, 32, 116, 111, 111, 32, 108, 97, 114, 103, 101])]))

/-- 'nunciolaw13.SignerOn': WHATEVER THE INPUT: true; the input reads as it did. -/
def signerOnSpec : ChangeSpec := { name := "signerOn", fn := fun _ => fun
  | [d1, d2, d3] => { results := [.lit (.bool true)], args := [d1, d2, d3] }
  | _ => none }
def signerOnRow : OpenClaim := { program := "ytcbkehnlgpcelaagreatdoor", sum := "ad6b5e4e7fda45f06d62cbb15065c7d4c1abfd2d653067d5449681e9a3da61b1", func := "nuncio/nunciolaw13.SignerOn", spec := "signerOn", unfollowed := true, recurses := true, named := ["math/bits.divideError", "math/bits.overflowError", "bytes.ErrTooLarge", "nuncio/blake.roots"], apart := false, laid := [("nuncio/blake.roots", laid_nuncio_blake_roots), ("bytes.ErrTooLarge", laid_bytes_ErrTooLarge)] }
def SignerOnSaid : Prop := signerOnRow.holds Tryz.pinned (OpenSpec.ofChange signerOnSpec)

/-- ITS FALSE NEIGHBOUR: 'it returns false'. Refute it at one input. -/
def signerOnWrong : ChangeSpec := { name := "signerOn", fn := fun _ => fun
  | [d1, d2, d3] => { results := [.lit (.bool false)], args := [d1, d2, d3] }
  | _ => none }
def SignerOnWrongFalsely : Prop := signerOnRow.holds Tryz.pinned (OpenSpec.ofChange signerOnWrong)

/-- 'nunciolaw13.SignerNil': WHATEVER THE INPUT: true; the input reads as it did. -/
def signerNilSpec : ChangeSpec := { name := "signerNil", fn := fun _ => fun
  | [d] => { results := [.lit (.bool true)], args := [d] }
  | _ => none }
def signerNilRow : OpenClaim := { program := "ytcbkehnlgpcelaagreatdoor", sum := "ad6b5e4e7fda45f06d62cbb15065c7d4c1abfd2d653067d5449681e9a3da61b1", func := "nuncio/nunciolaw13.SignerNil", spec := "signerNil", unfollowed := true, recurses := true, named := ["bytes.ErrTooLarge", "math/bits.divideError", "math/bits.overflowError", "nuncio/blake.roots"], apart := false, laid := [("nuncio/blake.roots", laid_nuncio_blake_roots), ("bytes.ErrTooLarge", laid_bytes_ErrTooLarge)] }
def SignerNilSaid : Prop := signerNilRow.holds Tryz.pinned (OpenSpec.ofChange signerNilSpec)

/-- ITS FALSE NEIGHBOUR: 'it returns false'. Refute it at one input. -/
def signerNilWrong : ChangeSpec := { name := "signerNil", fn := fun _ => fun
  | [d] => { results := [.lit (.bool false)], args := [d] }
  | _ => none }
def SignerNilWrongFalsely : Prop := signerNilRow.holds Tryz.pinned (OpenSpec.ofChange signerNilWrong)

/-- 'nunciolaw13.SignerRises': WHATEVER THE INPUT: true; the input reads as it did. -/
def signerRisesSpec : ChangeSpec := { name := "signerRises", fn := fun _ => fun
  | [d1, d2] => { results := [.lit (.bool true)], args := [d1, d2] }
  | _ => none }
def signerRisesRow : OpenClaim := { program := "ytcbkehnlgpcelaagreatdoor", sum := "ad6b5e4e7fda45f06d62cbb15065c7d4c1abfd2d653067d5449681e9a3da61b1", func := "nuncio/nunciolaw13.SignerRises", spec := "signerRises", unfollowed := true, recurses := true, named := ["math/bits.divideError", "math/bits.overflowError", "bytes.ErrTooLarge", "nuncio/blake.roots"], apart := false, laid := [("nuncio/blake.roots", laid_nuncio_blake_roots), ("bytes.ErrTooLarge", laid_bytes_ErrTooLarge)] }
def SignerRisesSaid : Prop := signerRisesRow.holds Tryz.pinned (OpenSpec.ofChange signerRisesSpec)

/-- ITS FALSE NEIGHBOUR: 'it returns false'. Refute it at one input. -/
def signerRisesWrong : ChangeSpec := { name := "signerRises", fn := fun _ => fun
  | [d1, d2] => { results := [.lit (.bool false)], args := [d1, d2] }
  | _ => none }
def SignerRisesWrongFalsely : Prop := signerRisesRow.holds Tryz.pinned (OpenSpec.ofChange signerRisesWrong)

/-- 'nunciolaw13.SignerPlays': WHATEVER THE INPUT: true; the input reads as it did. -/
def signerPlaysSpec : ChangeSpec := { name := "signerPlays", fn := fun _ => fun
  | [d1, d2, d3] => { results := [.lit (.bool true)], args := [d1, d2, d3] }
  | _ => none }
def signerPlaysRow : OpenClaim := { program := "ytcbkehnlgpcelaagreatdoor", sum := "ad6b5e4e7fda45f06d62cbb15065c7d4c1abfd2d653067d5449681e9a3da61b1", func := "nuncio/nunciolaw13.SignerPlays", spec := "signerPlays", unfollowed := true, recurses := true, named := ["math/bits.divideError", "math/bits.overflowError", "bytes.ErrTooLarge", "nuncio/blake.roots"], apart := false, laid := [("nuncio/blake.roots", laid_nuncio_blake_roots), ("bytes.ErrTooLarge", laid_bytes_ErrTooLarge)] }
def SignerPlaysSaid : Prop := signerPlaysRow.holds Tryz.pinned (OpenSpec.ofChange signerPlaysSpec)

/-- ITS FALSE NEIGHBOUR: 'it returns false'. Refute it at one input. -/
def signerPlaysWrong : ChangeSpec := { name := "signerPlays", fn := fun _ => fun
  | [d1, d2, d3] => { results := [.lit (.bool false)], args := [d1, d2, d3] }
  | _ => none }
def SignerPlaysWrongFalsely : Prop := signerPlaysRow.holds Tryz.pinned (OpenSpec.ofChange signerPlaysWrong)

/-- 'nunciolaw13.SignerNever': WHATEVER THE INPUT: true; the input reads as it did. -/
def signerNeverSpec : ChangeSpec := { name := "signerNever", fn := fun _ => fun
  | [d1, d2] => { results := [.lit (.bool true)], args := [d1, d2] }
  | _ => none }
def signerNeverRow : OpenClaim := { program := "ytcbkehnlgpcelaagreatdoor", sum := "ad6b5e4e7fda45f06d62cbb15065c7d4c1abfd2d653067d5449681e9a3da61b1", func := "nuncio/nunciolaw13.SignerNever", spec := "signerNever", unfollowed := true, recurses := true, named := ["math/bits.divideError", "math/bits.overflowError", "bytes.ErrTooLarge", "nuncio/blake.roots"], apart := false, laid := [("nuncio/blake.roots", laid_nuncio_blake_roots), ("bytes.ErrTooLarge", laid_bytes_ErrTooLarge)] }
def SignerNeverSaid : Prop := signerNeverRow.holds Tryz.pinned (OpenSpec.ofChange signerNeverSpec)

/-- ITS FALSE NEIGHBOUR: 'it returns false'. Refute it at one input. -/
def signerNeverWrong : ChangeSpec := { name := "signerNever", fn := fun _ => fun
  | [d1, d2] => { results := [.lit (.bool false)], args := [d1, d2] }
  | _ => none }
def SignerNeverWrongFalsely : Prop := signerNeverRow.holds Tryz.pinned (OpenSpec.ofChange signerNeverWrong)

/- THE SECOND FORM. 'bulk': how many values and letters a reading holds, each counted each time it is reached (what is shared counts as often as it is met; a slice's spare places count too). A statement '..UptoSaid' is the law's where the arguments, and the package variables that the reading takes, are together of bulk at most 1048576: NARROWER than '..Said'. Prove '..Said' where nothing that the law and all that it calls make is longer than what came in: it says more and counts as full. Else prove '..UptoSaid'. A law counts once. -/
mutual
def uptoBulk {H : Type} : DataW H → Nat
  | .lit (.string bytes) => bytes.length + 1
  | .lit _ => 1
  | .nil => 1
  | .ptr d => uptoBulk d + 1
  | .slice elems spare => uptoBulkAll elems + uptoBulkAll spare + 1
  | .agg parts => uptoBulkAll parts + 1
  | .iface _ d => uptoBulk d + 1
  | .map entries => uptoBulkEntries entries + 1
  | .held _ => 1
def uptoBulkAll {H : Type} : List (DataW H) → Nat
  | [] => 0
  | d :: r => uptoBulk d + uptoBulkAll r
def uptoBulkEntries {H : Type} : List (Lit × DataW H) → Nat
  | [] => 0
  | x :: r => uptoBulkEntry x + uptoBulkEntries r
def uptoBulkEntry {H : Type} : Lit × DataW H → Nat
  | (.string bytes, d) => bytes.length + uptoBulk d + 1
  | (_, d) => uptoBulk d + 1
 end
def uptoSmall : (H : Type) → List (DataW H) → Bool := fun _ ds => decide (uptoBulkAll ds ≤ 1048576)
def OpenSpec.upto (s : _root_.Go.ChangeSpec) : _root_.Go.OpenSpec := { _root_.Go.OpenSpec.ofChange s with cond := some uptoSmall }

/-- 'nunciolaw13.SignerOn', WHERE WHAT IT READS IS OF BULK AT MOST 1048576: true; the input reads as it did. -/
def signerOnUptoRow : OpenClaim := { program := "ytcbkehnlgpcelaagreatdoor", sum := "ad6b5e4e7fda45f06d62cbb15065c7d4c1abfd2d653067d5449681e9a3da61b1", func := "nuncio/nunciolaw13.SignerOn", spec := "signerOn", unfollowed := true, recurses := true, named := ["math/bits.divideError", "math/bits.overflowError", "bytes.ErrTooLarge", "nuncio/blake.roots"], apart := false, laid := [("nuncio/blake.roots", laid_nuncio_blake_roots), ("bytes.ErrTooLarge", laid_bytes_ErrTooLarge)], narrowed := true }
def SignerOnUptoSaid : Prop := signerOnUptoRow.holds Tryz.pinned (OpenSpec.upto signerOnSpec)

/-- 'nunciolaw13.SignerNil', WHERE WHAT IT READS IS OF BULK AT MOST 1048576: true; the input reads as it did. -/
def signerNilUptoRow : OpenClaim := { program := "ytcbkehnlgpcelaagreatdoor", sum := "ad6b5e4e7fda45f06d62cbb15065c7d4c1abfd2d653067d5449681e9a3da61b1", func := "nuncio/nunciolaw13.SignerNil", spec := "signerNil", unfollowed := true, recurses := true, named := ["bytes.ErrTooLarge", "math/bits.divideError", "math/bits.overflowError", "nuncio/blake.roots"], apart := false, laid := [("nuncio/blake.roots", laid_nuncio_blake_roots), ("bytes.ErrTooLarge", laid_bytes_ErrTooLarge)], narrowed := true }
def SignerNilUptoSaid : Prop := signerNilUptoRow.holds Tryz.pinned (OpenSpec.upto signerNilSpec)

/-- 'nunciolaw13.SignerRises', WHERE WHAT IT READS IS OF BULK AT MOST 1048576: true; the input reads as it did. -/
def signerRisesUptoRow : OpenClaim := { program := "ytcbkehnlgpcelaagreatdoor", sum := "ad6b5e4e7fda45f06d62cbb15065c7d4c1abfd2d653067d5449681e9a3da61b1", func := "nuncio/nunciolaw13.SignerRises", spec := "signerRises", unfollowed := true, recurses := true, named := ["math/bits.divideError", "math/bits.overflowError", "bytes.ErrTooLarge", "nuncio/blake.roots"], apart := false, laid := [("nuncio/blake.roots", laid_nuncio_blake_roots), ("bytes.ErrTooLarge", laid_bytes_ErrTooLarge)], narrowed := true }
def SignerRisesUptoSaid : Prop := signerRisesUptoRow.holds Tryz.pinned (OpenSpec.upto signerRisesSpec)

/-- 'nunciolaw13.SignerPlays', WHERE WHAT IT READS IS OF BULK AT MOST 1048576: true; the input reads as it did. -/
def signerPlaysUptoRow : OpenClaim := { program := "ytcbkehnlgpcelaagreatdoor", sum := "ad6b5e4e7fda45f06d62cbb15065c7d4c1abfd2d653067d5449681e9a3da61b1", func := "nuncio/nunciolaw13.SignerPlays", spec := "signerPlays", unfollowed := true, recurses := true, named := ["math/bits.divideError", "math/bits.overflowError", "bytes.ErrTooLarge", "nuncio/blake.roots"], apart := false, laid := [("nuncio/blake.roots", laid_nuncio_blake_roots), ("bytes.ErrTooLarge", laid_bytes_ErrTooLarge)], narrowed := true }
def SignerPlaysUptoSaid : Prop := signerPlaysUptoRow.holds Tryz.pinned (OpenSpec.upto signerPlaysSpec)

/-- 'nunciolaw13.SignerNever', WHERE WHAT IT READS IS OF BULK AT MOST 1048576: true; the input reads as it did. -/
def signerNeverUptoRow : OpenClaim := { program := "ytcbkehnlgpcelaagreatdoor", sum := "ad6b5e4e7fda45f06d62cbb15065c7d4c1abfd2d653067d5449681e9a3da61b1", func := "nuncio/nunciolaw13.SignerNever", spec := "signerNever", unfollowed := true, recurses := true, named := ["math/bits.divideError", "math/bits.overflowError", "bytes.ErrTooLarge", "nuncio/blake.roots"], apart := false, laid := [("nuncio/blake.roots", laid_nuncio_blake_roots), ("bytes.ErrTooLarge", laid_bytes_ErrTooLarge)], narrowed := true }
def SignerNeverUptoSaid : Prop := signerNeverUptoRow.holds Tryz.pinned (OpenSpec.upto signerNeverSpec)

end Rows
end Go.Proofs.YtcbkehnlgpcelaaGreatDoor
