/-
  NARROWER THAN 'FOR EVERY INPUT', by the rows' own cells (each row's printed sentence says how): TallySigns: laid · TallyOne: laid · TallyChecks: laid · TallyOrder: laid · TallyNil: laid · TallyCommits: laid.
  DERIVED. THE GIVEN ROWS OF THIS SEAT. 6 by the template 'for every input the law returns true; each argument reads behind the call as it read before'; 0 by the template 'total and deterministic' (their statements: YtfnginmoiecgnaaDoorTotals.lean).
  GIVEN WITH THE SEED: the statements are not yours to turn. If you find one false, say at which input.
  Laid BY PROGRAM, IN A SANDBOX (cutbox-rows.mjs): the forced cells as the released guide's own fill.sh prints them over the translation 917b6c45fdc6eac1… (all of the seat's roots in one cut). By AI agents, Wed Nov 11 2026. No macro, syntax, notation, axiom, sorry.
-/
import Derived.Test.YtfnginmoiecgnaaDoorChecked
import GoSem.Claim
import GoSem.ClaimJoined
import GoSem.ClaimMapViews
import Derived.JoinedTies
import Derived.KernelRfl
namespace Go.Proofs.YtfnginmoiecgnaaDoor
/- THE CELL 'sum', in the pinned program and in every row, IS THE sha256 OF THE DUMP (.gsa) THAT YtfnginmoiecgnaaDoorProg.lean LOADS. Nothing in Lean hashes anything: it is a label: what it is worth is what the hold of that sum in a sandbox is worth. -/
noncomputable def Tryd.pinned : Pinned := { name := "ytfnginmoiecgnaadoor", sum := "917b6c45fdc6eac1a20bf8b625be382ce5909ba3c0908da7119abadfda29847b", checked := Tryd.checked }
namespace Rows
def none {H : Type} : Left H := { results := [], args := [] }

/- WHAT THE LISTED PACKAGE-LEVEL VARIABLES READ AS WHEN THE CALL BEGINS. Each datum BY PROGRAM (the guide's laid-datum.mjs) off the statement by which the dump's own 'gosem.cut.vars' lays the variable. In a bare row this is a premise. The card (YtfnginmoiecgnaaDoorCards.lean) ties it to the program's text. -/
def laid_nuncio_blake_roots {H : Type} : DataW H := .agg [.lit (.int .u32 1779033703), .lit (.int .u32 3144134277), .lit (.int .u32 1013904242), .lit (.int .u32 2773480762), .lit (.int .u32 1359893119), .lit (.int .u32 2600822924), .lit (.int .u32 528734635), .lit (.int .u32 1541459225)]
def laid_bytes_ErrTooLarge {H : Type} : DataW H := .iface "*errors.errorString" (.ptr (.agg [.lit (.string [98, 121, 116, 101, 115, 46, 66, 117, 102, 102, 101, 114, 58, 32, 116, 111, 111, 32, 108, 97, 114, 103, 101])]))

/-- 'nunciolaw09.TallySigns': WHATEVER THE INPUT: true; the input reads as it did. -/
def tallySignsSpec : ChangeSpec := { name := "tallySigns", fn := fun _ => fun
  | [d1, d2, d3] => { results := [.lit (.bool true)], args := [d1, d2, d3] }
  | _ => none }
def tallySignsRow : OpenClaim := { program := "ytfnginmoiecgnaadoor", sum := "917b6c45fdc6eac1a20bf8b625be382ce5909ba3c0908da7119abadfda29847b", func := "nuncio/nunciolaw09.TallySigns", spec := "tallySigns", unfollowed := true, recurses := true, named := ["bytes.ErrTooLarge", "math/bits.divideError", "math/bits.overflowError", "nuncio/blake.roots"], plainKeys := false, apart := false, laid := [("nuncio/blake.roots", laid_nuncio_blake_roots), ("bytes.ErrTooLarge", laid_bytes_ErrTooLarge)] }
def TallySignsSaid : Prop := tallySignsRow.holds Tryd.pinned (OpenSpec.ofChange tallySignsSpec)

/-- ITS FALSE NEIGHBOUR: 'it returns false'. Refute it at one input. -/
def tallySignsWrong : ChangeSpec := { name := "tallySigns", fn := fun _ => fun
  | [d1, d2, d3] => { results := [.lit (.bool false)], args := [d1, d2, d3] }
  | _ => none }
def TallySignsWrongFalsely : Prop := tallySignsRow.holds Tryd.pinned (OpenSpec.ofChange tallySignsWrong)

/-- 'nunciolaw09.TallyOne': WHATEVER THE INPUT: true; the input reads as it did. -/
def tallyOneSpec : ChangeSpec := { name := "tallyOne", fn := fun _ => fun
  | [d1, d2] => { results := [.lit (.bool true)], args := [d1, d2] }
  | _ => none }
def tallyOneRow : OpenClaim := { program := "ytfnginmoiecgnaadoor", sum := "917b6c45fdc6eac1a20bf8b625be382ce5909ba3c0908da7119abadfda29847b", func := "nuncio/nunciolaw09.TallyOne", spec := "tallyOne", unfollowed := true, recurses := true, named := ["bytes.ErrTooLarge", "math/bits.divideError", "math/bits.overflowError", "nuncio/blake.roots"], plainKeys := false, apart := false, laid := [("nuncio/blake.roots", laid_nuncio_blake_roots), ("bytes.ErrTooLarge", laid_bytes_ErrTooLarge)] }
def TallyOneSaid : Prop := tallyOneRow.holds Tryd.pinned (OpenSpec.ofChange tallyOneSpec)

/-- ITS FALSE NEIGHBOUR: 'it returns false'. Refute it at one input. -/
def tallyOneWrong : ChangeSpec := { name := "tallyOne", fn := fun _ => fun
  | [d1, d2] => { results := [.lit (.bool false)], args := [d1, d2] }
  | _ => none }
def TallyOneWrongFalsely : Prop := tallyOneRow.holds Tryd.pinned (OpenSpec.ofChange tallyOneWrong)

/-- 'nunciolaw09.TallyChecks': WHATEVER THE INPUT: true; the input reads as it did. -/
def tallyChecksSpec : ChangeSpec := { name := "tallyChecks", fn := fun _ => fun
  | [d1, d2, d3] => { results := [.lit (.bool true)], args := [d1, d2, d3] }
  | _ => none }
def tallyChecksRow : OpenClaim := { program := "ytfnginmoiecgnaadoor", sum := "917b6c45fdc6eac1a20bf8b625be382ce5909ba3c0908da7119abadfda29847b", func := "nuncio/nunciolaw09.TallyChecks", spec := "tallyChecks", unfollowed := true, recurses := true, named := ["bytes.ErrTooLarge", "math/bits.divideError", "math/bits.overflowError", "nuncio/blake.roots"], plainKeys := false, apart := false, laid := [("nuncio/blake.roots", laid_nuncio_blake_roots), ("bytes.ErrTooLarge", laid_bytes_ErrTooLarge)] }
def TallyChecksSaid : Prop := tallyChecksRow.holds Tryd.pinned (OpenSpec.ofChange tallyChecksSpec)

/-- ITS FALSE NEIGHBOUR: 'it returns false'. Refute it at one input. -/
def tallyChecksWrong : ChangeSpec := { name := "tallyChecks", fn := fun _ => fun
  | [d1, d2, d3] => { results := [.lit (.bool false)], args := [d1, d2, d3] }
  | _ => none }
def TallyChecksWrongFalsely : Prop := tallyChecksRow.holds Tryd.pinned (OpenSpec.ofChange tallyChecksWrong)

/-- 'nunciolaw09.TallyOrder': WHATEVER THE INPUT: true; the input reads as it did. -/
def tallyOrderSpec : ChangeSpec := { name := "tallyOrder", fn := fun _ => fun
  | [d1, d2] => { results := [.lit (.bool true)], args := [d1, d2] }
  | _ => none }
def tallyOrderRow : OpenClaim := { program := "ytfnginmoiecgnaadoor", sum := "917b6c45fdc6eac1a20bf8b625be382ce5909ba3c0908da7119abadfda29847b", func := "nuncio/nunciolaw09.TallyOrder", spec := "tallyOrder", unfollowed := true, recurses := true, named := ["bytes.ErrTooLarge", "math/bits.divideError", "math/bits.overflowError", "nuncio/blake.roots"], plainKeys := false, apart := false, laid := [("nuncio/blake.roots", laid_nuncio_blake_roots), ("bytes.ErrTooLarge", laid_bytes_ErrTooLarge)] }
def TallyOrderSaid : Prop := tallyOrderRow.holds Tryd.pinned (OpenSpec.ofChange tallyOrderSpec)

/-- ITS FALSE NEIGHBOUR: 'it returns false'. Refute it at one input. -/
def tallyOrderWrong : ChangeSpec := { name := "tallyOrder", fn := fun _ => fun
  | [d1, d2] => { results := [.lit (.bool false)], args := [d1, d2] }
  | _ => none }
def TallyOrderWrongFalsely : Prop := tallyOrderRow.holds Tryd.pinned (OpenSpec.ofChange tallyOrderWrong)

/-- 'nunciolaw09.TallyNil': WHATEVER THE INPUT: true; the input reads as it did. -/
def tallyNilSpec : ChangeSpec := { name := "tallyNil", fn := fun _ => fun
  | [d] => { results := [.lit (.bool true)], args := [d] }
  | _ => none }
def tallyNilRow : OpenClaim := { program := "ytfnginmoiecgnaadoor", sum := "917b6c45fdc6eac1a20bf8b625be382ce5909ba3c0908da7119abadfda29847b", func := "nuncio/nunciolaw09.TallyNil", spec := "tallyNil", unfollowed := true, recurses := true, named := ["bytes.ErrTooLarge", "math/bits.divideError", "math/bits.overflowError", "nuncio/blake.roots"], plainKeys := false, apart := false, laid := [("nuncio/blake.roots", laid_nuncio_blake_roots), ("bytes.ErrTooLarge", laid_bytes_ErrTooLarge)] }
def TallyNilSaid : Prop := tallyNilRow.holds Tryd.pinned (OpenSpec.ofChange tallyNilSpec)

/-- ITS FALSE NEIGHBOUR: 'it returns false'. Refute it at one input. -/
def tallyNilWrong : ChangeSpec := { name := "tallyNil", fn := fun _ => fun
  | [d] => { results := [.lit (.bool false)], args := [d] }
  | _ => none }
def TallyNilWrongFalsely : Prop := tallyNilRow.holds Tryd.pinned (OpenSpec.ofChange tallyNilWrong)

/-- 'nunciolaw09.TallyCommits': WHATEVER THE INPUT: true; the input reads as it did. -/
def tallyCommitsSpec : ChangeSpec := { name := "tallyCommits", fn := fun _ => fun
  | [d1, d2] => { results := [.lit (.bool true)], args := [d1, d2] }
  | _ => none }
def tallyCommitsRow : OpenClaim := { program := "ytfnginmoiecgnaadoor", sum := "917b6c45fdc6eac1a20bf8b625be382ce5909ba3c0908da7119abadfda29847b", func := "nuncio/nunciolaw09.TallyCommits", spec := "tallyCommits", unfollowed := true, recurses := true, named := ["bytes.ErrTooLarge", "math/bits.divideError", "math/bits.overflowError", "nuncio/blake.roots"], plainKeys := false, apart := false, laid := [("nuncio/blake.roots", laid_nuncio_blake_roots), ("bytes.ErrTooLarge", laid_bytes_ErrTooLarge)] }
def TallyCommitsSaid : Prop := tallyCommitsRow.holds Tryd.pinned (OpenSpec.ofChange tallyCommitsSpec)

/-- ITS FALSE NEIGHBOUR: 'it returns false'. Refute it at one input. -/
def tallyCommitsWrong : ChangeSpec := { name := "tallyCommits", fn := fun _ => fun
  | [d1, d2] => { results := [.lit (.bool false)], args := [d1, d2] }
  | _ => none }
def TallyCommitsWrongFalsely : Prop := tallyCommitsRow.holds Tryd.pinned (OpenSpec.ofChange tallyCommitsWrong)

/- THE SECOND FORM. 'bulk': how many values and letters a reading holds, each counted each time it is reached (what is shared counts as often as it is met; a slice's spare places count too). A statement '..UptoSaid' is the law's where the arguments, and the package variables that the reading takes, are together of bulk at most 1048576: NARROWER than '..Said'. Prove '..Said' where nothing that the law and all that it calls make is longer than what came in: it says more and counts as full. Else prove '..UptoSaid'. A law counts once. -/
mutual
def uptoBulk {H : Type} : DataW H → Nat
  | .lit (.string bytes) => bytes.length + 1
  | .lit _ => 1
  | .nil => 1
  | .ptr d => uptoBulk d + 1
  | .slice elems spare => uptoBulkAll elems + uptoBulkAll spare + 1
  | .agg parts => uptoBulkAll parts + 1
  | .iface _ d => uptoBulk d + 1
  | .map entries => uptoBulkEntries entries + 1
  | .held _ => 1
def uptoBulkAll {H : Type} : List (DataW H) → Nat
  | [] => 0
  | d :: r => uptoBulk d + uptoBulkAll r
def uptoBulkEntries {H : Type} : List (Lit × DataW H) → Nat
  | [] => 0
  | x :: r => uptoBulkEntry x + uptoBulkEntries r
def uptoBulkEntry {H : Type} : Lit × DataW H → Nat
  | (.string bytes, d) => bytes.length + uptoBulk d + 1
  | (_, d) => uptoBulk d + 1
 end
def uptoSmall : (H : Type) → List (DataW H) → Bool := fun _ ds => decide (uptoBulkAll ds ≤ 1048576)
def OpenSpec.upto (s : _root_.Go.ChangeSpec) : _root_.Go.OpenSpec := { _root_.Go.OpenSpec.ofChange s with cond := some uptoSmall }

/-- 'nunciolaw09.TallySigns', WHERE WHAT IT READS IS OF BULK AT MOST 1048576: true; the input reads as it did. -/
def tallySignsUptoRow : OpenClaim := { program := "ytfnginmoiecgnaadoor", sum := "917b6c45fdc6eac1a20bf8b625be382ce5909ba3c0908da7119abadfda29847b", func := "nuncio/nunciolaw09.TallySigns", spec := "tallySigns", unfollowed := true, recurses := true, named := ["bytes.ErrTooLarge", "math/bits.divideError", "math/bits.overflowError", "nuncio/blake.roots"], plainKeys := false, apart := false, laid := [("nuncio/blake.roots", laid_nuncio_blake_roots), ("bytes.ErrTooLarge", laid_bytes_ErrTooLarge)], narrowed := true }
def TallySignsUptoSaid : Prop := tallySignsUptoRow.holds Tryd.pinned (OpenSpec.upto tallySignsSpec)

/-- 'nunciolaw09.TallyOne', WHERE WHAT IT READS IS OF BULK AT MOST 1048576: true; the input reads as it did. -/
def tallyOneUptoRow : OpenClaim := { program := "ytfnginmoiecgnaadoor", sum := "917b6c45fdc6eac1a20bf8b625be382ce5909ba3c0908da7119abadfda29847b", func := "nuncio/nunciolaw09.TallyOne", spec := "tallyOne", unfollowed := true, recurses := true, named := ["bytes.ErrTooLarge", "math/bits.divideError", "math/bits.overflowError", "nuncio/blake.roots"], plainKeys := false, apart := false, laid := [("nuncio/blake.roots", laid_nuncio_blake_roots), ("bytes.ErrTooLarge", laid_bytes_ErrTooLarge)], narrowed := true }
def TallyOneUptoSaid : Prop := tallyOneUptoRow.holds Tryd.pinned (OpenSpec.upto tallyOneSpec)

/-- 'nunciolaw09.TallyChecks', WHERE WHAT IT READS IS OF BULK AT MOST 1048576: true; the input reads as it did. -/
def tallyChecksUptoRow : OpenClaim := { program := "ytfnginmoiecgnaadoor", sum := "917b6c45fdc6eac1a20bf8b625be382ce5909ba3c0908da7119abadfda29847b", func := "nuncio/nunciolaw09.TallyChecks", spec := "tallyChecks", unfollowed := true, recurses := true, named := ["bytes.ErrTooLarge", "math/bits.divideError", "math/bits.overflowError", "nuncio/blake.roots"], plainKeys := false, apart := false, laid := [("nuncio/blake.roots", laid_nuncio_blake_roots), ("bytes.ErrTooLarge", laid_bytes_ErrTooLarge)], narrowed := true }
def TallyChecksUptoSaid : Prop := tallyChecksUptoRow.holds Tryd.pinned (OpenSpec.upto tallyChecksSpec)

/-- 'nunciolaw09.TallyOrder', WHERE WHAT IT READS IS OF BULK AT MOST 1048576: true; the input reads as it did. -/
def tallyOrderUptoRow : OpenClaim := { program := "ytfnginmoiecgnaadoor", sum := "917b6c45fdc6eac1a20bf8b625be382ce5909ba3c0908da7119abadfda29847b", func := "nuncio/nunciolaw09.TallyOrder", spec := "tallyOrder", unfollowed := true, recurses := true, named := ["bytes.ErrTooLarge", "math/bits.divideError", "math/bits.overflowError", "nuncio/blake.roots"], plainKeys := false, apart := false, laid := [("nuncio/blake.roots", laid_nuncio_blake_roots), ("bytes.ErrTooLarge", laid_bytes_ErrTooLarge)], narrowed := true }
def TallyOrderUptoSaid : Prop := tallyOrderUptoRow.holds Tryd.pinned (OpenSpec.upto tallyOrderSpec)

/-- 'nunciolaw09.TallyNil', WHERE WHAT IT READS IS OF BULK AT MOST 1048576: true; the input reads as it did. -/
def tallyNilUptoRow : OpenClaim := { program := "ytfnginmoiecgnaadoor", sum := "917b6c45fdc6eac1a20bf8b625be382ce5909ba3c0908da7119abadfda29847b", func := "nuncio/nunciolaw09.TallyNil", spec := "tallyNil", unfollowed := true, recurses := true, named := ["bytes.ErrTooLarge", "math/bits.divideError", "math/bits.overflowError", "nuncio/blake.roots"], plainKeys := false, apart := false, laid := [("nuncio/blake.roots", laid_nuncio_blake_roots), ("bytes.ErrTooLarge", laid_bytes_ErrTooLarge)], narrowed := true }
def TallyNilUptoSaid : Prop := tallyNilUptoRow.holds Tryd.pinned (OpenSpec.upto tallyNilSpec)

/-- 'nunciolaw09.TallyCommits', WHERE WHAT IT READS IS OF BULK AT MOST 1048576: true; the input reads as it did. -/
def tallyCommitsUptoRow : OpenClaim := { program := "ytfnginmoiecgnaadoor", sum := "917b6c45fdc6eac1a20bf8b625be382ce5909ba3c0908da7119abadfda29847b", func := "nuncio/nunciolaw09.TallyCommits", spec := "tallyCommits", unfollowed := true, recurses := true, named := ["bytes.ErrTooLarge", "math/bits.divideError", "math/bits.overflowError", "nuncio/blake.roots"], plainKeys := false, apart := false, laid := [("nuncio/blake.roots", laid_nuncio_blake_roots), ("bytes.ErrTooLarge", laid_bytes_ErrTooLarge)], narrowed := true }
def TallyCommitsUptoSaid : Prop := tallyCommitsUptoRow.holds Tryd.pinned (OpenSpec.upto tallyCommitsSpec)

end Rows
end Go.Proofs.YtfnginmoiecgnaaDoor
