/-
  NARROWER THAN 'FOR EVERY INPUT', by the rows' own cells (each row's printed sentence says how): VerifySteps: laid · VerifySound: laid · VerifyVouched: laid · VerifyClocks: laid · VerifyBent: laid · VerifyNext: laid · BisectChain: laid · BisectFetches: laid · BisectWants: laid · BisectPlays: laid · BisectNil: laid · BisectPrune: laid.
  DERIVED. THE GIVEN ROWS OF THIS SEAT. 12 by the template 'for every input the law returns true; each argument reads behind the call as it read before'; 0 by the template 'total and deterministic' (their statements: YtdhchehagfmjcaaGreatDoorTotals.lean).
  GIVEN WITH THE SEED: the statements are not yours to turn. If you find one false, say at which input.
  Laid BY PROGRAM, IN A SANDBOX (cutbox-rows.mjs): the forced cells as the released guide's own fill.sh prints them over the translation 03b6ab06462927ee… (all of the seat's roots in one cut). By AI agents, Wed Nov 11 2026. No macro, syntax, notation, axiom, sorry.
-/
import Derived.Test.YtdhchehagfmjcaaGreatDoorChecked
import GoSem.Claim
import GoSem.ClaimJoined
import GoSem.ClaimMapViews
import Derived.JoinedTies
import Derived.KernelRfl
namespace Go.Proofs.YtdhchehagfmjcaaGreatDoor
/- THE CELL 'sum', in the pinned program and in every row, IS THE sha256 OF THE DUMP (.gsa) THAT YtdhchehagfmjcaaGreatDoorProg.lean LOADS. Nothing in Lean hashes anything: it is a label: what it is worth is what the hold of that sum in a sandbox is worth. -/
noncomputable def Tryz.pinned : Pinned := { name := "ytdhchehagfmjcaagreatdoor", sum := "03b6ab06462927ee3fae125a3db4cad599f02fd914c0be6f5de7a0ee92058684", checked := Tryz.checked }
namespace Rows
def none {H : Type} : Left H := { results := [], args := [] }

/- WHAT THE LISTED PACKAGE-LEVEL VARIABLES READ AS WHEN THE CALL BEGINS. Each datum BY PROGRAM (the guide's laid-datum.mjs) off the statement by which the dump's own 'gosem.cut.vars' lays the variable. In a bare row this is a premise. The card (YtdhchehagfmjcaaGreatDoorCards.lean) ties it to the program's text. -/
def laid_nuncio_blake_roots {H : Type} : DataW H := .agg [.lit (.int .u32 1779033703), .lit (.int .u32 3144134277), .lit (.int .u32 1013904242), .lit (.int .u32 2773480762), .lit (.int .u32 1359893119), .lit (.int .u32 2600822924), .lit (.int .u32 528734635), .lit (.int .u32 1541459225)]
def laid_bytes_ErrTooLarge {H : Type} : DataW H := .iface "*errors.errorString" (.ptr (.agg [.lit (.string [98, 121, 116, 101, 115, 46, 66, 117, 102, 102, 101, 114, 58, 32, 116, 111, 111, 32, 108, 97, 114, 103, 101])]))

/-- 'nunciolaw15.VerifySteps': WHATEVER THE INPUT: true; the input reads as it did. -/
def verifyStepsSpec : ChangeSpec := { name := "verifySteps", fn := fun _ => fun
  | [d1, d2, d3] => { results := [.lit (.bool true)], args := [d1, d2, d3] }
  | _ => none }
def verifyStepsRow : OpenClaim := { program := "ytdhchehagfmjcaagreatdoor", sum := "03b6ab06462927ee3fae125a3db4cad599f02fd914c0be6f5de7a0ee92058684", func := "nuncio/nunciolaw15.VerifySteps", spec := "verifySteps", inPlace := ["math.Float64bits", "math.Float64frombits"], unfollowed := true, recurses := true, named := ["bytes.ErrTooLarge", "nuncio/blake.roots", "math/bits.divideError", "math/bits.overflowError"], apart := false, laid := [("nuncio/blake.roots", laid_nuncio_blake_roots), ("bytes.ErrTooLarge", laid_bytes_ErrTooLarge)] }
def VerifyStepsSaid : Prop := verifyStepsRow.holds Tryz.pinned (OpenSpec.ofChange verifyStepsSpec)

/-- ITS FALSE NEIGHBOUR: 'it returns false'. Refute it at one input. -/
def verifyStepsWrong : ChangeSpec := { name := "verifySteps", fn := fun _ => fun
  | [d1, d2, d3] => { results := [.lit (.bool false)], args := [d1, d2, d3] }
  | _ => none }
def VerifyStepsWrongFalsely : Prop := verifyStepsRow.holds Tryz.pinned (OpenSpec.ofChange verifyStepsWrong)

/-- 'nunciolaw15.VerifySound': WHATEVER THE INPUT: true; the input reads as it did. -/
def verifySoundSpec : ChangeSpec := { name := "verifySound", fn := fun _ => fun
  | [d1, d2, d3] => { results := [.lit (.bool true)], args := [d1, d2, d3] }
  | _ => none }
def verifySoundRow : OpenClaim := { program := "ytdhchehagfmjcaagreatdoor", sum := "03b6ab06462927ee3fae125a3db4cad599f02fd914c0be6f5de7a0ee92058684", func := "nuncio/nunciolaw15.VerifySound", spec := "verifySound", inPlace := ["math.Float64bits", "math.Float64frombits"], unfollowed := true, recurses := true, named := ["bytes.ErrTooLarge", "nuncio/blake.roots", "math/bits.divideError", "math/bits.overflowError"], apart := false, laid := [("nuncio/blake.roots", laid_nuncio_blake_roots), ("bytes.ErrTooLarge", laid_bytes_ErrTooLarge)] }
def VerifySoundSaid : Prop := verifySoundRow.holds Tryz.pinned (OpenSpec.ofChange verifySoundSpec)

/-- ITS FALSE NEIGHBOUR: 'it returns false'. Refute it at one input. -/
def verifySoundWrong : ChangeSpec := { name := "verifySound", fn := fun _ => fun
  | [d1, d2, d3] => { results := [.lit (.bool false)], args := [d1, d2, d3] }
  | _ => none }
def VerifySoundWrongFalsely : Prop := verifySoundRow.holds Tryz.pinned (OpenSpec.ofChange verifySoundWrong)

/-- 'nunciolaw15.VerifyVouched': WHATEVER THE INPUT: true; the input reads as it did. -/
def verifyVouchedSpec : ChangeSpec := { name := "verifyVouched", fn := fun _ => fun
  | [d1, d2, d3] => { results := [.lit (.bool true)], args := [d1, d2, d3] }
  | _ => none }
def verifyVouchedRow : OpenClaim := { program := "ytdhchehagfmjcaagreatdoor", sum := "03b6ab06462927ee3fae125a3db4cad599f02fd914c0be6f5de7a0ee92058684", func := "nuncio/nunciolaw15.VerifyVouched", spec := "verifyVouched", inPlace := ["math.Float64bits", "math.Float64frombits"], unfollowed := true, recurses := true, named := ["bytes.ErrTooLarge", "nuncio/blake.roots", "math/bits.divideError", "math/bits.overflowError"], apart := false, laid := [("nuncio/blake.roots", laid_nuncio_blake_roots), ("bytes.ErrTooLarge", laid_bytes_ErrTooLarge)] }
def VerifyVouchedSaid : Prop := verifyVouchedRow.holds Tryz.pinned (OpenSpec.ofChange verifyVouchedSpec)

/-- ITS FALSE NEIGHBOUR: 'it returns false'. Refute it at one input. -/
def verifyVouchedWrong : ChangeSpec := { name := "verifyVouched", fn := fun _ => fun
  | [d1, d2, d3] => { results := [.lit (.bool false)], args := [d1, d2, d3] }
  | _ => none }
def VerifyVouchedWrongFalsely : Prop := verifyVouchedRow.holds Tryz.pinned (OpenSpec.ofChange verifyVouchedWrong)

/-- 'nunciolaw15.VerifyClocks': WHATEVER THE INPUT: true; the input reads as it did. -/
def verifyClocksSpec : ChangeSpec := { name := "verifyClocks", fn := fun _ => fun
  | [d1, d2, d3] => { results := [.lit (.bool true)], args := [d1, d2, d3] }
  | _ => none }
def verifyClocksRow : OpenClaim := { program := "ytdhchehagfmjcaagreatdoor", sum := "03b6ab06462927ee3fae125a3db4cad599f02fd914c0be6f5de7a0ee92058684", func := "nuncio/nunciolaw15.VerifyClocks", spec := "verifyClocks", inPlace := ["math.Float64bits", "math.Float64frombits"], unfollowed := true, recurses := true, named := ["bytes.ErrTooLarge", "nuncio/blake.roots", "math/bits.divideError", "math/bits.overflowError"], apart := false, laid := [("nuncio/blake.roots", laid_nuncio_blake_roots), ("bytes.ErrTooLarge", laid_bytes_ErrTooLarge)] }
def VerifyClocksSaid : Prop := verifyClocksRow.holds Tryz.pinned (OpenSpec.ofChange verifyClocksSpec)

/-- ITS FALSE NEIGHBOUR: 'it returns false'. Refute it at one input. -/
def verifyClocksWrong : ChangeSpec := { name := "verifyClocks", fn := fun _ => fun
  | [d1, d2, d3] => { results := [.lit (.bool false)], args := [d1, d2, d3] }
  | _ => none }
def VerifyClocksWrongFalsely : Prop := verifyClocksRow.holds Tryz.pinned (OpenSpec.ofChange verifyClocksWrong)

/-- 'nunciolaw15.VerifyBent': WHATEVER THE INPUT: true; the input reads as it did. -/
def verifyBentSpec : ChangeSpec := { name := "verifyBent", fn := fun _ => fun
  | [d1, d2, d3] => { results := [.lit (.bool true)], args := [d1, d2, d3] }
  | _ => none }
def verifyBentRow : OpenClaim := { program := "ytdhchehagfmjcaagreatdoor", sum := "03b6ab06462927ee3fae125a3db4cad599f02fd914c0be6f5de7a0ee92058684", func := "nuncio/nunciolaw15.VerifyBent", spec := "verifyBent", inPlace := ["math.Float64bits", "math.Float64frombits"], unfollowed := true, recurses := true, named := ["bytes.ErrTooLarge", "nuncio/blake.roots", "math/bits.divideError", "math/bits.overflowError"], apart := false, laid := [("nuncio/blake.roots", laid_nuncio_blake_roots), ("bytes.ErrTooLarge", laid_bytes_ErrTooLarge)] }
def VerifyBentSaid : Prop := verifyBentRow.holds Tryz.pinned (OpenSpec.ofChange verifyBentSpec)

/-- ITS FALSE NEIGHBOUR: 'it returns false'. Refute it at one input. -/
def verifyBentWrong : ChangeSpec := { name := "verifyBent", fn := fun _ => fun
  | [d1, d2, d3] => { results := [.lit (.bool false)], args := [d1, d2, d3] }
  | _ => none }
def VerifyBentWrongFalsely : Prop := verifyBentRow.holds Tryz.pinned (OpenSpec.ofChange verifyBentWrong)

/-- 'nunciolaw15.VerifyNext': WHATEVER THE INPUT: true; the input reads as it did. -/
def verifyNextSpec : ChangeSpec := { name := "verifyNext", fn := fun _ => fun
  | [d1, d2, d3] => { results := [.lit (.bool true)], args := [d1, d2, d3] }
  | _ => none }
def verifyNextRow : OpenClaim := { program := "ytdhchehagfmjcaagreatdoor", sum := "03b6ab06462927ee3fae125a3db4cad599f02fd914c0be6f5de7a0ee92058684", func := "nuncio/nunciolaw15.VerifyNext", spec := "verifyNext", inPlace := ["math.Float64bits", "math.Float64frombits"], unfollowed := true, recurses := true, named := ["bytes.ErrTooLarge", "nuncio/blake.roots", "math/bits.divideError", "math/bits.overflowError"], apart := false, laid := [("nuncio/blake.roots", laid_nuncio_blake_roots), ("bytes.ErrTooLarge", laid_bytes_ErrTooLarge)] }
def VerifyNextSaid : Prop := verifyNextRow.holds Tryz.pinned (OpenSpec.ofChange verifyNextSpec)

/-- ITS FALSE NEIGHBOUR: 'it returns false'. Refute it at one input. -/
def verifyNextWrong : ChangeSpec := { name := "verifyNext", fn := fun _ => fun
  | [d1, d2, d3] => { results := [.lit (.bool false)], args := [d1, d2, d3] }
  | _ => none }
def VerifyNextWrongFalsely : Prop := verifyNextRow.holds Tryz.pinned (OpenSpec.ofChange verifyNextWrong)

/-- 'nunciolaw16.BisectChain': WHATEVER THE INPUT: true; the input reads as it did. -/
def bisectChainSpec : ChangeSpec := { name := "bisectChain", fn := fun _ => fun
  | [d1, d2] => { results := [.lit (.bool true)], args := [d1, d2] }
  | _ => none }
def bisectChainRow : OpenClaim := { program := "ytdhchehagfmjcaagreatdoor", sum := "03b6ab06462927ee3fae125a3db4cad599f02fd914c0be6f5de7a0ee92058684", func := "nuncio/nunciolaw16.BisectChain", spec := "bisectChain", inPlace := ["math.Float64bits", "math.Float64frombits"], unfollowed := true, recurses := true, named := ["bytes.ErrTooLarge", "nuncio/blake.roots", "math/bits.divideError", "math/bits.overflowError"], apart := false, laid := [("nuncio/blake.roots", laid_nuncio_blake_roots), ("bytes.ErrTooLarge", laid_bytes_ErrTooLarge)] }
def BisectChainSaid : Prop := bisectChainRow.holds Tryz.pinned (OpenSpec.ofChange bisectChainSpec)

/-- ITS FALSE NEIGHBOUR: 'it returns false'. Refute it at one input. -/
def bisectChainWrong : ChangeSpec := { name := "bisectChain", fn := fun _ => fun
  | [d1, d2] => { results := [.lit (.bool false)], args := [d1, d2] }
  | _ => none }
def BisectChainWrongFalsely : Prop := bisectChainRow.holds Tryz.pinned (OpenSpec.ofChange bisectChainWrong)

/-- 'nunciolaw16.BisectFetches': WHATEVER THE INPUT: true; the input reads as it did. -/
def bisectFetchesSpec : ChangeSpec := { name := "bisectFetches", fn := fun _ => fun
  | [d1, d2, d3] => { results := [.lit (.bool true)], args := [d1, d2, d3] }
  | _ => none }
def bisectFetchesRow : OpenClaim := { program := "ytdhchehagfmjcaagreatdoor", sum := "03b6ab06462927ee3fae125a3db4cad599f02fd914c0be6f5de7a0ee92058684", func := "nuncio/nunciolaw16.BisectFetches", spec := "bisectFetches", inPlace := ["math.Float64bits", "math.Float64frombits"], unfollowed := true, recurses := true, named := ["bytes.ErrTooLarge", "nuncio/blake.roots", "math/bits.divideError", "math/bits.overflowError"], apart := false, laid := [("nuncio/blake.roots", laid_nuncio_blake_roots), ("bytes.ErrTooLarge", laid_bytes_ErrTooLarge)] }
def BisectFetchesSaid : Prop := bisectFetchesRow.holds Tryz.pinned (OpenSpec.ofChange bisectFetchesSpec)

/-- ITS FALSE NEIGHBOUR: 'it returns false'. Refute it at one input. -/
def bisectFetchesWrong : ChangeSpec := { name := "bisectFetches", fn := fun _ => fun
  | [d1, d2, d3] => { results := [.lit (.bool false)], args := [d1, d2, d3] }
  | _ => none }
def BisectFetchesWrongFalsely : Prop := bisectFetchesRow.holds Tryz.pinned (OpenSpec.ofChange bisectFetchesWrong)

/-- 'nunciolaw16.BisectWants': WHATEVER THE INPUT: true; the input reads as it did. -/
def bisectWantsSpec : ChangeSpec := { name := "bisectWants", fn := fun _ => fun
  | [d1, d2, d3] => { results := [.lit (.bool true)], args := [d1, d2, d3] }
  | _ => none }
def bisectWantsRow : OpenClaim := { program := "ytdhchehagfmjcaagreatdoor", sum := "03b6ab06462927ee3fae125a3db4cad599f02fd914c0be6f5de7a0ee92058684", func := "nuncio/nunciolaw16.BisectWants", spec := "bisectWants", inPlace := ["math.Float64bits", "math.Float64frombits"], unfollowed := true, recurses := true, named := ["bytes.ErrTooLarge", "nuncio/blake.roots", "math/bits.divideError", "math/bits.overflowError"], apart := false, laid := [("nuncio/blake.roots", laid_nuncio_blake_roots), ("bytes.ErrTooLarge", laid_bytes_ErrTooLarge)] }
def BisectWantsSaid : Prop := bisectWantsRow.holds Tryz.pinned (OpenSpec.ofChange bisectWantsSpec)

/-- ITS FALSE NEIGHBOUR: 'it returns false'. Refute it at one input. -/
def bisectWantsWrong : ChangeSpec := { name := "bisectWants", fn := fun _ => fun
  | [d1, d2, d3] => { results := [.lit (.bool false)], args := [d1, d2, d3] }
  | _ => none }
def BisectWantsWrongFalsely : Prop := bisectWantsRow.holds Tryz.pinned (OpenSpec.ofChange bisectWantsWrong)

/-- 'nunciolaw16.BisectPlays': WHATEVER THE INPUT: true; the input reads as it did. -/
def bisectPlaysSpec : ChangeSpec := { name := "bisectPlays", fn := fun _ => fun
  | [d1, d2, d3] => { results := [.lit (.bool true)], args := [d1, d2, d3] }
  | _ => none }
def bisectPlaysRow : OpenClaim := { program := "ytdhchehagfmjcaagreatdoor", sum := "03b6ab06462927ee3fae125a3db4cad599f02fd914c0be6f5de7a0ee92058684", func := "nuncio/nunciolaw16.BisectPlays", spec := "bisectPlays", inPlace := ["math.Float64bits", "math.Float64frombits"], unfollowed := true, recurses := true, named := ["bytes.ErrTooLarge", "nuncio/blake.roots", "math/bits.divideError", "math/bits.overflowError"], apart := false, laid := [("nuncio/blake.roots", laid_nuncio_blake_roots), ("bytes.ErrTooLarge", laid_bytes_ErrTooLarge)] }
def BisectPlaysSaid : Prop := bisectPlaysRow.holds Tryz.pinned (OpenSpec.ofChange bisectPlaysSpec)

/-- ITS FALSE NEIGHBOUR: 'it returns false'. Refute it at one input. -/
def bisectPlaysWrong : ChangeSpec := { name := "bisectPlays", fn := fun _ => fun
  | [d1, d2, d3] => { results := [.lit (.bool false)], args := [d1, d2, d3] }
  | _ => none }
def BisectPlaysWrongFalsely : Prop := bisectPlaysRow.holds Tryz.pinned (OpenSpec.ofChange bisectPlaysWrong)

/-- 'nunciolaw16.BisectNil': WHATEVER THE INPUT: true; the input reads as it did. -/
def bisectNilSpec : ChangeSpec := { name := "bisectNil", fn := fun _ => fun
  | [d1, d2, d3] => { results := [.lit (.bool true)], args := [d1, d2, d3] }
  | _ => none }
def bisectNilRow : OpenClaim := { program := "ytdhchehagfmjcaagreatdoor", sum := "03b6ab06462927ee3fae125a3db4cad599f02fd914c0be6f5de7a0ee92058684", func := "nuncio/nunciolaw16.BisectNil", spec := "bisectNil", inPlace := ["math.Float64bits", "math.Float64frombits"], unfollowed := true, recurses := true, named := ["bytes.ErrTooLarge", "nuncio/blake.roots", "math/bits.divideError", "math/bits.overflowError"], apart := false, laid := [("nuncio/blake.roots", laid_nuncio_blake_roots), ("bytes.ErrTooLarge", laid_bytes_ErrTooLarge)] }
def BisectNilSaid : Prop := bisectNilRow.holds Tryz.pinned (OpenSpec.ofChange bisectNilSpec)

/-- ITS FALSE NEIGHBOUR: 'it returns false'. Refute it at one input. -/
def bisectNilWrong : ChangeSpec := { name := "bisectNil", fn := fun _ => fun
  | [d1, d2, d3] => { results := [.lit (.bool false)], args := [d1, d2, d3] }
  | _ => none }
def BisectNilWrongFalsely : Prop := bisectNilRow.holds Tryz.pinned (OpenSpec.ofChange bisectNilWrong)

/-- 'nunciolaw16.BisectPrune': WHATEVER THE INPUT: true; the input reads as it did. -/
def bisectPruneSpec : ChangeSpec := { name := "bisectPrune", fn := fun _ => fun
  | [d1, d2, d3] => { results := [.lit (.bool true)], args := [d1, d2, d3] }
  | _ => none }
def bisectPruneRow : OpenClaim := { program := "ytdhchehagfmjcaagreatdoor", sum := "03b6ab06462927ee3fae125a3db4cad599f02fd914c0be6f5de7a0ee92058684", func := "nuncio/nunciolaw16.BisectPrune", spec := "bisectPrune", inPlace := ["math.Float64bits", "math.Float64frombits"], unfollowed := true, recurses := true, named := ["bytes.ErrTooLarge", "nuncio/blake.roots", "math/bits.divideError", "math/bits.overflowError"], apart := false, laid := [("nuncio/blake.roots", laid_nuncio_blake_roots), ("bytes.ErrTooLarge", laid_bytes_ErrTooLarge)] }
def BisectPruneSaid : Prop := bisectPruneRow.holds Tryz.pinned (OpenSpec.ofChange bisectPruneSpec)

/-- ITS FALSE NEIGHBOUR: 'it returns false'. Refute it at one input. -/
def bisectPruneWrong : ChangeSpec := { name := "bisectPrune", fn := fun _ => fun
  | [d1, d2, d3] => { results := [.lit (.bool false)], args := [d1, d2, d3] }
  | _ => none }
def BisectPruneWrongFalsely : Prop := bisectPruneRow.holds Tryz.pinned (OpenSpec.ofChange bisectPruneWrong)

/- THE SECOND FORM. 'bulk': how many values and letters a reading holds, each counted each time it is reached (what is shared counts as often as it is met; a slice's spare places count too). A statement '..UptoSaid' is the law's where the arguments, and the package variables that the reading takes, are together of bulk at most 1048576: NARROWER than '..Said'. Prove '..Said' where nothing that the law and all that it calls make is longer than what came in: it says more and counts as full. Else prove '..UptoSaid'. A law counts once. -/
mutual
def uptoBulk {H : Type} : DataW H → Nat
  | .lit (.string bytes) => bytes.length + 1
  | .lit _ => 1
  | .nil => 1
  | .ptr d => uptoBulk d + 1
  | .slice elems spare => uptoBulkAll elems + uptoBulkAll spare + 1
  | .agg parts => uptoBulkAll parts + 1
  | .iface _ d => uptoBulk d + 1
  | .map entries => uptoBulkEntries entries + 1
  | .held _ => 1
def uptoBulkAll {H : Type} : List (DataW H) → Nat
  | [] => 0
  | d :: r => uptoBulk d + uptoBulkAll r
def uptoBulkEntries {H : Type} : List (Lit × DataW H) → Nat
  | [] => 0
  | x :: r => uptoBulkEntry x + uptoBulkEntries r
def uptoBulkEntry {H : Type} : Lit × DataW H → Nat
  | (.string bytes, d) => bytes.length + uptoBulk d + 1
  | (_, d) => uptoBulk d + 1
 end
def uptoSmall : (H : Type) → List (DataW H) → Bool := fun _ ds => decide (uptoBulkAll ds ≤ 1048576)
def OpenSpec.upto (s : _root_.Go.ChangeSpec) : _root_.Go.OpenSpec := { _root_.Go.OpenSpec.ofChange s with cond := some uptoSmall }

/-- 'nunciolaw15.VerifySteps', WHERE WHAT IT READS IS OF BULK AT MOST 1048576: true; the input reads as it did. -/
def verifyStepsUptoRow : OpenClaim := { program := "ytdhchehagfmjcaagreatdoor", sum := "03b6ab06462927ee3fae125a3db4cad599f02fd914c0be6f5de7a0ee92058684", func := "nuncio/nunciolaw15.VerifySteps", spec := "verifySteps", inPlace := ["math.Float64bits", "math.Float64frombits"], unfollowed := true, recurses := true, named := ["bytes.ErrTooLarge", "nuncio/blake.roots", "math/bits.divideError", "math/bits.overflowError"], apart := false, laid := [("nuncio/blake.roots", laid_nuncio_blake_roots), ("bytes.ErrTooLarge", laid_bytes_ErrTooLarge)], narrowed := true }
def VerifyStepsUptoSaid : Prop := verifyStepsUptoRow.holds Tryz.pinned (OpenSpec.upto verifyStepsSpec)

/-- 'nunciolaw15.VerifySound', WHERE WHAT IT READS IS OF BULK AT MOST 1048576: true; the input reads as it did. -/
def verifySoundUptoRow : OpenClaim := { program := "ytdhchehagfmjcaagreatdoor", sum := "03b6ab06462927ee3fae125a3db4cad599f02fd914c0be6f5de7a0ee92058684", func := "nuncio/nunciolaw15.VerifySound", spec := "verifySound", inPlace := ["math.Float64bits", "math.Float64frombits"], unfollowed := true, recurses := true, named := ["bytes.ErrTooLarge", "nuncio/blake.roots", "math/bits.divideError", "math/bits.overflowError"], apart := false, laid := [("nuncio/blake.roots", laid_nuncio_blake_roots), ("bytes.ErrTooLarge", laid_bytes_ErrTooLarge)], narrowed := true }
def VerifySoundUptoSaid : Prop := verifySoundUptoRow.holds Tryz.pinned (OpenSpec.upto verifySoundSpec)

/-- 'nunciolaw15.VerifyVouched', WHERE WHAT IT READS IS OF BULK AT MOST 1048576: true; the input reads as it did. -/
def verifyVouchedUptoRow : OpenClaim := { program := "ytdhchehagfmjcaagreatdoor", sum := "03b6ab06462927ee3fae125a3db4cad599f02fd914c0be6f5de7a0ee92058684", func := "nuncio/nunciolaw15.VerifyVouched", spec := "verifyVouched", inPlace := ["math.Float64bits", "math.Float64frombits"], unfollowed := true, recurses := true, named := ["bytes.ErrTooLarge", "nuncio/blake.roots", "math/bits.divideError", "math/bits.overflowError"], apart := false, laid := [("nuncio/blake.roots", laid_nuncio_blake_roots), ("bytes.ErrTooLarge", laid_bytes_ErrTooLarge)], narrowed := true }
def VerifyVouchedUptoSaid : Prop := verifyVouchedUptoRow.holds Tryz.pinned (OpenSpec.upto verifyVouchedSpec)

/-- 'nunciolaw15.VerifyClocks', WHERE WHAT IT READS IS OF BULK AT MOST 1048576: true; the input reads as it did. -/
def verifyClocksUptoRow : OpenClaim := { program := "ytdhchehagfmjcaagreatdoor", sum := "03b6ab06462927ee3fae125a3db4cad599f02fd914c0be6f5de7a0ee92058684", func := "nuncio/nunciolaw15.VerifyClocks", spec := "verifyClocks", inPlace := ["math.Float64bits", "math.Float64frombits"], unfollowed := true, recurses := true, named := ["bytes.ErrTooLarge", "nuncio/blake.roots", "math/bits.divideError", "math/bits.overflowError"], apart := false, laid := [("nuncio/blake.roots", laid_nuncio_blake_roots), ("bytes.ErrTooLarge", laid_bytes_ErrTooLarge)], narrowed := true }
def VerifyClocksUptoSaid : Prop := verifyClocksUptoRow.holds Tryz.pinned (OpenSpec.upto verifyClocksSpec)

/-- 'nunciolaw15.VerifyBent', WHERE WHAT IT READS IS OF BULK AT MOST 1048576: true; the input reads as it did. -/
def verifyBentUptoRow : OpenClaim := { program := "ytdhchehagfmjcaagreatdoor", sum := "03b6ab06462927ee3fae125a3db4cad599f02fd914c0be6f5de7a0ee92058684", func := "nuncio/nunciolaw15.VerifyBent", spec := "verifyBent", inPlace := ["math.Float64bits", "math.Float64frombits"], unfollowed := true, recurses := true, named := ["bytes.ErrTooLarge", "nuncio/blake.roots", "math/bits.divideError", "math/bits.overflowError"], apart := false, laid := [("nuncio/blake.roots", laid_nuncio_blake_roots), ("bytes.ErrTooLarge", laid_bytes_ErrTooLarge)], narrowed := true }
def VerifyBentUptoSaid : Prop := verifyBentUptoRow.holds Tryz.pinned (OpenSpec.upto verifyBentSpec)

/-- 'nunciolaw15.VerifyNext', WHERE WHAT IT READS IS OF BULK AT MOST 1048576: true; the input reads as it did. -/
def verifyNextUptoRow : OpenClaim := { program := "ytdhchehagfmjcaagreatdoor", sum := "03b6ab06462927ee3fae125a3db4cad599f02fd914c0be6f5de7a0ee92058684", func := "nuncio/nunciolaw15.VerifyNext", spec := "verifyNext", inPlace := ["math.Float64bits", "math.Float64frombits"], unfollowed := true, recurses := true, named := ["bytes.ErrTooLarge", "nuncio/blake.roots", "math/bits.divideError", "math/bits.overflowError"], apart := false, laid := [("nuncio/blake.roots", laid_nuncio_blake_roots), ("bytes.ErrTooLarge", laid_bytes_ErrTooLarge)], narrowed := true }
def VerifyNextUptoSaid : Prop := verifyNextUptoRow.holds Tryz.pinned (OpenSpec.upto verifyNextSpec)

/-- 'nunciolaw16.BisectChain', WHERE WHAT IT READS IS OF BULK AT MOST 1048576: true; the input reads as it did. -/
def bisectChainUptoRow : OpenClaim := { program := "ytdhchehagfmjcaagreatdoor", sum := "03b6ab06462927ee3fae125a3db4cad599f02fd914c0be6f5de7a0ee92058684", func := "nuncio/nunciolaw16.BisectChain", spec := "bisectChain", inPlace := ["math.Float64bits", "math.Float64frombits"], unfollowed := true, recurses := true, named := ["bytes.ErrTooLarge", "nuncio/blake.roots", "math/bits.divideError", "math/bits.overflowError"], apart := false, laid := [("nuncio/blake.roots", laid_nuncio_blake_roots), ("bytes.ErrTooLarge", laid_bytes_ErrTooLarge)], narrowed := true }
def BisectChainUptoSaid : Prop := bisectChainUptoRow.holds Tryz.pinned (OpenSpec.upto bisectChainSpec)

/-- 'nunciolaw16.BisectFetches', WHERE WHAT IT READS IS OF BULK AT MOST 1048576: true; the input reads as it did. -/
def bisectFetchesUptoRow : OpenClaim := { program := "ytdhchehagfmjcaagreatdoor", sum := "03b6ab06462927ee3fae125a3db4cad599f02fd914c0be6f5de7a0ee92058684", func := "nuncio/nunciolaw16.BisectFetches", spec := "bisectFetches", inPlace := ["math.Float64bits", "math.Float64frombits"], unfollowed := true, recurses := true, named := ["bytes.ErrTooLarge", "nuncio/blake.roots", "math/bits.divideError", "math/bits.overflowError"], apart := false, laid := [("nuncio/blake.roots", laid_nuncio_blake_roots), ("bytes.ErrTooLarge", laid_bytes_ErrTooLarge)], narrowed := true }
def BisectFetchesUptoSaid : Prop := bisectFetchesUptoRow.holds Tryz.pinned (OpenSpec.upto bisectFetchesSpec)

/-- 'nunciolaw16.BisectWants', WHERE WHAT IT READS IS OF BULK AT MOST 1048576: true; the input reads as it did. -/
def bisectWantsUptoRow : OpenClaim := { program := "ytdhchehagfmjcaagreatdoor", sum := "03b6ab06462927ee3fae125a3db4cad599f02fd914c0be6f5de7a0ee92058684", func := "nuncio/nunciolaw16.BisectWants", spec := "bisectWants", inPlace := ["math.Float64bits", "math.Float64frombits"], unfollowed := true, recurses := true, named := ["bytes.ErrTooLarge", "nuncio/blake.roots", "math/bits.divideError", "math/bits.overflowError"], apart := false, laid := [("nuncio/blake.roots", laid_nuncio_blake_roots), ("bytes.ErrTooLarge", laid_bytes_ErrTooLarge)], narrowed := true }
def BisectWantsUptoSaid : Prop := bisectWantsUptoRow.holds Tryz.pinned (OpenSpec.upto bisectWantsSpec)

/-- 'nunciolaw16.BisectPlays', WHERE WHAT IT READS IS OF BULK AT MOST 1048576: true; the input reads as it did. -/
def bisectPlaysUptoRow : OpenClaim := { program := "ytdhchehagfmjcaagreatdoor", sum := "03b6ab06462927ee3fae125a3db4cad599f02fd914c0be6f5de7a0ee92058684", func := "nuncio/nunciolaw16.BisectPlays", spec := "bisectPlays", inPlace := ["math.Float64bits", "math.Float64frombits"], unfollowed := true, recurses := true, named := ["bytes.ErrTooLarge", "nuncio/blake.roots", "math/bits.divideError", "math/bits.overflowError"], apart := false, laid := [("nuncio/blake.roots", laid_nuncio_blake_roots), ("bytes.ErrTooLarge", laid_bytes_ErrTooLarge)], narrowed := true }
def BisectPlaysUptoSaid : Prop := bisectPlaysUptoRow.holds Tryz.pinned (OpenSpec.upto bisectPlaysSpec)

/-- 'nunciolaw16.BisectNil', WHERE WHAT IT READS IS OF BULK AT MOST 1048576: true; the input reads as it did. -/
def bisectNilUptoRow : OpenClaim := { program := "ytdhchehagfmjcaagreatdoor", sum := "03b6ab06462927ee3fae125a3db4cad599f02fd914c0be6f5de7a0ee92058684", func := "nuncio/nunciolaw16.BisectNil", spec := "bisectNil", inPlace := ["math.Float64bits", "math.Float64frombits"], unfollowed := true, recurses := true, named := ["bytes.ErrTooLarge", "nuncio/blake.roots", "math/bits.divideError", "math/bits.overflowError"], apart := false, laid := [("nuncio/blake.roots", laid_nuncio_blake_roots), ("bytes.ErrTooLarge", laid_bytes_ErrTooLarge)], narrowed := true }
def BisectNilUptoSaid : Prop := bisectNilUptoRow.holds Tryz.pinned (OpenSpec.upto bisectNilSpec)

/-- 'nunciolaw16.BisectPrune', WHERE WHAT IT READS IS OF BULK AT MOST 1048576: true; the input reads as it did. -/
def bisectPruneUptoRow : OpenClaim := { program := "ytdhchehagfmjcaagreatdoor", sum := "03b6ab06462927ee3fae125a3db4cad599f02fd914c0be6f5de7a0ee92058684", func := "nuncio/nunciolaw16.BisectPrune", spec := "bisectPrune", inPlace := ["math.Float64bits", "math.Float64frombits"], unfollowed := true, recurses := true, named := ["bytes.ErrTooLarge", "nuncio/blake.roots", "math/bits.divideError", "math/bits.overflowError"], apart := false, laid := [("nuncio/blake.roots", laid_nuncio_blake_roots), ("bytes.ErrTooLarge", laid_bytes_ErrTooLarge)], narrowed := true }
def BisectPruneUptoSaid : Prop := bisectPruneUptoRow.holds Tryz.pinned (OpenSpec.upto bisectPruneSpec)

end Rows
end Go.Proofs.YtdhchehagfmjcaaGreatDoor
