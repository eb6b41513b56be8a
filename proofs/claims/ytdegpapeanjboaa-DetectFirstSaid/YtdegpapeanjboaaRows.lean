/-
  No cell of these rows narrows 'for every input' (looked for: loops, veiled, ifaces, maps, wideKeys, modest, calm, conditions, laid).
  DERIVED. THE GIVEN ROWS OF THIS SEAT. 3 by the template 'for every input the law returns true; each argument reads behind the call as it read before'; 0 by the template 'total and deterministic' (their statements: YtdegpapeanjboaaTotals.lean).
  GIVEN WITH THE SEED: the statements are not yours to turn. If you find one false, say at which input.
  Laid BY PROGRAM, IN A SANDBOX (cutbox-rows.mjs): the forced cells as the released guide's own fill.sh prints them over the translation 787db8050db94475… (all of the seat's roots in one cut). By AI agents, Wed Nov 11 2026. No macro, syntax, notation, axiom, sorry.
-/
import Derived.Test.YtdegpapeanjboaaChecked
import GoSem.Claim
import GoSem.ClaimJoined
import GoSem.ClaimMapViews
import Derived.JoinedTies
import Derived.KernelRfl
namespace Go.Proofs.Ytdegpapeanjboaa
/- THE CELL 'sum', in the pinned program and in every row, IS THE sha256 OF THE DUMP (.gsa) THAT YtdegpapeanjboaaProg.lean LOADS. Nothing in Lean hashes anything: it is a label: what it is worth is what the hold of that sum in a sandbox is worth. -/
noncomputable def Try.pinned : Pinned := { name := "ytdegpapeanjboaa", sum := "787db8050db94475515fcf2f99ee554d879d299ac7af4feb3ca656457ab2f50e", checked := Try.checked }
namespace Rows
def none {H : Type} : Left H := { results := [], args := [] }

/-- 'nunciolaw17.DetectParts': WHATEVER THE INPUT: true; the input reads as it did. -/
def detectPartsSpec : ChangeSpec := { name := "detectParts", fn := fun _ => fun
  | [d1, d2] => { results := [.lit (.bool true)], args := [d1, d2] }
  | _ => none }
def detectPartsRow : OpenClaim := { program := "ytdegpapeanjboaa", sum := "787db8050db94475515fcf2f99ee554d879d299ac7af4feb3ca656457ab2f50e", func := "nuncio/nunciolaw17.DetectParts", spec := "detectParts", unfollowed := true, recurses := true, apart := false }
def DetectPartsSaid : Prop := detectPartsRow.holds Try.pinned (OpenSpec.ofChange detectPartsSpec)

/-- ITS FALSE NEIGHBOUR: 'it returns false'. Refute it at one input. -/
def detectPartsWrong : ChangeSpec := { name := "detectParts", fn := fun _ => fun
  | [d1, d2] => { results := [.lit (.bool false)], args := [d1, d2] }
  | _ => none }
def DetectPartsWrongFalsely : Prop := detectPartsRow.holds Try.pinned (OpenSpec.ofChange detectPartsWrong)

/-- 'nunciolaw17.DetectFirst': WHATEVER THE INPUT: true; the input reads as it did. -/
def detectFirstSpec : ChangeSpec := { name := "detectFirst", fn := fun _ => fun
  | [d1, d2] => { results := [.lit (.bool true)], args := [d1, d2] }
  | _ => none }
def detectFirstRow : OpenClaim := { program := "ytdegpapeanjboaa", sum := "787db8050db94475515fcf2f99ee554d879d299ac7af4feb3ca656457ab2f50e", func := "nuncio/nunciolaw17.DetectFirst", spec := "detectFirst", unfollowed := true, recurses := true, apart := false }
def DetectFirstSaid : Prop := detectFirstRow.holds Try.pinned (OpenSpec.ofChange detectFirstSpec)

/-- ITS FALSE NEIGHBOUR: 'it returns false'. Refute it at one input. -/
def detectFirstWrong : ChangeSpec := { name := "detectFirst", fn := fun _ => fun
  | [d1, d2] => { results := [.lit (.bool false)], args := [d1, d2] }
  | _ => none }
def DetectFirstWrongFalsely : Prop := detectFirstRow.holds Try.pinned (OpenSpec.ofChange detectFirstWrong)

/-- 'nunciolaw17.DetectTurned': WHATEVER THE INPUT: true; the input reads as it did. -/
def detectTurnedSpec : ChangeSpec := { name := "detectTurned", fn := fun _ => fun
  | [d] => { results := [.lit (.bool true)], args := [d] }
  | _ => none }
def detectTurnedRow : OpenClaim := { program := "ytdegpapeanjboaa", sum := "787db8050db94475515fcf2f99ee554d879d299ac7af4feb3ca656457ab2f50e", func := "nuncio/nunciolaw17.DetectTurned", spec := "detectTurned", unfollowed := true, recurses := true, apart := false }
def DetectTurnedSaid : Prop := detectTurnedRow.holds Try.pinned (OpenSpec.ofChange detectTurnedSpec)

/-- ITS FALSE NEIGHBOUR: 'it returns false'. Refute it at one input. -/
def detectTurnedWrong : ChangeSpec := { name := "detectTurned", fn := fun _ => fun
  | [d] => { results := [.lit (.bool false)], args := [d] }
  | _ => none }
def DetectTurnedWrongFalsely : Prop := detectTurnedRow.holds Try.pinned (OpenSpec.ofChange detectTurnedWrong)

/- THE SECOND FORM. 'bulk': how many values and letters a reading holds, each counted each time it is reached (what is shared counts as often as it is met; a slice's spare places count too). A statement '..UptoSaid' is the law's where the arguments, and the package variables that the reading takes, are together of bulk at most 1048576: NARROWER than '..Said'. Prove '..Said' where nothing that the law and all that it calls make is longer than what came in: it says more and counts as full. Else prove '..UptoSaid'. A law counts once. -/
mutual
def uptoBulk {H : Type} : DataW H → Nat
  | .lit (.string bytes) => bytes.length + 1
  | .lit _ => 1
  | .nil => 1
  | .ptr d => uptoBulk d + 1
  | .slice elems spare => uptoBulkAll elems + uptoBulkAll spare + 1
  | .agg parts => uptoBulkAll parts + 1
  | .iface _ d => uptoBulk d + 1
  | .map entries => uptoBulkEntries entries + 1
  | .held _ => 1
def uptoBulkAll {H : Type} : List (DataW H) → Nat
  | [] => 0
  | d :: r => uptoBulk d + uptoBulkAll r
def uptoBulkEntries {H : Type} : List (Lit × DataW H) → Nat
  | [] => 0
  | x :: r => uptoBulkEntry x + uptoBulkEntries r
def uptoBulkEntry {H : Type} : Lit × DataW H → Nat
  | (.string bytes, d) => bytes.length + uptoBulk d + 1
  | (_, d) => uptoBulk d + 1
 end
def uptoSmall : (H : Type) → List (DataW H) → Bool := fun _ ds => decide (uptoBulkAll ds ≤ 1048576)
def OpenSpec.upto (s : _root_.Go.ChangeSpec) : _root_.Go.OpenSpec := { _root_.Go.OpenSpec.ofChange s with cond := some uptoSmall }

/-- 'nunciolaw17.DetectParts', WHERE WHAT IT READS IS OF BULK AT MOST 1048576: true; the input reads as it did. -/
def detectPartsUptoRow : OpenClaim := { program := "ytdegpapeanjboaa", sum := "787db8050db94475515fcf2f99ee554d879d299ac7af4feb3ca656457ab2f50e", func := "nuncio/nunciolaw17.DetectParts", spec := "detectParts", unfollowed := true, recurses := true, apart := false, narrowed := true }
def DetectPartsUptoSaid : Prop := detectPartsUptoRow.holds Try.pinned (OpenSpec.upto detectPartsSpec)

/-- 'nunciolaw17.DetectFirst', WHERE WHAT IT READS IS OF BULK AT MOST 1048576: true; the input reads as it did. -/
def detectFirstUptoRow : OpenClaim := { program := "ytdegpapeanjboaa", sum := "787db8050db94475515fcf2f99ee554d879d299ac7af4feb3ca656457ab2f50e", func := "nuncio/nunciolaw17.DetectFirst", spec := "detectFirst", unfollowed := true, recurses := true, apart := false, narrowed := true }
def DetectFirstUptoSaid : Prop := detectFirstUptoRow.holds Try.pinned (OpenSpec.upto detectFirstSpec)

/-- 'nunciolaw17.DetectTurned', WHERE WHAT IT READS IS OF BULK AT MOST 1048576: true; the input reads as it did. -/
def detectTurnedUptoRow : OpenClaim := { program := "ytdegpapeanjboaa", sum := "787db8050db94475515fcf2f99ee554d879d299ac7af4feb3ca656457ab2f50e", func := "nuncio/nunciolaw17.DetectTurned", spec := "detectTurned", unfollowed := true, recurses := true, apart := false, narrowed := true }
def DetectTurnedUptoSaid : Prop := detectTurnedUptoRow.holds Try.pinned (OpenSpec.upto detectTurnedSpec)

end Rows
end Go.Proofs.Ytdegpapeanjboaa
