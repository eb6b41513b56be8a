/- Walks: the hashes of headers and validators. -/
import Derived.Test.YtcbkehnlgpcelaaGreatDoorBkW
import Derived.Test.YtcbkehnlgpcelaaGreatDoorRefSet
import Derived.Test.YtcbkehnlgpcelaaGreatDoorEncode
namespace Go.Proofs.YtcbkehnlgpcelaaGreatDoor
open Go.RowKit
set_option maxRecDepth 100000

theorem bHash0 : Tryz.prog.built 26 [] = some ZH.toArray := by kernel_rfl
/-- a hash, or none -/
def hshL (tag : UInt8) (ok : Bool) (l : List UInt8) : List UInt8 := if ok then blake (tag :: l) else List.replicate 32 0
theorem hshL_len (tag : UInt8) (ok : Bool) (l : List UInt8) : (hshL tag ok l).length = 32 := by unfold hshL; cases ok <;> simp [blake_len]
/-- what a hashing answers -/
def Hashes (tag : UInt8) (ok : Bool) (l : List UInt8) (w : World) (e : Ending) (w' : World) : Prop :=
  e = .returned (.tuple #[.agg (Lib.byteCells (hshL tag ok l)).toArray, .int .i64 (if ok then 0 else 61)]) ∧ w.grownBy w' none

theorem set_le (ds : List ValD) (h : okSet ds = true) : (encSet ds).length ≤ 100000000000 := by
  have : ds.length ≤ 64 := by simpa [okSet] using h
  rw [encSet_length]; omega
end Go.Proofs.YtcbkehnlgpcelaaGreatDoor
