/- What comes in: votes, packets, headers, light blocks. -/
import Derived.Test.YtcbkehnlgpcelaaGreatDoorOpen
import Derived.Test.YtcbkehnlgpcelaaGreatDoorDecPacket
import Derived.Test.YtcbkehnlgpcelaaGreatDoorDecVote
namespace Go.Proofs.YtcbkehnlgpcelaaGreatDoor
open Go.RowKit Go.ChangeShapes Go.WideShapes
set_option maxRecDepth 100000

section
variable {H : Type} {enc : TypeId × Value → H} {W : World} {base b : Nat} {sp : Nat → Bool} {held : Bool}
end

end Go.Proofs.YtcbkehnlgpcelaaGreatDoor
