import Derived.Test.YtdhchehagfmjcaaGreatDoorForms
import Derived.Test.YtdhchehagfmjcaaGreatDoorDecode
import Derived.Deep.Cut
import Derived.Deep.CutRange
namespace Go.Proofs.YtdhchehagfmjcaaGreatDoor
open Go.RowKit
set_option maxRecDepth 100000
end Go.Proofs.YtdhchehagfmjcaaGreatDoor
