import Derived.Test.YtdhchehagfmjcaaGreatDoorDecPacket
import Derived.Test.YtdhchehagfmjcaaGreatDoorReadH
import Derived.Deep.OwnRows
import Derived.Deep.QuietTactic
import Derived.BigQuiet
namespace Go.Proofs.YtdhchehagfmjcaaGreatDoor
open Go.RowKit
set_option maxRecDepth 100000
end Go.Proofs.YtdhchehagfmjcaaGreatDoor
