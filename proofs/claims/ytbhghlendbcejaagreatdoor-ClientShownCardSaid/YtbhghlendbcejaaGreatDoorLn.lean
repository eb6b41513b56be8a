/- bits.Len64, bits.LeadingZeros64: the kit's contract, laid. -/
import Derived.Test.YtbhghlendbcejaaGreatDoorBase
import Derived.Test.YtbhghlendbcejaaGreatDoorProg
import Derived.Shelf.Strconv.Itoa0
namespace Go.Proofs.YtbhghlendbcejaaGreatDoor
open Go.RowKit

def lenRen : Go.Shelf.Ren := ⟨fun | 129 => 180 | n => n, fun | 53 => 111 | 3 => 3 | 4 => 4 | 46 => 151 | 5 => 5 | 9 => 9 | n => n, fun | n => n⟩
theorem lenLays : Go.Proofs.Lays.n129 Tryz.prog lenRen := {
  mixed := by kernel_rfl
  f129 := Tryz.func180.trans (congrArg some (by kernel_rfl))
  t3 := Tryz.underlying3
  a3 := Tryz.isAgg3
  z3 := Tryz.sizeOf3
  v3 := Tryz.zeroValue3
  t4 := Tryz.underlying4
  a4 := Tryz.isAgg4
  z4 := Tryz.sizeOf4
  v4 := Tryz.zeroValue4
  t5 := Tryz.underlying5
  a5 := Tryz.isAgg5
  z5 := Tryz.sizeOf5
  v5 := Tryz.zeroValue5
  t9 := Tryz.underlying9
  a9 := Tryz.isAgg9
  z9 := Tryz.sizeOf9
  v9 := Tryz.zeroValue9
  t46 := Tryz.underlying151
  a46 := Tryz.isAgg151
  z46 := Tryz.sizeOf151
  v46 := Tryz.zeroValue151
  t53 := Tryz.underlying111
  a53 := Tryz.isAgg111
  z53 := Tryz.sizeOf111
  v53 := Tryz.zeroValue111 }
theorem Len64_ok (x : Int) (w : World) (h0 : 0 ≤ x) (h1 : x ≤ 18446744073709551615) :
    Calls Tryz.prog 180 #[.int .u64 x] w fun e w' => e = .returned (.int .i64 (Lib.bitLen x.toNat)) ∧ w' = w := Any.bits_Len64 lenLays x w h0 h1

end Go.Proofs.YtbhghlendbcejaaGreatDoor
