/- Walks: numbers' figures, keys of entries. -/
import Derived.Test.YtlahdaanfhedoaaDoorCh8
namespace Go.Proofs.YtlahdaanfhedoaaDoor
open Go.RowKit Go.Maps
set_option maxRecDepth 100000

def d36S : ByteArray := ⟨#[48, 49, 50, 51, 52, 53, 54, 55, 56, 57, 97, 98, 99, 100, 101, 102, 103, 104, 105, 106, 107, 108, 109, 110, 111, 112, 113, 114, 115, 116, 117, 118, 119, 120, 121, 122]⟩
def smS : ByteArray := ⟨((List.range 100).flatMap fun k => [UInt8.ofNat (48 + k / 10), UInt8.ofNat (48 + k % 10)]).toArray⟩
/-- the figures of a number below 100 -/
def digS (n : Nat) : ByteArray := if n < 10 then d36S.extract n (n + 1) else smS.extract (n * 2) (n * 2 + 2)
set_option maxHeartbeats 2000000 in
theorem small_ok (n : Nat) (hn : n < 100) (w : World) : Calls Tryd.prog 91 #[.int .i64 (n : Int)] w fun e w' => e = .returned (.string (digS n)) ∧ w' = w := by
  by_cases h : n < 10
  · have h1 : ((n : Int) < 10) := by omega
    go_enter Tryd.func91, Tryd.ntmps91
    go_wp2
    go_ret
    refine ⟨?_, rfl⟩
    unfold digS
    rw [if_pos h]
    rfl
  · have h1 : ¬ ((n : Int) < 10) := by omega
    go_enter Tryd.func91, Tryd.ntmps91
    go_wp2
    go_ret
    refine ⟨?_, rfl⟩
    unfold digS
    rw [if_neg h]
    refine congrArg (fun z : ByteArray => Ending.returned (.string (z.extract (n * 2) (n * 2 + 2)))) (?_ : _ = smS)
    decide +kernel
set_option maxHeartbeats 2000000 in
theorem itoa_ok (n : Nat) (hn : n < 100) (w : World) : Calls Tryd.prog 41 #[.int .i64 (n : Int)] w fun e w' => e = .returned (.string (digS n)) ∧ w' = w := by
  have C := Lib.hid (small_ok n hn w)
  have h0 : (0 : Int) ≤ (n : Int) := by omega
  have h1 : (n : Int) < 100 := by omega
  have F : Calls Tryd.prog 81 #[.int .i64 (n : Int), .int .i64 10] w fun e w' => e = .returned (.string (digS n)) ∧ w' = w := by
    go_enter Tryd.func81, Tryd.ntmps81
    go_wp2_with fail
    refine C.out.mono ?_
    rintro e w' ⟨rfl, rfl⟩
    go_wp2_with fail
    go_ret
    exact ⟨rfl, rfl⟩
  have I : Calls Tryd.prog 59 #[.int .i64 (n : Int)] w fun e w' => e = .returned (.string (digS n)) ∧ w' = w := by
    have F2 := Lib.hid F
    clear F C h0 h1
    go_enter Tryd.func59, Tryd.ntmps59
    go_wp2_with fail
    refine F2.out.mono ?_
    rintro e w' ⟨rfl, rfl⟩
    go_wp2_with fail
    go_ret
    exact ⟨rfl, rfl⟩
  have I2 := Lib.hid I
  clear F C I h0 h1
  go_enter Tryd.func41, Tryd.ntmps41
  go_wp2_with fail
  refine I2.out.mono ?_
  rintro e w' ⟨rfl, rfl⟩
  go_wp2_with fail
  go_ret
  exact ⟨rfl, rfl⟩
def slashS : ByteArray := ⟨#[47]⟩
/-- an entry's key -/
def keyS (sort : ByteArray) (n : Nat) : ByteArray := sort ++ slashS ++ digS n
theorem dig_size (n : Nat) : (digS n).size ≤ 2 := by
  unfold digS
  split <;> rw [ByteArray.size_extract] <;> omega
theorem key_ok (s : ByteArray) (hs : s.size ≤ 1000) (n : Nat) (hn : n < 100) (w : World) : Calls Tryd.prog 23 #[.string s, .int .i64 (n : Int)] w fun e w' => e = .returned (.string (keyS s n)) ∧ w' = w := by
  have C := Lib.hid (itoa_ok n hn w)
  have hd := dig_size n
  have h1 : s.size + 1 ≤ 9223372036854775807 := by omega
  have h2 : (s ++ slashS).size + (digS n).size ≤ 9223372036854775807 := by rw [ByteArray.size_append]; have : slashS.size = 1 := rfl; omega
  go_enter Tryd.func23, Tryd.ntmps23
  go_wp2_with fail
  refine C.out.mono ?_
  rintro e w' ⟨rfl, rfl⟩
  go_wp2_with fail
  go_ret
  exact ⟨rfl, rfl⟩

end Go.Proofs.YtlahdaanfhedoaaDoor
