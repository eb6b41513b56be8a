/- Walks: methods of no client; nunciolaw16.BisectNil. -/
import Derived.Test.YtdhchehagfmjcaaGreatDoorBa
namespace Go.Proofs.YtdhchehagfmjcaaGreatDoor
open Go.RowKit
set_option maxRecDepth 100000

set_option maxHeartbeats 1000000 in
theorem bGoal_nil (n : Int) (w : World) : Calls Tryz.prog 37 #[.pointer none, .int .i64 n] w fun e w' => e = .returned (.int .i64 1) ∧ w.grownBy w' none := by
  go_enter Tryz.func37, Tryz.ntmps37
  go_wp2
  go_ret
  exact ⟨rfl, gb_refl _⟩

set_option maxHeartbeats 1000000 in
theorem bWant_nil (w : World) : Calls Tryz.prog 39 #[.pointer none] w fun e w' => e = .returned (.int .i64 0) ∧ w.grownBy w' none := by
  go_enter Tryz.func39, Tryz.ntmps39
  go_wp2
  go_ret
  exact ⟨rfl, gb_refl _⟩

set_option maxHeartbeats 1000000 in
theorem bStore_nil (w : World) : Calls Tryz.prog 36 #[.pointer none] w fun e w' => e = .returned (.slice none 0 0) ∧ w.grownBy w' none := by
  go_enter Tryz.func36, Tryz.ntmps36
  go_wp2
  go_ret
  exact ⟨rfl, gb_refl _⟩

set_option maxHeartbeats 1000000 in
theorem bTrace_nil (w : World) : Calls Tryz.prog 48 #[.pointer none] w fun e w' => e = .returned (.slice none 0 0) ∧ w.grownBy w' none := by
  go_enter Tryz.func48, Tryz.ntmps48
  go_wp2
  go_ret
  exact ⟨rfl, gb_refl _⟩

set_option maxHeartbeats 1000000 in
theorem bFetches_nil (w : World) : Calls Tryz.prog 42 #[.pointer none] w fun e w' => e = .returned (.int .i64 0) ∧ w.grownBy w' none := by
  go_enter Tryz.func42, Tryz.ntmps42
  go_wp2
  go_ret
  exact ⟨rfl, gb_refl _⟩

set_option maxHeartbeats 1000000 in
theorem bPrune_nil (n : Int) (w : World) : Calls Tryz.prog 46 #[.pointer none, .int .i64 n] w fun e w' => e = .returned (.int .i64 1) ∧ w.grownBy w' none := by
  go_enter Tryz.func46, Tryz.ntmps46
  go_wp2
  go_ret
  exact ⟨rfl, gb_refl _⟩

set_option maxHeartbeats 1000000 in
theorem bGive_nil (x : LtR) (now : Nat) (w : World) : Calls Tryz.prog 40 #[.pointer none, .agg x.cells.toArray, .float .f64 now] w fun e w' => e = .returned (.int .i64 1) ∧ w.grownBy w' none := by
  have O := OwF.start (fun _ => False) w
  go_enter Tryz.func40, Tryz.ntmps40
  go_wp2_with (first | ((with_reducible refine @wpList_at _ _ _ _ _ _ _ (.box 31 (.tmp 1)) rfl ?_); refine @wpList_of_box _ _ _ _ _ _ _ _ _ _ 31 (.tmp 1) rfl x.cells rfl O rfl ?_; clear O; intro bl w O))
  go_ret
  exact ⟨rfl, O.tch.grown (fun _ h => h.elim)⟩
set_option maxHeartbeats 8000000 in
theorem BisectNil_any (n : Int) (x : LtR) (now : Nat) (w0 : World) (hx : x.wf) (hR : RowAt w0 1 0 (wCells rootsL)) :
    Calls Tryz.prog 13 #[.int .i64 n, .agg x.cells.toArray, .float .f64 now] w0 fun e w' => e = .returned (.bool true) ∧ w0.grownBy w' none := by
  have O := Own.start w0
  have XW := Lib.hid hx
  have CA := Lib.hid (fun w (g : w0.grownBy w none) => alive16_ok w (hR.grown g (by simp)))
  have K1 := Lib.hid (fun w => bGoal_nil n w); have K2 := Lib.hid bWant_nil; have K3 := Lib.hid (fun w => bGive_nil x now w); have K4 := Lib.hid bStore_nil; have K5 := Lib.hid bTrace_nil; have K6 := Lib.hid bFetches_nil; have K7 := Lib.hid (fun w => bPrune_nil n w)
  clear hx hR
  go_enter Tryz.func13, Tryz.ntmps13
  go_wp2_with (first | ((with_reducible refine @wpList_at _ _ _ _ _ _ _ (.box 31 (.tmp 1)) rfl ?_); refine @wpList_own_box _ _ _ _ _ _ _ _ _ 31 (.tmp 1) rfl x.cells rfl O rfl ?_; clear O; intro bl w O))
  refine (CA.out _ O.grown).mono ?_
  rintro e w ⟨rfl, g⟩
  replace O := O.call g
  clear g
  go_wp2_with fail
  refine (K1.out _).mono ?_
  rintro e w ⟨rfl, g⟩
  replace O := O.call g
  clear g
  go_wp2_with fail
  refine (K2.out _).mono ?_
  rintro e w ⟨rfl, g⟩
  replace O := O.call g
  clear g
  go_wp2_with (first | ((with_reducible refine @wpList_at _ _ _ _ _ _ _ (.load 31 (.tmp 4)) rfl ?_); refine @wpList_own_whole _ _ _ _ _ _ _ _ _ 31 (.tmp 4) rfl O 0 bl rfl x.cells _ rfl _ Tryz.underlying31 rfl (sizeLt _ XW.out) rfl ?_))
  refine (K3.out _).mono ?_
  rintro e w ⟨rfl, g⟩
  replace O := O.call g
  clear g
  go_wp2_with fail
  refine (K4.out _).mono ?_
  rintro e w ⟨rfl, g⟩
  replace O := O.call g
  clear g
  go_wp2_with fail
  refine (K5.out _).mono ?_
  rintro e w ⟨rfl, g⟩
  replace O := O.call g
  clear g
  go_wp2_with fail
  refine (K6.out _).mono ?_
  rintro e w ⟨rfl, g⟩
  replace O := O.call g
  clear g
  go_wp2_with fail
  refine (K7.out _).mono ?_
  rintro e w ⟨rfl, g⟩
  replace O := O.call g
  clear g
  go_wp2_with fail
  go_ret
  exact ⟨rfl, O.grown⟩

end Go.Proofs.YtdhchehagfmjcaaGreatDoor
