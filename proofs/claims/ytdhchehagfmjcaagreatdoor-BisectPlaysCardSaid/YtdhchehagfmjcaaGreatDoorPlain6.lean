import Derived.Test.YtdhchehagfmjcaaGreatDoorDecPacket
import Derived.Test.YtdhchehagfmjcaaGreatDoorDecVote
import Derived.Test.YtdhchehagfmjcaaGreatDoorEq
import Derived.Test.YtdhchehagfmjcaaGreatDoorRead
namespace Go.Proofs.YtdhchehagfmjcaaGreatDoor
open Go.RowKit
set_option maxRecDepth 100000
theorem OwnB.rd {B : Nat} {v : Value} {l : List UInt8} {w : World} (h : OwnB B v l w) : RdB w v l := by
 obtain ⟨h1, ⟨rfl, h0⟩ | ⟨g, cap, cur, rfl, hg, hblk, hle, hcm, hcs, htk⟩⟩ := h
 ·have : l = [] := List.length_eq_zero_iff.1 h0
  subst this
  exact ⟨none, 0, rfl, by simp, by unfold maxLen; omega, Or.inl ⟨rfl, rfl, rfl⟩⟩
 ·refine ⟨_, cap, rfl, hle, hcm, Or.inr ⟨g, 0, rfl, Lib.lt_of_heap hblk, ?_⟩⟩
  intro j v hj
  rw [Nat.zero_add, Lib.cell_of_heap hblk, ← Array.getElem?_toList]
  have hlt : j < l.length := by have := (List.getElem?_eq_some_iff.1 hj).1; rwa [Lib.byteCells_length] at this
  rw [← htk, List.getElem?_take_of_lt (by omega)] at hj
  exact hj
def kHash : List Value := List.replicate 32 (.int .u8 0)
theorem hash_flat : flat Tryz.prog 20 23 = some kHash := by kernel_rfl
theorem hash_fits (l : List UInt8) (h : l.length = 32) : Fits kHash (Lib.byteCells l) = true := by
 have := Fits.bytes l; rw [h] at this; exact this
end Go.Proofs.YtdhchehagfmjcaaGreatDoor
