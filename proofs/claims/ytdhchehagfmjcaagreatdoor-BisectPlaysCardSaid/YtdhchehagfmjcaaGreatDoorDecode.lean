import Derived.Test.YtdhchehagfmjcaaGreatDoorRead
namespace Go.Proofs.YtdhchehagfmjcaaGreatDoor
open Go.RowKit
set_option maxRecDepth 100000
theorem RdB.grown {w w' : World} {v : Value} {l : List UInt8} (h : RdB w v l) (hg : w.grownBy w' none) : RdB w' v l := by
 obtain ⟨ao, c, e, h1, h2, h3⟩ := h
 refine ⟨ao, c, e, h1, h2, ?_⟩
 rcases h3 with h3 | ⟨g, o, e, h4, h5⟩
 ·exact Or.inl h3
 ·exact Or.inr ⟨g, o, e, Nat.lt_of_lt_of_le h4 hg.size, h5.grown hg (by simp)⟩
theorem grown_new {w w1 w2 : World} {m : Nat} {row : Option Nat} (h : w.grownBy w1 row) (k : w1.grownBy w2 (some m)) (hm : w.heap.size ≤ m) : w.grownBy w2 row :=
 ⟨k.os.trans h.os, k.tape.trans h.tape, k.output.trans h.output, Nat.le_trans h.size k.size, fun i hi hr => (k.block i (Nat.lt_of_lt_of_le hi h.size) (by simp; omega)).trans (h.block i hi hr)⟩
theorem oneCell_bytes (l : List UInt8) : ∀ v ∈ Lib.byteCells l, v.oneCell' = true := Lib.byteCells_one l
end Go.Proofs.YtdhchehagfmjcaaGreatDoor
