/- What decode's contracts have in common. -/
import Derived.Test.YtdhchehagfmjcaaGreatDoorRead
namespace Go.Proofs.YtdhchehagfmjcaaGreatDoor
open Go.RowKit
set_option maxRecDepth 100000

theorem RdB.grown {w w' : World} {v : Value} {l : List UInt8} (h : RdB w v l) (hg : w.grownBy w' none) : RdB w' v l := by
  obtain ⟨ao, c, e, h1, h2, h3⟩ := h
  refine ⟨ao, c, e, h1, h2, ?_⟩
  rcases h3 with h3 | ⟨g, o, e, h4, h5⟩
  · exact Or.inl h3
  · exact Or.inr ⟨g, o, e, Nat.lt_of_lt_of_le h4 hg.size, h5.grown hg (by simp)⟩
/-- what is done to a new block is no change of what was -/
theorem grown_new {w w1 w2 : World} {m : Nat} {row : Option Nat} (h : w.grownBy w1 row) (k : w1.grownBy w2 (some m)) (hm : w.heap.size ≤ m) : w.grownBy w2 row :=
  ⟨k.os.trans h.os, k.tape.trans h.tape, k.output.trans h.output, Nat.le_trans h.size k.size, fun i hi hr => (k.block i (Nat.lt_of_lt_of_le hi h.size) (by simp; omega)).trans (h.block i hi hr)⟩
theorem One.of_blk {w : World} {m : Nat} {x : Value} {T : TypeId} (h : Blk w m [x] T) : One w m x := ⟨h.row 0 _ rfl, h.frozen 0⟩
theorem oneCell_bytes (l : List UInt8) : ∀ v ∈ Lib.byteCells l, v.oneCell' = true := Lib.byteCells_one l

/-- what a decoding answers: the thing (its cells), or zero and the error -/
def DecPost (Good : List Value → World → Prop) (b : Bool) (Z : List Value) (w : World) (e : Ending) (w' : World) : Prop :=
  Below w.heap.size w w' ∧ (if b then ∃ cs, e = .returned (.tuple #[.agg cs.toArray, .int .i64 0]) ∧ Good cs w' else e = .returned (.tuple #[.agg Z.toArray, .int .i64 61]))
theorem DecPost.t {Good : List Value → World → Prop} {Z : List Value} {w w' : World} {e : Ending} (h : DecPost Good true Z w e w') : Below w.heap.size w w' ∧ ∃ cs, e = .returned (.tuple #[.agg cs.toArray, .int .i64 0]) ∧ Good cs w' := ⟨h.1, h.2⟩
theorem DecPost.f {Good : List Value → World → Prop} {Z : List Value} {w w' : World} {e : Ending} (h : DecPost Good false Z w e w') : Below w.heap.size w w' ∧ e = .returned (.tuple #[.agg Z.toArray, .int .i64 61]) := ⟨h.1, h.2⟩
/-- what a decoding of plain cells answers -/
def Decodes (r : Option (List Value)) (Z : List Value) (w : World) (e : Ending) (w' : World) : Prop :=
  Below w.heap.size w w' ∧ e = match r with | some cs => .returned (.tuple #[.agg cs.toArray, .int .i64 0]) | none => .returned (.tuple #[.agg Z.toArray, .int .i64 61])
theorem Decodes.yes {r : Option (List Value)} {cs Z : List Value} {w w' : World} {e : Ending} (hr : r = some cs) (hb : Below w.heap.size w w') (he : e = .returned (.tuple #[.agg cs.toArray, .int .i64 0])) : Decodes r Z w e w' := by subst hr; exact ⟨hb, he⟩
theorem Decodes.no {r : Option (List Value)} {Z : List Value} {w w' : World} {e : Ending} (hr : r = none) (hb : Below w.heap.size w w') (he : e = .returned (.tuple #[.agg Z.toArray, .int .i64 61])) : Decodes r Z w e w' := by subst hr; exact ⟨hb, he⟩
theorem Decodes.y {r : Option (List Value)} {cs Z : List Value} {w w' : World} {e : Ending} (h : Decodes r Z w e w') (hr : r = some cs) : Below w.heap.size w w' ∧ e = .returned (.tuple #[.agg cs.toArray, .int .i64 0]) := by subst hr; exact h
theorem Decodes.n {r : Option (List Value)} {Z : List Value} {w w' : World} {e : Ending} (h : Decodes r Z w e w') (hr : r = none) : Below w.heap.size w w' ∧ e = .returned (.tuple #[.agg Z.toArray, .int .i64 61]) := by subst hr; exact h
/-- what is good stays so, whatever is done below block B -/
def Stays (B : Nat) (Good : List Value → World → Prop) : Prop :=
  ∀ cs w1 w2, Good cs w1 → (∀ k, B ≤ k → k < w1.heap.size → w2.heap[k]? = w1.heap[k]?) → w1.heap.size ≤ w2.heap.size → Good cs w2
theorem Stays.below {B : Nat} {Good : List Value → World → Prop} (h : Stays B Good) {cs : List Value} {w1 w2 : World} (hg : Good cs w1) (hb : Below w1.heap.size w1 w2) : Good cs w2 :=
  h cs w1 w2 hg (fun k _ hk => hb.block k hk) hb.size
theorem Stays.grown {B : Nat} {Good : List Value → World → Prop} (h : Stays B Good) {cs : List Value} {w1 w2 : World} (hg : Good cs w1) {m : Nat} (hb : w1.grownBy w2 (some m)) (hm : m < B) : Good cs w2 :=
  h cs w1 w2 hg (fun k hk hk2 => hb.block k hk2 (by simp; omega)) hb.size
end Go.Proofs.YtdhchehagfmjcaaGreatDoor
