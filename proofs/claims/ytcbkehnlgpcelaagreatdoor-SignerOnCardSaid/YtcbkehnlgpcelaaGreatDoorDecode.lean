/- What decode's contracts have in common. -/
import Derived.Test.YtcbkehnlgpcelaaGreatDoorRead
namespace Go.Proofs.YtcbkehnlgpcelaaGreatDoor
open Go.RowKit
set_option maxRecDepth 100000

theorem RdB.grown {w w' : World} {v : Value} {l : List UInt8} (h : RdB w v l) (hg : w.grownBy w' none) : RdB w' v l := by
  obtain ⟨ao, c, e, h1, h2, h3⟩ := h
  refine ⟨ao, c, e, h1, h2, ?_⟩
  rcases h3 with h3 | ⟨g, o, e, h4, h5⟩
  · exact Or.inl h3
  · exact Or.inr ⟨g, o, e, Nat.lt_of_lt_of_le h4 hg.size, h5.grown hg (by simp)⟩
theorem IsR.grownAt {w w' : World} {p m : Nat} {st : RS} (h : IsR w p st) (hg : w.grownBy w' (some m)) (hm : p < m) : IsR w' p st := by
  have hlt := h.lt
  have hne : some p ≠ some m := by simp; omega
  obtain ⟨h1, h2, h⟩ := h
  refine ⟨(frozen_grown hg hlt hne).trans h1, (frozen_grown hg hlt hne).trans h2, ?_⟩
  cases st with
  | none => obtain ⟨⟨ao, n, c, h3⟩, h4⟩ := h; exact ⟨⟨ao, n, c, hg.cell h3 hne⟩, hg.cell h4 hne⟩
  | some l =>
    obtain ⟨h3, ao, c, h4, h5, h6, h7⟩ := h
    refine ⟨hg.cell h3 hne, ao, c, hg.cell h4 hne, h5, h6, ?_⟩
    rcases h7 with h7 | ⟨g, o, e, hp, hr⟩
    · exact Or.inl h7
    · exact Or.inr ⟨g, o, e, hp, hr.grown hg (by simp; omega)⟩
/-- what is done to a new block is no change of what was -/
theorem grown_new {w w1 w2 : World} {m : Nat} {row : Option Nat} (h : w.grownBy w1 row) (k : w1.grownBy w2 (some m)) (hm : w.heap.size ≤ m) : w.grownBy w2 row :=
  ⟨k.os.trans h.os, k.tape.trans h.tape, k.output.trans h.output, Nat.le_trans h.size k.size, fun i hi hr => (k.block i (Nat.lt_of_lt_of_le hi h.size) (by simp; omega)).trans (h.block i hi hr)⟩
theorem One.of_blk {w : World} {m : Nat} {x : Value} {T : TypeId} (h : Blk w m [x] T) : One w m x := ⟨h.row 0 _ rfl, h.frozen 0⟩
theorem oneCell_bytes (l : List UInt8) : ∀ v ∈ Lib.byteCells l, v.oneCell' = true := Lib.byteCells_one l

/-- what a decoding answers: the thing (its cells), or zero and the error -/
def DecPost (Good : List Value → World → Prop) (b : Bool) (Z : List Value) (w : World) (e : Ending) (w' : World) : Prop :=
  Below w.heap.size w w' ∧ (if b then ∃ cs, e = .returned (.tuple #[.agg cs.toArray, .int .i64 0]) ∧ Good cs w' else e = .returned (.tuple #[.agg Z.toArray, .int .i64 61]))
theorem DecPost.t {Good : List Value → World → Prop} {Z : List Value} {w w' : World} {e : Ending} (h : DecPost Good true Z w e w') : Below w.heap.size w w' ∧ ∃ cs, e = .returned (.tuple #[.agg cs.toArray, .int .i64 0]) ∧ Good cs w' := ⟨h.1, h.2⟩
theorem DecPost.f {Good : List Value → World → Prop} {Z : List Value} {w w' : World} {e : Ending} (h : DecPost Good false Z w e w') : Below w.heap.size w w' ∧ e = .returned (.tuple #[.agg Z.toArray, .int .i64 61]) := ⟨h.1, h.2⟩
/-- what a decoding of plain cells answers -/
def Decodes (r : Option (List Value)) (Z : List Value) (w : World) (e : Ending) (w' : World) : Prop :=
  Below w.heap.size w w' ∧ e = match r with | some cs => .returned (.tuple #[.agg cs.toArray, .int .i64 0]) | none => .returned (.tuple #[.agg Z.toArray, .int .i64 61])
theorem Decodes.yes {r : Option (List Value)} {cs Z : List Value} {w w' : World} {e : Ending} (hr : r = some cs) (hb : Below w.heap.size w w') (he : e = .returned (.tuple #[.agg cs.toArray, .int .i64 0])) : Decodes r Z w e w' := by subst hr; exact ⟨hb, he⟩
theorem Decodes.no {r : Option (List Value)} {Z : List Value} {w w' : World} {e : Ending} (hr : r = none) (hb : Below w.heap.size w w') (he : e = .returned (.tuple #[.agg Z.toArray, .int .i64 61])) : Decodes r Z w e w' := by subst hr; exact ⟨hb, he⟩
theorem Decodes.y {r : Option (List Value)} {cs Z : List Value} {w w' : World} {e : Ending} (h : Decodes r Z w e w') (hr : r = some cs) : Below w.heap.size w w' ∧ e = .returned (.tuple #[.agg cs.toArray, .int .i64 0]) := by subst hr; exact h
theorem Decodes.n {r : Option (List Value)} {Z : List Value} {w w' : World} {e : Ending} (h : Decodes r Z w e w') (hr : r = none) : Below w.heap.size w w' ∧ e = .returned (.tuple #[.agg Z.toArray, .int .i64 61]) := by subst hr; exact h
/-- a decoding out of its parts -/
theorem Decodes.of_gen {Good : List Value → World → Prop} {b : Bool} {r : Option (List Value)} {cs0 Z : List Value} {w w' : World} {e : Ending} (h : DecPost Good b Z w e w') (hg : ∀ cs w, Good cs w → cs = cs0)
    (ht : b = true → r = some cs0) (hf : b = false → r = none) : Decodes r Z w e w' := by
  cases b with
  | true => obtain ⟨h1, cs, h2, h3⟩ := h.t; have := hg _ _ h3; subst this; exact Decodes.yes (ht rfl) h1 h2
  | false => exact Decodes.no (hf rfl) h.f.1 h.f.2
/-- the reading of a thing: what the closure that is handed to decode does -/
def Takes (F : FuncId) (n : Nat) (w : World) (l : List UInt8) (Good : List Value → World → Prop) (rest : RS) : Prop :=
  ∀ p w1, IsR w1 p (some l) → w.heap.size + 2 ≤ p → Calls Tryz.prog F #[.pointer (some ⟨p, 0, none⟩)] w1 fun e w2 =>
    ∃ cs, e = .returned (.agg cs.toArray) ∧ Good cs w2 ∧ cs.length = n ∧ (∀ v ∈ cs, v.oneCell' = true) ∧ IsR w2 p rest ∧ w1.grownBy w2 (some p)
/-- .. or throws -/
def TakesNot (F : FuncId) (w : World) (l : List UInt8) : Prop :=
  ∀ p w1, IsR w1 p (some l) → w.heap.size + 2 ≤ p → Calls Tryz.prog F #[.pointer (some ⟨p, 0, none⟩)] w1 fun e w2 => e = .panicked wrongP ∧ w1.grownBy w2 (some p)
/-- what is good stays so, whatever is done below block B -/
def Stays (B : Nat) (Good : List Value → World → Prop) : Prop :=
  ∀ cs w1 w2, Good cs w1 → (∀ k, B ≤ k → k < w1.heap.size → w2.heap[k]? = w1.heap[k]?) → w1.heap.size ≤ w2.heap.size → Good cs w2
theorem Stays.below {B : Nat} {Good : List Value → World → Prop} (h : Stays B Good) {cs : List Value} {w1 w2 : World} (hg : Good cs w1) (hb : Below w1.heap.size w1 w2) : Good cs w2 :=
  h cs w1 w2 hg (fun k _ hk => hb.block k hk) hb.size
theorem Stays.grown {B : Nat} {Good : List Value → World → Prop} (h : Stays B Good) {cs : List Value} {w1 w2 : World} (hg : Good cs w1) {m : Nat} (hb : w1.grownBy w2 (some m)) (hm : m < B) : Good cs w2 :=
  h cs w1 w2 hg (fun k hk hk2 => hb.block k hk2 (by simp; omega)) hb.size
theorem rdEnd_eq (st : RS) : (rdEnd st == 0) = decide (st = some []) := by
  cases st with
  | none => simp [rdEnd]
  | some l => cases l <;> simp [rdEnd]
theorem rdEnd_nz {st : RS} (h : st ≠ some []) : (rdEnd st == 0) = false := by rw [rdEnd_eq]; simp [h]

end Go.Proofs.YtcbkehnlgpcelaaGreatDoor
