/- Walks: nuncioref06.Vote. Walks: nuncioref06.Header. Walks: nuncioref06.ends; arms for the document's readers. -/
import Derived.Test.YtlahdaanfhedoaaDoorRefB
import Derived.Test.YtlahdaanfhedoaaDoorDecHeader
import Derived.Test.YtlahdaanfhedoaaDoorPlain6
import Derived.Deep.Cut
import Derived.Deep.CutRange
import Derived.Deep.RegionHeld3
import Derived.Test.YtlahdaanfhedoaaDoorBuild
namespace Go.Proofs.YtlahdaanfhedoaaDoor
open Go.RowKit
set_option maxRecDepth 100000

/-- what the document's bytes of a thing are, and whether it is right -/
def BytesOk (l : List UInt8) (ok : Bool) (w : World) (e : Ending) (w' : World) : Prop := ∃ a n c, e = .returned (.tuple #[.slice a n c, .bool ok]) ∧ OwnB w.heap.size (.slice a n c) l w' ∧ Below w.heap.size w w'
/-- what the document's bytes of a packet or a proof are, where it is right; else whether it is -/
def BytesIf (l : List UInt8) (ok : Bool) (w : World) (e : Ending) (w' : World) : Prop := ∃ a n c, e = .returned (.tuple #[.slice a n c, .bool ok]) ∧ (ok = true → OwnB w.heap.size (.slice a n c) l w') ∧ Below w.heap.size w w'
theorem cell_keep {w w1 : World} {b o : Nat} {v : Value} (h : w.cell? ⟨b, o, none⟩ = some v) (hb : Below w.heap.size w w1) : w1.cell? ⟨b, o, none⟩ = some v := (hb.cell (World.block_lt_of_cell? w _ h)).trans h
theorem val_bool {a b : Bool} (h : a = b) : Value.bool a = .bool b := by rw [h]
theorem wpList_box_agg {P : Program} {ops : Array Oper} {rest : List Oper} {o : Oper} {a : Act} {w : World} {Q : Exit → Act → World → Prop} (hgd : Region.wanted o (yielded ops a.tmps) = true) (ty : TypeId) (x : Operand) (ho : o.op = .box ty x) (vs : List Value)
    (hx : a.eval x = .agg vs.toArray)
    (h : ∀ w2, Blk w2 w.heap.size vs ty → w.grownBy w2 none → w2.heap.size = w.heap.size + 1 → wpList P ops Q rest (a.put o.dst (.pointer (some ⟨w.heap.size, 0, none⟩))) w2) : wpList P ops Q (o :: rest) a w :=
  wpList_box_as hgd ty x ho vs hx h

theorem one_int : (Tryd.prog.info? 3).map (·.size) = some 1 := by kernel_rfl
theorem one_u64 : (Tryd.prog.info? 77).map (·.size) = some 1 := by kernel_rfl
/-- the state behind the kind -/
def kst (k : Int) (st : RS) : RS := if (rdNum st).1 = k then (rdNum st).2 else none
def endsN (st : RS) (ok : Bool) : Int := if decide (st = some []) && ok then 0 else 61
theorem Below.grownBy_ {w w' : World} (h : Below w.heap.size w w') : w.grownBy w' none := below_grown h
theorem IsR.same {w : World} {p : Nat} {l : List UInt8} (h : IsR w p (some l)) : IsR (w.setCell ⟨p, 1, none⟩ (.bool false)) p (some l) := by
  obtain ⟨f0, f1, h3, ao, c, h4, h5, h6, h7⟩ := h
  refine ⟨by simpa using f0, by simpa using f1, World.cell?_setCell_same' _ _ _ (by rw [h3]; rfl), ao, c, (World.cell?_setCell_other _ _ _ _ (by simp)).trans h4, h5, h6, ?_⟩
  rcases h7 with h7 | ⟨g, o, e, hp, hr⟩
  · exact Or.inl h7
  · exact Or.inr ⟨g, o, e, hp, hr.other (by omega) _⟩
theorem kst_ne {k n : Int} {st : RS} (hn : (rdNum st).1 = n) (h : n ≠ k) : kst k st = none := by unfold kst; rw [if_neg (by rw [hn]; exact h)]
theorem kst_eq {k : Int} {st : RS} (h : (rdNum st).1 = k) : kst k st = (rdNum st).2 := if_pos h
theorem below_of_grown {w w' : World} (h : w.grownBy w' none) : Below w.heap.size w w' := ⟨h.os, h.tape, h.output, h.size, fun k hk => h.block k hk (by simp)⟩
theorem below_of_grown_new {w W w' : World} {p : Nat} (h : w.grownBy W none) (k : W.grownBy w' (some p)) (hp : w.heap.size ≤ p) : Below w.heap.size w w' := below_of_grown (grown_new h k hp)

theorem newReader {w : World} {p : Nat} {ao : Option Addr} {l : List UInt8} {c : Nat} {T : TypeId} (h : Blk w p [.slice ao l.length c, .bool false] T) (h1 : l.length ≤ c) (h2 : c ≤ maxLen)
    (h3 : (ao = none ∧ l = [] ∧ c = 0) ∨ ∃ g o, ao = some ⟨g, o, none⟩ ∧ g < p ∧ RowAt w g o (Lib.byteCells l)) : IsR w p (some l) := by
  have c0 := h.row 0 _ rfl; have c1 := h.row 1 _ rfl
  exact ⟨h.frozen 0, h.frozen 1, c1, ao, c, c0, h1, h2, h3⟩

end Go.Proofs.YtlahdaanfhedoaaDoor
