/- Walks: wire.Reader. Walks: wire.read at uint64, int and string. Walks: wire.Reader's methods: Word, Number, Text, Count, End, NewReader. -/
import Derived.Test.YtdhchehagfmjcaaGreatDoorForms
import Derived.Lib.BufferOwn
import Derived.Recover
import Derived.Deep.Cut
import Derived.Deep.CutRange
import Derived.Laws.IdiomStrings
namespace Go.Proofs.YtdhchehagfmjcaaGreatDoor
open Go.RowKit
set_option maxRecDepth 100000

/-- a slice of bytes that reads as l -/
def RdB (w : World) (v : Value) (l : List UInt8) : Prop :=
  ∃ ao c, v = .slice ao l.length c ∧ l.length ≤ c ∧ c ≤ maxLen ∧ ((ao = none ∧ l = [] ∧ c = 0) ∨ ∃ g o, ao = some ⟨g, o, none⟩ ∧ g < w.heap.size ∧ RowAt w g o (Lib.byteCells l))

/-- block p is a Reader; none: it is broken; some l: these bytes are left -/
def IsR (w : World) (p : Nat) (st : Option (List UInt8)) : Prop :=
  w.frozen? ⟨p, 0, none⟩ = false ∧ w.frozen? ⟨p, 1, none⟩ = false ∧
  match st with
  | none => (∃ ao n c, w.cell? ⟨p, 0, none⟩ = some (.slice ao n c)) ∧ w.cell? ⟨p, 1, none⟩ = some (.bool true)
  | some l => w.cell? ⟨p, 1, none⟩ = some (.bool false) ∧ ∃ ao c, w.cell? ⟨p, 0, none⟩ = some (.slice ao l.length c) ∧ l.length ≤ c ∧ c ≤ maxLen ∧
      ((ao = none ∧ l = [] ∧ c = 0) ∨ ∃ g o, ao = some ⟨g, o, none⟩ ∧ g < p ∧ RowAt w g o (Lib.byteCells l))

theorem RowAt.grown {w w' : World} {b o : Nat} {vs : List Value} {row : Option Nat} (h : RowAt w b o vs) (hg : w.grownBy w' row) (hne : some b ≠ row) : RowAt w' b o vs :=
  fun j v hj => hg.cell (a := ⟨b, o + j, none⟩) (h j v hj) hne
theorem frozen_grown {w w' : World} {row : Option Nat} (hg : w.grownBy w' row) {a : Addr} (hb : a.block < w.heap.size) (hne : some a.block ≠ row) : w'.frozen? a = w.frozen? a :=
  World.frozen?_of_block (hg.block a.block hb hne)
theorem IsR.lt {w : World} {p : Nat} {st : Option (List UInt8)} (h : IsR w p st) : p < w.heap.size := by
  obtain ⟨_, _, h⟩ := h
  cases st with
  | none => exact World.block_lt_of_cell? w ⟨p, 1, none⟩ h.2
  | some l => exact World.block_lt_of_cell? w ⟨p, 1, none⟩ h.1
theorem IsR.grown {w w' : World} {p : Nat} {st : Option (List UInt8)} (h : IsR w p st) (hg : w.grownBy w' none) : IsR w' p st := by
  have hlt := h.lt
  obtain ⟨h1, h2, h⟩ := h
  refine ⟨(frozen_grown hg hlt (by simp)).trans h1, (frozen_grown hg hlt (by simp)).trans h2, ?_⟩
  cases st with
  | none => obtain ⟨⟨ao, n, c, h3⟩, h4⟩ := h; exact ⟨⟨ao, n, c, hg.cell h3 (by simp)⟩, hg.cell h4 (by simp)⟩
  | some l =>
    obtain ⟨h3, ao, c, h4, h5, h6, h7⟩ := h
    refine ⟨hg.cell h3 (by simp), ao, c, hg.cell h4 (by simp), h5, h6, ?_⟩
    rcases h7 with h7 | ⟨g, o, e, hp, hr⟩
    · exact Or.inl h7
    · exact Or.inr ⟨g, o, e, hp, hr.grown hg (by simp)⟩

theorem RowAt.take {w : World} {b o : Nat} {l : List UInt8} (h : RowAt w b o (Lib.byteCells l)) (n : Nat) : RowAt w b o (Lib.byteCells (l.take n)) := by
  intro j v hj
  unfold Lib.byteCells at hj
  rw [List.map_take] at hj
  have hlt : j < ((l.map fun b => Value.int .u8 b.toNat).take n).length := (List.getElem?_eq_some_iff.1 hj).1
  rw [List.length_take] at hlt
  rw [List.getElem?_take_of_lt (by omega)] at hj
  exact h j v hj
theorem RowAt.drop {w : World} {b o : Nat} {l : List UInt8} (h : RowAt w b o (Lib.byteCells l)) (n : Nat) : RowAt w b (o + n) (Lib.byteCells (l.drop n)) := by
  intro j v hj
  unfold Lib.byteCells at hj
  rw [List.map_drop, List.getElem?_drop] at hj
  rw [Nat.add_assoc]
  exact h (n + j) v hj
theorem RowAt.other {w : World} {b o p i : Nat} {vs : List Value} (h : RowAt w b o vs) (hne : b ≠ p) (x : Value) : RowAt (w.setCell ⟨p, i, none⟩ x) b o vs :=
  h.grown (Lib.grownBy_setCell w p i x) (by simp; exact hne)
theorem addr_add (g o n : Nat) : (⟨g, o, none⟩ : Addr).add n = ⟨g, o + n, none⟩ := by unfold Addr.add; split <;> simp_all

/-- bytes as a number, the highest first -/
def ofBe (l : List UInt8) : Nat := l.foldl (fun n c => n * 256 + c.toNat) 0
theorem ofBe_snoc (l : List UInt8) (c : UInt8) : ofBe (l ++ [c]) = ofBe l * 256 + c.toNat := by simp [ofBe]
theorem or_byte (a : Nat) (u : UInt8) (ha : a < 256 ^ 7) : bits .or .u64 (IntKind.u64.wrap ((a : Int) * 256)) (IntKind.u64.wrap (u.toNat : Int)) = ((a * 256 + u.toNat : Nat) : Int) := by
  have hu : u.toNat < 256 := u.toNat_lt
  have ha' : a < 72057594037927936 := by simpa using ha
  rw [IntKind.wrap_u64, IntKind.wrap_u64, Int.emod_eq_of_lt (by omega) (by omega), Int.emod_eq_of_lt (by omega) (by omega)]
  rw [bits_join .u64 64 (by decide) (fun n h0 h1 => by rw [IntKind.wrap_u64]; exact Int.emod_eq_of_lt h0 (by simpa using h1)) 8 _ _ (by omega) (by omega) (by omega) (by omega) (by omega) (by omega)]
  omega
theorem pow_step (a k : Nat) (u : UInt8) (ha : a < 256 ^ k) : a * 256 + u.toNat < 256 ^ (k + 1) := by
  have hu : u.toNat < 256 := u.toNat_lt
  rw [Nat.pow_succ]; omega

theorem below_grown {w w' : World} (h : Below w.heap.size w w') : w.grownBy w' none := ⟨h.os, h.tape, h.output, h.size, fun k hk _ => h.block k hk⟩
theorem grown_none {w w' : World} {row : Option Nat} (h : w.grownBy w' none) : w.grownBy w' row := ⟨h.os, h.tape, h.output, h.size, fun k hk _ => h.block k hk (by simp)⟩
theorem One.grown {w w' : World} {m : Nat} {x : Value} {row : Option Nat} (h : One w m x) (hg : w.grownBy w' row) (hne : some m ≠ row) : One w' m x :=
  ⟨hg.cell h.1 hne, (frozen_grown hg (World.block_lt_of_cell? w ⟨m, 0, none⟩ h.1) hne).trans h.2⟩
theorem One.set {w : World} {m : Nat} {x : Value} (h : One w m x) (y : Value) : One (w.setCell ⟨m, 0, none⟩ y) m y :=
  ⟨World.cell?_setCell_same' _ _ _ (by rw [h.1]; rfl), by simpa using h.2⟩
theorem One.other {w : World} {m p i : Nat} {x y : Value} (h : One w m x) (hne : m ≠ p) : One (w.setCell ⟨p, i, none⟩ y) m x :=
  ⟨(World.cell?_setCell_other _ _ _ _ (by simp <;> intro e <;> exact absurd e.symm hne)).trans h.1, by simpa using h.2⟩
theorem IsR.other {w : World} {p m i : Nat} {st : Option (List UInt8)} (h : IsR w p st) (hne : p < m) (y : Value) : IsR (w.setCell ⟨m, i, none⟩ y) p st := by
  have hc : ∀ j, (w.setCell ⟨m, i, none⟩ y).cell? ⟨p, j, none⟩ = w.cell? ⟨p, j, none⟩ := fun j => World.cell?_setCell_other _ _ _ _ (by simp <;> omega)
  obtain ⟨f0, f1, h⟩ := h
  refine ⟨by simpa using f0, by simpa using f1, ?_⟩
  cases st with
  | none => obtain ⟨⟨ao, n, c, h3⟩, h4⟩ := h; exact ⟨⟨ao, n, c, (hc 0).trans h3⟩, (hc 1).trans h4⟩
  | some l =>
    obtain ⟨h3, ao, c, h4, h5, h6, h7⟩ := h
    refine ⟨(hc 1).trans h3, ao, c, (hc 0).trans h4, h5, h6, ?_⟩
    rcases h7 with h7 | ⟨g, o, e, hp, hr⟩
    · exact Or.inl h7
    · exact Or.inr ⟨g, o, e, hp, hr.other (by omega) _⟩

/-- what is left to be read; none: broken -/
abbrev RS := Option (List UInt8)
theorem One.below_box (w : World) (x : Value) (T : TypeId) : ∃ W, w.alloc (.cells #[x] T) = W ∧ One W w.heap.size x ∧ W.heap.size = w.heap.size + 1 ∧ w.grownBy W none :=
  ⟨_, rfl, One.new w x T, by simp, World.grownBy_alloc w _ none⟩

/-- a box that a closure holds, and the Reader behind it -/
theorem RdB.conv {w : World} {v : Value} {l : List UInt8} (h : RdB w v l) : (convert 105 9 v).run Tryz.prog w = .ok (.string ⟨l.toArray⟩) w := by
  obtain ⟨ao, c, rfl, _, _, h7⟩ := h
  rcases h7 with ⟨rfl, rfl, rfl⟩ | ⟨g, o, rfl, _, hr⟩
  · exact Lib.run_convert_nil_bytes w _ _ 5 0 Tryz.underlying105 Tryz.underlying5 Tryz.underlying9
  · refine run_convert_bytes_back w _ _ 5 ⟨g, o, none⟩ c l Tryz.underlying105 Tryz.underlying5 Tryz.underlying9 (fun j hj => ?_)
    rw [addr_add]; exact hr j _ (byteCells_get l j hj)

/-- what End looks at -/
def IsRe (w : World) (p : Nat) (st : RS) : Prop := match st with
  | none => w.cell? ⟨p, 1, none⟩ = some (.bool true)
  | some l => w.cell? ⟨p, 1, none⟩ = some (.bool false) ∧ ∃ ao c, w.cell? ⟨p, 0, none⟩ = some (.slice ao l.length c) ∧ l.length ≤ c ∧ c ≤ maxLen
theorem IsR.e {w : World} {p : Nat} {st : RS} (h : IsR w p st) : IsRe w p st := by
  obtain ⟨_, _, h⟩ := h
  cases st with
  | none => exact h.2
  | some l => obtain ⟨h1, ao, c, h2, h3, h4, _⟩ := h; exact ⟨h1, ao, c, h2, h3, h4⟩
theorem IsRe.grown {w w' : World} {p : Nat} {st : RS} {row : Option Nat} (h : IsRe w p st) (hg : w.grownBy w' row) (hne : some p ≠ row) : IsRe w' p st := by
  cases st with
  | none => exact hg.cell (a := ⟨p, 1, none⟩) h hne
  | some l => obtain ⟨h1, ao, c, h2, h3, h4⟩ := h; exact ⟨hg.cell (a := ⟨p, 1, none⟩) h1 hne, ao, c, hg.cell (a := ⟨p, 0, none⟩) h2 hne, h3, h4⟩

end Go.Proofs.YtdhchehagfmjcaaGreatDoor
