import Derived.Test.YtdhchehagfmjcaaGreatDoorForms
import Derived.Lib.BufferOwn
import Derived.Recover
import Derived.Deep.Cut
import Derived.Deep.CutRange
import Derived.Laws.IdiomStrings
namespace Go.Proofs.YtdhchehagfmjcaaGreatDoor
open Go.RowKit
set_option maxRecDepth 100000
def RdB (w : World) (v : Value) (l : List UInt8) : Prop :=
 ∃ ao c, v = .slice ao l.length c ∧ l.length ≤ c ∧ c ≤ maxLen ∧ ((ao = none ∧ l = [] ∧ c = 0) ∨ ∃ g o, ao = some ⟨g, o, none⟩ ∧ g < w.heap.size ∧ RowAt w g o (Lib.byteCells l))
theorem RowAt.grown {w w' : World} {b o : Nat} {vs : List Value} {row : Option Nat} (h : RowAt w b o vs) (hg : w.grownBy w' row) (hne : some b ≠ row) : RowAt w' b o vs :=
 fun j v hj => hg.cell (a := ⟨b, o + j, none⟩) (h j v hj) hne
theorem frozen_grown {w w' : World} {row : Option Nat} (hg : w.grownBy w' row) {a : Addr} (hb : a.block < w.heap.size) (hne : some a.block ≠ row) : w'.frozen? a = w.frozen? a :=
 World.frozen?_of_block (hg.block a.block hb hne)
theorem addr_add (g o n : Nat) : (⟨g, o, none⟩ : Addr).add n = ⟨g, o + n, none⟩ := by unfold Addr.add; split <;> simp_all
def ofBe (l : List UInt8) : Nat := l.foldl (fun n c => n * 256 + c.toNat) 0
theorem ofBe_snoc (l : List UInt8) (c : UInt8) : ofBe (l ++ [c]) = ofBe l * 256 + c.toNat := by simp [ofBe]
theorem or_byte (a : Nat) (u : UInt8) (ha : a < 256 ^ 7) : bits .or .u64 (IntKind.u64.wrap ((a : Int) * 256)) (IntKind.u64.wrap (u.toNat : Int)) = ((a * 256 + u.toNat : Nat) : Int) := by
 have hu : u.toNat < 256 := u.toNat_lt
 have ha' : a < 72057594037927936 := by simpa using ha
 rw [IntKind.wrap_u64, IntKind.wrap_u64, Int.emod_eq_of_lt (by omega) (by omega), Int.emod_eq_of_lt (by omega) (by omega)]
 rw [bits_join .u64 64 (by decide) (fun n h0 h1 => by rw [IntKind.wrap_u64]; exact Int.emod_eq_of_lt h0 (by simpa using h1)) 8 _ _ (by omega) (by omega) (by omega) (by omega) (by omega) (by omega)]
 omega
theorem pow_step (a k : Nat) (u : UInt8) (ha : a < 256 ^ k) : a * 256 + u.toNat < 256 ^ (k + 1) := by
 have hu : u.toNat < 256 := u.toNat_lt
 rw [Nat.pow_succ]; omega
theorem below_grown {w w' : World} (h : Below w.heap.size w w') : w.grownBy w' none := ⟨h.os, h.tape, h.output, h.size, fun k hk _ => h.block k hk⟩
theorem grown_none {w w' : World} {row : Option Nat} (h : w.grownBy w' none) : w.grownBy w' row := ⟨h.os, h.tape, h.output, h.size, fun k hk _ => h.block k hk (by simp)⟩
theorem One.grown {w w' : World} {m : Nat} {x : Value} {row : Option Nat} (h : One w m x) (hg : w.grownBy w' row) (hne : some m ≠ row) : One w' m x :=
 ⟨hg.cell h.1 hne, (frozen_grown hg (World.block_lt_of_cell? w ⟨m, 0, none⟩ h.1) hne).trans h.2⟩
end Go.Proofs.YtdhchehagfmjcaaGreatDoor
