/- Walks: wire.Writer. -/
import Derived.Test.YtdegpapeanjboaaW1
import Derived.Test.YtdegpapeanjboaaShelf
import Derived.Deep.RegionWith
import Derived.Lib.BufferWrite
import Derived.Deep.QuietTactic
import Derived.BigQuiet
namespace Go.Proofs.Ytdegpapeanjboaa
open Go.RowKit

/-- the rest of a Writer's block: its field 'bad' -/
def WR (bad : Bool) : Nat → Option Value := fun i => if i = 3 then some (.bool bad) else none
/-- below B nothing is touched; other blocks but the Writer's and rows of bytes neither -/
def WK (B b : Nat) (w w' : World) : Prop := Below B w w' ∧ Lib.OthersKept 5 (some b) w w'
theorem WK.refl (B b : Nat) (w : World) : WK B b w w := ⟨Below.refl _ _, Lib.OthersKept.refl _ _ _⟩
theorem WK.trans {B b : Nat} {u v w : World} (h : WK B b u v) (k : WK B b v w) : WK B b u w := ⟨h.1.trans k.1, h.2.trans k.2⟩
theorem WK.size {B b : Nat} {w w' : World} (h : WK B b w w') : w.heap.size ≤ w'.heap.size := h.1.size
/-- a number's bytes, the highest first -/
def be : Nat → Nat → List UInt8
  | 0, _ => []
  | k + 1, n => UInt8.ofNat (n / 256 ^ k) :: be k n
theorem be_length (k n : Nat) : (be k n).length = k := by induction k with | zero => rfl | succ k ih => simp [be, ih]

theorem byteCells_snoc (l : List UInt8) (c : UInt8) : Lib.byteCells l ++ [.int .u8 (c.toNat : Int)] = Lib.byteCells (l ++ [c]) := by simp [Lib.byteCells]

theorem byte_of (n m : Nat) : IntKind.u8.wrap ((n : Int) / 2 ^ (8 * (m : Int)).toNat) = ((UInt8.ofNat (n / 256 ^ m)).toNat : Int) := by
  have e1 : (8 * (m : Int)).toNat = 8 * m := by omega
  have e2 : ((n : Int) / 2 ^ (8 * m)) = ((n / 256 ^ m : Nat) : Int) := by
    rw [Int.natCast_ediv, show (256 : Nat) = 2 ^ 8 from rfl, ← Nat.pow_mul]; simp
  rw [e1, e2]
  simp [IntKind.wrap, IntKind.signed, IntKind.bits]
theorem WK.drew {B b : Nat} {u w : World} (h : WK B b u w) : WK B b u w.drew := ⟨h.1.drew, h.2⟩

/-- the eight bytes of a number, two's complement -/
def be64 (n : Int) : List UInt8 := be 8 (n % 18446744073709551616).toNat
theorem be64_length (n : Int) : (be64 n).length = 8 := be_length _ _
/-- the two bytes of a text's length -/
def be16 (n : Nat) : List UInt8 := be 2 n
theorem be16_length (n : Nat) : (be16 n).length = 2 := be_length _ _

theorem be64_wrap (n : Int) : be64 (IntKind.u64.wrap n) = be64 n := by
  unfold be64; congr 1; simp [IntKind.wrap, IntKind.signed, IntKind.bits]

/-- a hash's cells -/
def hashV (l : List UInt8) : Value := .agg (Lib.byteCells l).toArray

theorem WK.alloc {B b : Nat} {u w : World} (h : WK B b u w) (hB : B ≤ w.heap.size) (o : Obj) : WK B b u (w.alloc o) := ⟨h.1.alloc hB o, h.2.alloc o⟩

/-- bytes in memory of the call's own, from block B on -/
def OwnB (B : Nat) (v : Value) (l : List UInt8) (w : World) : Prop := w.ownsRow B 5 1 v l.length (Lib.byteCells l)

theorem OwnB.mono {B B' : Nat} {v : Value} {l : List UInt8} {w : World} (h : OwnB B v l w) (hB : B' ≤ B) : OwnB B' v l w := by
  obtain ⟨h1, h2⟩ := h
  refine ⟨h1, ?_⟩
  rcases h2 with h2 | ⟨g, cap, cur, hv, hg, r⟩
  · exact Or.inl h2
  · exact Or.inr ⟨g, cap, cur, hv, by omega, r⟩

theorem OwnB.shape {B : Nat} {v : Value} {l : List UInt8} {w : World} (h : OwnB B v l w) : ∃ a n c, v = .slice a n c := by
  obtain ⟨h1, ⟨rfl, _⟩ | ⟨g, cap, cur, hv, _⟩⟩ := h
  · exact ⟨_, _, _, rfl⟩
  · exact ⟨_, _, _, hv⟩

end Go.Proofs.Ytdegpapeanjboaa
