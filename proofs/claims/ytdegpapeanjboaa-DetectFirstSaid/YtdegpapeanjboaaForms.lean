/- Walks: forms.caught, encode. -/
import Derived.Test.YtdegpapeanjboaaWire
import Derived.Recover
namespace Go.Proofs.Ytdegpapeanjboaa
open Go.RowKit
set_option maxRecDepth 100000

/-- block m holds one cell, x -/
def One (w : World) (m : Nat) (x : Value) : Prop := w.cell? ⟨m, 0, none⟩ = some x ∧ w.frozen? ⟨m, 0, none⟩ = false

theorem One.below {B m : Nat} {x : Value} {w w' : World} (h : One w m x) (hb : Below B w w') (hm : m < B) : One w' m x :=
  ⟨(hb.cell (p := ⟨m, 0, none⟩) hm).trans h.1, (hb.frozen (p := ⟨m, 0, none⟩) hm).trans h.2⟩

theorem One.new (w : World) (x : Value) (T : TypeId) : One (w.alloc (.cells #[x] T)) w.heap.size x :=
  ⟨by rw [Lib.cell_of_heap (heap_alloc_new w _)]; rfl, by rw [Lib.frozen_of_heap (heap_alloc_new w _)]⟩

theorem two_new (w : World) (x y : Value) (T U : TypeId) : ∃ W0, (w.alloc (.cells #[x] T)).alloc (.cells #[y] U) = W0 ∧ One W0 w.heap.size x ∧ One W0 (w.heap.size + 1) y ∧ W0.heap.size = w.heap.size + 2 ∧ Below w.heap.size w W0 := by
  refine ⟨_, rfl, ?_, ?_, by simp, ((Below.refl _ _).alloc (Nat.le_refl _) _).alloc (by simp) _⟩
  · exact (One.new w x T).below (B := w.heap.size + 1) ((Below.refl _ _).alloc (by simp) _) (by omega)
  · have := One.new (w.alloc (.cells #[x] T)) y U
    rwa [show (w.alloc (.cells #[x] T)).heap.size = w.heap.size + 1 from by simp] at this

/-- a text's bytes: its length, and they -/
def textL (s : ByteArray) : List UInt8 := be16 s.size ++ s.data.toList
theorem textL_length (s : ByteArray) : (textL s).length = 2 + s.size := by unfold textL; rw [List.length_append, be16_length]; simp
theorem enters {f : FuncId} {fn : Func} {c : Code} (hf : Try.prog.funcs[f]? = some fn) (hname : (fn.name == "runtime.NumGoroutine") = false) (hb : fn.body = some c) :
    ∀ args w, (callFunc f args).run Try.prog w = .ok (.enter f args) w := by
  intro args w
  have h1 : fn.name ≠ "runtime.NumGoroutine" := by simpa using hname
  simp [callFunc, hf, h1, hb, mark]

/-- bytes and no error -/
def Gives (l : List UInt8) (w : World) (e : Ending) (w' : World) : Prop := ∃ a n c, e = .returned (.tuple #[.slice a n c, .int .i64 0]) ∧ OwnB w.heap.size (.slice a n c) l w' ∧ Below w.heap.size w w'
/-- nothing, and the error -/
def Fails (w : World) (e : Ending) (w' : World) : Prop := e = .returned (.tuple #[.slice none 0 0, .int .i64 61]) ∧ Below w.heap.size w w'

theorem nameL_len {l : List UInt8} (h : nameL l = true) : 1 ≤ l.length ∧ l.length ≤ 16 := by
  unfold nameL at h; simp at h; exact ⟨h.1.1, h.1.2⟩
theorem hash_size (l : List UInt8) (h : l.length = 32) : (Try.prog.info? 30).map (·.size) = some (Lib.byteCells l).length := by
  rw [Lib.byteCells_length, h]; kernel_rfl
/-- a box, under a name -/
theorem box_as (w : World) (vs : List Value) (T : TypeId) : ∃ W, w.alloc (.cells vs.toArray T) = W ∧ W.heap[w.heap.size]? = some (.cells vs.toArray T (0, 0)) ∧ RowAt W w.heap.size 0 vs ∧ (∀ j, W.frozen? ⟨w.heap.size, j, none⟩ = false) ∧ Below w.heap.size w W ∧ W.heap.size = w.heap.size + 1 :=
  ⟨_, rfl, heap_alloc_new w _, RowAt_box w vs T, fun j => Lib.frozen_of_heap (heap_alloc_new w _) j, below_box w _, by simp⟩

end Go.Proofs.Ytdegpapeanjboaa
