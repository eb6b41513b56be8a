/- Walks: nuncioref02's Word, Text, Hash: bytes by append. Walks: nuncioref06's in, Name. -/
import Derived.Test.YtlahdaanfhedoaaGreatDoorApp
import Derived.Test.YtlahdaanfhedoaaGreatDoorRef2
namespace Go.Proofs.YtlahdaanfhedoaaGreatDoor
open Go.RowKit
set_option maxRecDepth 100000

theorem u8_info : (Tryz.prog.info? 5).map (fun i => (i.zero, i.size, i.bytes)) = some (some (.int .u8 0), 1, 1) := by kernel_rfl
/-- what a function answers that makes bytes -/
def MakesB (l : List UInt8) (w : World) (e : Ending) (w' : World) : Prop := ∃ a n c, e = .returned (.slice a n c) ∧ OwnB w.heap.size (.slice a n c) l w' ∧ Below w.heap.size w w'
theorem OwnB.kept {B : Nat} {v : Value} {l : List UInt8} {w w' : World} (h : OwnB B v l w) (hg : w.grownBy w' none) : OwnB B v l w' := by
  refine World.ownsRow.kept h hg ?_
  cases hv : v.ownBlock <;> simp
theorem OwnB.below {B : Nat} {v : Value} {l : List UInt8} {w w' : World} (h : OwnB B v l w) (hg : Below w.heap.size w w') : OwnB B v l w' := h.kept (below_grown hg)
theorem OwnB.add {B n m : Nat} {v : Value} {l k : List UInt8} {w : World} (h : w.ownsRow B 5 1 v (n + m) (Lib.byteCells l ++ Lib.byteCells k)) (hn : n = l.length) (hm : m = k.length) : OwnB B v (l ++ k) w := by
  subst hn hm
  unfold OwnB
  rw [Lib.byteCells_append, List.length_append]; exact h
theorem OwnB.snoc {B n : Nat} {v : Value} {l : List UInt8} {c : UInt8} {x : Value} {w : World} (h : w.ownsRow B 5 1 v (n + 1) (Lib.byteCells l ++ [x])) (hn : n = l.length) (hx : x = .int .u8 (c.toNat : Int)) : OwnB B v (l ++ [c]) w := by
  subst hx
  exact OwnB.add (k := [c]) h hn rfl
theorem RdB.src {w : World} {v : Value} {l : List UInt8} (h : RdB w v l) : Src Tryz.prog 1 71 v l.length (Lib.byteCells l) w := by
  obtain ⟨ao, c, rfl, _, _, ⟨rfl, rfl, rfl⟩ | ⟨g, o, rfl, _, hr⟩⟩ := h
  · exact Src.ofNil _ Tryz.underlying71 0
  · refine Src.ofSlice _ Tryz.underlying71 _ _ _ _ (by rw [Lib.byteCells_length, Nat.mul_one]) (fun j u hj => ?_) (Lib.byteCells_one l)
    rw [addr_add]; exact hr j u hj
theorem src_str (w : World) (s : ByteArray) : Src Tryz.prog 1 9 (.string s) s.data.toList.length (Lib.byteCells s.data.toList) w := by
  have h := Src.ofString (P := Tryz.prog) w (tx := 9) Tryz.underlying9 s
  rw [show s.data.toList.length = s.size by simp]
  exact h

/-- append(b, c...), of bytes -/
theorem wp_app {o : Oper} {a : Act} {w : World} {K : Act → World → Prop} {Q : Exit → Act → World → Prop} (s x : Operand)
    (ho : o.op = .call { callee := .builtin .append, args := #[s, x], argTypes := #[71, 71] }) {B : Nat} {v : Value} {l : List UInt8} (hs : a.eval s = v) (hown : OwnB B v l w)
    {xv : Value} {m : List UInt8} (hx : a.eval x = xv) (hr : RdB w xv m) (hlen : l.length + m.length ≤ 140737488355328) (hB : B ≤ w.heap.size)
    (h : ∀ a' n' c' w', OwnB B (.slice a' n' c') (l ++ m) w' → Below B w w' → K (a.put o.dst (.slice a' n' c')) w') : o.wp Tryz.prog a w K Q := by
  refine wp_append_srcs w s x 71 71 ho B 5 (.int .u8 0) 1 1 Tryz.underlying71 u8_info rfl v l.length (Lib.byteCells l) hs hown xv m.length _ hx hr.src (by unfold maxLen; omega) (by omega) hB ?_
  intro v' w' h1 _ h2 _
  have h3 := OwnB.add h1 rfl rfl
  obtain ⟨a', n', c', rfl⟩ := h3.shape
  exact h a' n' c' w' h3 h2
/-- .. append(b, s...), of a string -/
theorem wp_app_str {o : Oper} {a : Act} {w : World} {K : Act → World → Prop} {Q : Exit → Act → World → Prop} (s x : Operand)
    (ho : o.op = .call { callee := .builtin .append, args := #[s, x], argTypes := #[71, 9] }) {B : Nat} {v : Value} {l : List UInt8} (hs : a.eval s = v) (hown : OwnB B v l w)
    {m : ByteArray} (hx : a.eval x = .string m) (hlen : l.length + m.size ≤ 140737488355328) (hB : B ≤ w.heap.size)
    (h : ∀ a' n' c' w', OwnB B (.slice a' n' c') (l ++ m.data.toList) w' → Below B w w' → K (a.put o.dst (.slice a' n' c')) w') : o.wp Tryz.prog a w K Q := by
  have hm : m.data.toList.length = m.size := by simp
  refine wp_append_srcs w s x 71 9 ho B 5 (.int .u8 0) 1 1 Tryz.underlying71 u8_info rfl v l.length (Lib.byteCells l) hs hown _ m.data.toList.length _ hx (src_str w m) (by unfold maxLen; omega) (by omega) hB ?_
  intro v' w' h1 _ h2 _
  have h3 := OwnB.add h1 rfl rfl
  obtain ⟨a', n', c', rfl⟩ := h3.shape
  exact h a' n' c' w' h3 h2
/-- the arm -/
theorem wpList_app {ops : Array Oper} {rest : List Oper} {o : Oper} {a : Act} {w : World} {Q : Exit → Act → World → Prop} (hgd : Region.wanted o (yielded ops a.tmps) = true) (s x : Operand)
    (ho : o.op = .call { callee := .builtin .append, args := #[s, x], argTypes := #[71, 71] }) {B : Nat} {v : Value} {l : List UInt8} (hs : a.eval s = v) (hown : OwnB B v l w)
    {xv : Value} {m : List UInt8} (hx : a.eval x = xv) (hr : RdB w xv m) (hlen : l.length + m.length ≤ 140737488355328) (hB : B ≤ w.heap.size)
    (h : ∀ a' n' c' w', OwnB B (.slice a' n' c') (l ++ m) w' → Below B w w' → wpList Tryz.prog ops Q rest (a.put o.dst (.slice a' n' c')) w') : wpList Tryz.prog ops Q (o :: rest) a w :=
  wpList_wanted hgd fun _ hK => wp_app s x ho hs hown hx hr hlen hB fun a' n' c' w' h1 h2 => hK _ _ (h a' n' c' w' h1 h2)
theorem wpList_app_str {ops : Array Oper} {rest : List Oper} {o : Oper} {a : Act} {w : World} {Q : Exit → Act → World → Prop} (hgd : Region.wanted o (yielded ops a.tmps) = true) (s x : Operand)
    (ho : o.op = .call { callee := .builtin .append, args := #[s, x], argTypes := #[71, 9] }) {B : Nat} {v : Value} {l : List UInt8} (hs : a.eval s = v) (hown : OwnB B v l w)
    {m : ByteArray} (hx : a.eval x = .string m) (hlen : l.length + m.size ≤ 140737488355328) (hB : B ≤ w.heap.size)
    (h : ∀ a' n' c' w', OwnB B (.slice a' n' c') (l ++ m.data.toList) w' → Below B w w' → wpList Tryz.prog ops Q rest (a.put o.dst (.slice a' n' c')) w') : wpList Tryz.prog ops Q (o :: rest) a w :=
  wpList_wanted hgd fun _ hK => wp_app_str s x ho hs hown hx hlen hB fun a' n' c' w' h1 h2 => hK _ _ (h a' n' c' w' h1 h2)
/-- the step, in a region that draws its order -/
theorem step_app {ops : Array Oper} {o : Oper} {a : Act} {w : World} {K : Act → World → Prop} {Q : Exit → Act → World → Prop} {E : Prop} (hgd : o.guard = none) (s x : Operand)
    (ho : o.op = .call { callee := .builtin .append, args := #[s, x], argTypes := #[71, 71] }) {B : Nat} {v : Value} {l : List UInt8} (hs : a.eval s = v) (hown : OwnB B v l w)
    {xv : Value} {m : List UInt8} (hx : a.eval x = xv) (hr : RdB w xv m) (hlen : l.length + m.length ≤ 140737488355328) (hB : B ≤ w.heap.size)
    (h : ∀ a' n' c' w', OwnB B (.slice a' n' c') (l ++ m) w' → Below B w w' → K (a.put o.dst (.slice a' n' c')) w') : if Region.wanted o (yielded ops a.tmps) = true then Oper.wp Tryz.prog o a w K Q else E := by
  have hw : Region.wanted o (yielded ops a.tmps) = true := by simp [Region.wanted, hgd]
  rw [if_pos hw]
  exact wp_app s x ho hs hown hx hr hlen hB h
/-- .. append(b, c), of one byte -/
theorem wpList_app_one {ops : Array Oper} {rest : List Oper} {o : Oper} {a : Act} {w : World} {Q : Exit → Act → World → Prop} (hgd : Region.wanted o (yielded ops a.tmps) = true) (s x : Operand)
    (ho : o.op = .call { callee := .builtin .append, args := #[s, x], argTypes := #[71, 71] }) {B : Nat} {v : Value} {l : List UInt8} (hs : a.eval s = v) (hown : OwnB B v l w) (c : UInt8) {u : Int}
    (hx : a.eval x = .slice (some ⟨w.heap.size, 0, none⟩) 1 1) (hc : (c.toNat : Int) = u) (hlen : l.length + 1 ≤ 140737488355328) (hB : B ≤ w.heap.size)
    (h : ∀ a' n' c' w', OwnB B (.slice a' n' c') (l ++ [c]) w' → Below B w w' → wpList Tryz.prog ops Q rest (a.put o.dst (.slice a' n' c')) w') : wpList Tryz.prog ops Q (o :: rest) a (w.alloc (.cells #[.int .u8 u] 5)) := by
  subst hc
  have hown2 : OwnB B v l (w.alloc (.cells #[.int .u8 (c.toNat : Int)] 5)) := World.ownsRow.alloc hown _
  refine wpList_app hgd s x ho hs hown2 hx (m := [c]) ⟨_, _, rfl, Nat.le_refl _, by unfold maxLen; simp, Or.inr ⟨w.heap.size, 0, rfl, by simp, RowAt_box w [.int .u8 (c.toNat : Int)] _⟩⟩ hlen (by simp; omega) ?_
  intro a' n' c' w' h1 h2
  exact h a' n' c' w' h1 (((Below.refl _ _).alloc hB _).trans h2)

theorem len_bytes (k : Nat) : be16 k = [UInt8.ofNat (k / 256), UInt8.ofNat k] := by simp [be16, be]

theorem ret_bool {a b : Bool} (h : b = a) : Ending.returned (.bool a) = .returned (.bool b) := by rw [h]

end Go.Proofs.YtlahdaanfhedoaaGreatDoor
