/- Base: facts on worlds and bytes, of no program. -/
import Derived.WalkKit
import Derived.WalkSpells
import Derived.WalkLawsBesides
import Derived.Lib.Hide
import Derived.Lib.ConvBytes
import Derived.Lib.BufferAt
namespace Go.Proofs.YtcbkehnlgpcelaaGreatDoor
open Go.RowKit

/-- the cells from place o of block b on -/
def RowAt (w : World) (b o : Nat) (vs : List Value) : Prop := ∀ j v, vs[j]? = some v → w.cell? ⟨b, o + j, none⟩ = some v

theorem RowAt.below {B : Nat} {w w' : World} {b o : Nat} {vs : List Value} (h : RowAt w b o vs) (hb : Below B w w') (hlt : b < B) : RowAt w' b o vs :=
  fun j v hj => (hb.cell (p := ⟨b, o + j, none⟩) hlt).trans (h j v hj)

theorem conv_str_bytes {P : Program} (w : World) (src dst e : TypeId) (s : ByteArray)
    (hs : P.underlying src = some .string) (hd : P.underlying dst = some (.slice e)) (he : P.underlying e = some (.int .u8)) :
    ∃ w1 c, (convert src dst (.string s)).run P w = .ok (.slice (some ⟨w.heap.size, 0, none⟩) s.size c) w1 ∧ Below w.heap.size w w1 ∧
      w1.heap.size = w.heap.size + 1 ∧ RowAt w1 w.heap.size 0 (Lib.byteCells s.data.toList) := by
  refine ⟨_, _, Lib.run_convert_string_bytes w src dst e s hs hd he, ?_, Lib.bytesWorld_size w e s, ?_⟩
  · refine ⟨rfl, rfl, rfl, ?_, fun k hk => Lib.bytesWorld_at_old w e s k hk⟩
    rw [Lib.bytesWorld_size]; omega
  · intro j v hj
    have hlt : j < s.data.toList.length := by
      have := (List.getElem?_eq_some_iff.1 hj).1
      simpa [Lib.byteCells_length] using this
    have hs2 : j < s.size := by simpa using hlt
    rw [Nat.zero_add, Lib.bytesWorld_cell w e s j hs2]
    simp only [Lib.byteCells, List.getElem?_map, List.getElem?_eq_getElem hlt, Option.map_some, Option.some.injEq] at hj
    rw [← hj]
    simp [List.getD, List.getElem?_eq_getElem hlt]

theorem byteCells_get (l : List UInt8) (j : Nat) (h : j < l.length) : (Lib.byteCells l)[j]? = some (.int .u8 (l[j].toNat : Int)) := by
  simp [Lib.byteCells, List.getElem?_eq_getElem h]

theorem RowAt.cell {w : World} {b o : Nat} {vs : List Value} (h : RowAt w b o vs) (j : Nat) {v : Value} (hj : vs[j]? = some v) : w.cell? ⟨b, o + j, none⟩ = some v := h j v hj
theorem RowAt.sub {w : World} {b o : Nat} {xs ys zs : List Value} (h : RowAt w b o (xs ++ ys ++ zs)) : RowAt w b (o + xs.length) ys := by
  intro j v hj
  have hlt : j < ys.length := (List.getElem?_eq_some_iff.1 hj).1
  rw [Nat.add_assoc]
  refine h (xs.length + j) v ?_
  rw [List.append_assoc, List.getElem?_append_right (by omega), Nat.add_sub_cancel_left, List.getElem?_append_left hlt]
  exact hj
/-- the row from place k on, n cells -/
theorem RowAt.part {w : World} {b o : Nat} {vs : List Value} (h : RowAt w b o vs) (k n : Nat) : RowAt w b (o + k) ((vs.drop k).take n) := by
  intro j v hj
  have hlt : j < ((vs.drop k).take n).length := (List.getElem?_eq_some_iff.1 hj).1
  rw [List.length_take] at hlt
  rw [List.getElem?_take_of_lt (by omega), List.getElem?_drop] at hj
  rw [Nat.add_assoc]
  exact h (k + j) v hj
/-- a boxed row, behind the box -/
theorem RowAt_box (w : World) (vs : List Value) (T : TypeId) : RowAt (w.alloc (.cells vs.toArray T)) w.heap.size 0 vs := by
  intro j v hj
  rw [Nat.zero_add, Lib.cell_of_heap (heap_alloc_new w _)]
  simpa using hj
theorem RowAt.drewN {w : World} {b o : Nat} {vs : List Value} (h : RowAt w b o vs) (n : Nat) : RowAt (w.drewN n) b o vs := h
theorem RowAt.drew {w : World} {b o : Nat} {vs : List Value} (h : RowAt w b o vs) : RowAt w.drew b o vs := h
theorem Below.drewN {B : Nat} {a w : World} (h : Below B a w) (n : Nat) : Below B a (w.drewN n) := ⟨h.os, h.tape, h.output, h.size, h.block⟩

theorem RowAt.set {w : World} {b o : Nat} {vs : List Value} (h : RowAt w b o vs) (j : Nat) (hj : j < vs.length) (x : Value) : RowAt (w.setCell ⟨b, o + j, none⟩ x) b o (vs.set j x) := by
  intro i v hi
  have h0 := h j _ (List.getElem?_eq_getElem hj)
  by_cases e : j = i
  · subst e
    rw [List.getElem?_set_self hj] at hi
    injection hi with hi
    rw [World.cell?_setCell_same' _ _ _ (by rw [h0]; rfl), hi]
  · rw [List.getElem?_set_ne e] at hi
    rw [World.cell?_setCell_other _ _ _ _ (by simp <;> omega)]
    exact h i v hi

theorem wpList_wanted {P : Program} {ops : Array Oper} {rest : List Oper} {o : Oper} {a : Act} {w : World} {Q : Exit → Act → World → Prop} (hw : Region.wanted o (yielded ops a.tmps) = true)
    (h : ∀ K : Act → World → Prop, (∀ a w, wpList P ops Q rest a w → K a w) → o.wp P a w K Q) : wpList P ops Q (o :: rest) a w :=
  wpList_step fun K hK => by rw [if_pos hw]; exact h K hK

section
variable {P : Program}
/-- a struct or an array, read out of the middle of a row -/
theorem run_loadVar_part (w : World) (g o : Nat) (ty : TypeId) (vs : List Value) (d : TypeDesc) (hr : RowAt w g o vs)
    (hu : P.underlying ty = some d) (hd : (match d with | .struct _ | .array _ _ => true | _ => false) = true) (hi : (P.info? ty).map (·.size) = some vs.length) :
    (loadVar ty ⟨g, o, none⟩).run P w = .ok (.agg vs.toArray) w := by
  have hl : (loadCells ⟨g, o, none⟩ vs.length).run P w = .ok vs.toArray w :=
    run_loadCells_list (P := P) w ⟨g, o, none⟩ vs (fun j v hv => by
      have hadd : (⟨g, o, none⟩ : Addr).add j = ⟨g, o + j, none⟩ := by unfold Addr.add; split <;> simp_all
      rw [hadd]; exact hr j v hv)
  cases hq : P.info? ty with
  | none => simp [hq] at hi
  | some i =>
    have hs : i.size = vs.length := by simpa [hq] using hi
    have hagg : (isAgg ty).run P w = .ok true w := by
      unfold isAgg
      rw [Sem.run_bind, run_underlying hu w]
      cases d <;> simp_all
    simp [loadVar, Sem.run_bind, hagg, sizeOf, typeInfo, hq, hs, hl]

/-- the arm: at a load of a struct or an array -/
theorem wpList_load_part {ops : Array Oper} {rest : List Oper} {o : Oper} {a : Act} {w : World} {Q : Exit → Act → World → Prop} (hgd : Region.wanted o (yielded ops a.tmps) = true) (ty : TypeId) (x : Operand) (ho : o.op = .load ty x)
    (g k : Nat) (hx : a.eval x = .pointer (some ⟨g, k, none⟩)) (vs : List Value) (d : TypeDesc) (hr : RowAt w g k vs)
    (hu : P.underlying ty = some d) (hd : (match d with | .struct _ | .array _ _ => true | _ => false) = true) (hi : (P.info? ty).map (·.size) = some vs.length)
    (h : wpList P ops Q rest (a.put o.dst (.agg vs.toArray)) w) : wpList P ops Q (o :: rest) a w := by
  refine wpList_wanted hgd fun K hK => ?_
  unfold Oper.wp execOp
  simp only [ho, hx, Instr.loadAt, Instr.sureAddr, Sem.run_bind, Sem.run_pure, Result.andThen_ok, run_loadVar_part w g k ty vs d hr hu hd hi]
  exact hK _ _ h

/-- block g holds just these cells -/
def Blk (w : World) (g : Nat) (vs : List Value) (T : TypeId) : Prop := w.heap[g]? = some (.cells vs.toArray T (0, 0))
theorem Blk.row {w : World} {g : Nat} {vs : List Value} {T : TypeId} (h : Blk w g vs T) : RowAt w g 0 vs := by
  intro j v hj
  rw [Nat.zero_add, Lib.cell_of_heap h]
  simpa using hj
theorem Blk.frozen {w : World} {g : Nat} {vs : List Value} {T : TypeId} (h : Blk w g vs T) (j : Nat) : w.frozen? ⟨g, j, none⟩ = false := Lib.frozen_of_heap h j
theorem Blk.lt {w : World} {g : Nat} {vs : List Value} {T : TypeId} (h : Blk w g vs T) : g < w.heap.size := Lib.lt_of_heap h
theorem Blk.grown {w w' : World} {g : Nat} {vs : List Value} {T : TypeId} {row : Option Nat} (h : Blk w g vs T) (hg : w.grownBy w' row) (hne : some g ≠ row) : Blk w' g vs T :=
  (hg.block g h.lt hne).trans h
theorem Blk.below {B : Nat} {w w' : World} {g : Nat} {vs : List Value} {T : TypeId} (h : Blk w g vs T) (hb : Below B w w') (hlt : g < B) : Blk w' g vs T := (hb.block g hlt).trans h
theorem Blk.new (w : World) (vs : List Value) (T : TypeId) : Blk (w.alloc (.cells vs.toArray T)) w.heap.size vs T := heap_alloc_new w _

/-- the arm: at a new variable of a struct or array type; the world under a name -/
theorem wpList_alloc_as {ops : Array Oper} {rest : List Oper} {o : Oper} {a : Act} {w : World} {Q : Exit → Act → World → Prop} (hgd : Region.wanted o (yielded ops a.tmps) = true) (ty : TypeId) (ho : o.op = .alloc ty) (Z : List Value)
    (hz : (P.info? ty).map (fun i => i.zero.map (fun v => v.cells)) = some (some Z.toArray))
    (h : ∀ w2, Blk w2 w.heap.size Z ty → w.grownBy w2 none → w2.heap.size = w.heap.size + 1 → wpList P ops Q rest (a.put o.dst (.pointer (some ⟨w.heap.size, 0, none⟩))) w2) : wpList P ops Q (o :: rest) a w := by
  refine wpList_wanted hgd fun K hK => ?_
  have hrun : (Instr.alloc ty true (.tuple #[])).run P w = .ok (.pointer (some ⟨w.heap.size, 0, none⟩)) (w.alloc (.cells Z.toArray ty)) := by
    cases hq : P.info? ty with
    | none => simp [hq] at hz
    | some i =>
      cases hv : i.zero with
      | none => simp [hq, hv] at hz
      | some v =>
        have hc : v.cells = Z.toArray := by simpa [hq, hv] using hz
        simp [Instr.alloc, Sem.run_bind, zeroValue, typeInfo, hq, hv, newVar, newRow, hc]
  unfold Oper.wp execOp
  simp only [ho, Sem.run_bind, Sem.run_pure, Result.andThen_ok, hrun]
  exact hK _ _ (h _ (Blk.new w Z ty) (World.grownBy_alloc w _ none) (by simp))

/-- the arm: at a parameter that is boxed; the world under a name -/
theorem wpList_box_as {ops : Array Oper} {rest : List Oper} {o : Oper} {a : Act} {w : World} {Q : Exit → Act → World → Prop} (hgd : Region.wanted o (yielded ops a.tmps) = true) (ty : TypeId) (x : Operand) (ho : o.op = .box ty x) (vs : List Value)
    (hx : a.eval x = .agg vs.toArray)
    (h : ∀ w2, Blk w2 w.heap.size vs ty → w.grownBy w2 none → w2.heap.size = w.heap.size + 1 → wpList P ops Q rest (a.put o.dst (.pointer (some ⟨w.heap.size, 0, none⟩))) w2) : wpList P ops Q (o :: rest) a w := by
  refine wpList_wanted hgd fun K hK => ?_
  have hrun : (Instr.box ty (.agg vs.toArray)).run P w = .ok (.pointer (some ⟨w.heap.size, 0, none⟩)) (w.alloc (.cells vs.toArray ty)) := by
    simp [Instr.box, newVar, newRow, Value.cells]
  unfold Oper.wp execOp
  simp only [ho, hx, Sem.run_bind, Sem.run_pure, Result.andThen_ok, hrun]
  exact hK _ _ (h _ (Blk.new w vs ty) (World.grownBy_alloc w _ none) (by simp))

theorem run_loadVar_plain (w : World) (a : Addr) (ty : TypeId) (d : TypeDesc) (v : Value) (hu : P.underlying ty = some d) (hd : (match d with | .struct _ | .array _ _ => true | _ => false) = false) (hc : w.cell? a = some v) :
    (loadVar ty a).run P w = .ok v w := by
  have hagg : (isAgg ty).run P w = .ok false w := by
    unfold isAgg
    rw [Sem.run_bind, run_underlying hu w]
    cases d <;> simp_all
  simp [loadVar, Sem.run_bind, hagg, hc]

/-- two results that lie in variables -/
theorem results_two {fn : Func} {p q : Tmp} {t u : TypeId} (h : fn.results = #[.cell p t, .cell q u]) (tmps : Array Value) (w : World) (a b : Addr) (x y : Value)
    (hp : tmps.getD p undef = .pointer (some a)) (hq : tmps.getD q undef = .pointer (some b)) (hx : (loadVar t a).run P w = .ok x w) (hy : (loadVar u b).run P w = .ok y w) :
    (results fn tmps).run P w = .ok (.tuple #[x, y]) w := by
  have hp' : tmps[p]?.getD undef = .pointer (some a) := by simpa using hp
  have hq' : tmps[q]?.getD undef = .pointer (some b) := by simpa using hq
  simp [results, h, hp', hq', asAddr, hx, hy]
/-- one in a variable, one in a slot -/
theorem results_cell_tmp {fn : Func} {p q : Tmp} {t : TypeId} (h : fn.results = #[.cell p t, .tmp q]) (tmps : Array Value) (w : World) (a : Addr) (x y : Value)
    (hp : tmps.getD p undef = .pointer (some a)) (hq : tmps.getD q undef = y) (hx : (loadVar t a).run P w = .ok x w) :
    (results fn tmps).run P w = .ok (.tuple #[x, y]) w := by
  have hp' : tmps[p]?.getD undef = .pointer (some a) := by simpa using hp
  have hq' : tmps[q]?.getD undef = y := by simpa using hq
  simp [results, h, hp', hq', asAddr, hx]
theorem results_cell_one {fn : Func} {p : Tmp} {t : TypeId} (h : fn.results = #[.cell p t]) (tmps : Array Value) (w : World) (a : Addr) (x : Value)
    (hp : tmps.getD p undef = .pointer (some a)) (hx : (loadVar t a).run P w = .ok x w) :
    (results fn tmps).run P w = .ok x w := by
  have hp' : tmps[p]?.getD undef = .pointer (some a) := by simpa using hp
  simp [results, h, hp', asAddr, hx]

/-- the arm: at a store of a struct or an array into the middle of a block -/
theorem wpList_store_part {ops : Array Oper} {rest : List Oper} {o : Oper} {a : Act} {w : World} {Q : Exit → Act → World → Prop} (hgd : Region.wanted o (yielded ops a.tmps) = true) (ty : TypeId) (x y : Operand) (ho : o.op = .store ty x y)
    (g k : Nat) (hx : a.eval x = .pointer (some ⟨g, k, none⟩)) (vs cur : List Value) (T : TypeId) (hy : a.eval y = .agg vs.toArray) (hb : Blk w g cur T) (hfit : k + vs.length ≤ cur.length)
    (h1 : ∀ v ∈ vs, v.oneCell' = true) (hi : (P.info? ty).map (·.size) = some vs.length)
    (h : ∀ w2, w.grownBy w2 (some g) → w2.heap.size = w.heap.size → Blk w2 g (cur.take k ++ vs ++ cur.drop (k + vs.length)) T → wpList P ops Q rest (a.put o.dst undef) w2) : wpList P ops Q (o :: rest) a w := by
  refine wpList_wanted hgd fun K hK => ?_
  have hst := run_storeCells_at (P := P) g k T vs 0 cur.toArray w hb (by simpa using hfit) h1
  have hrun : (storeVar ty ⟨g, k, none⟩ (.agg vs.toArray)).run P w = .ok () (w.setRow g (cur.take k ++ vs ++ cur.drop (k + vs.length)).toArray) := by
    cases hq : P.info? ty with
    | none => simp [hq] at hi
    | some i =>
      have hs : i.size = vs.length := by simpa [hq] using hi
      simpa [storeVar, Sem.run_bind, sizeOf, typeInfo, hq, hs, Value.cells] using hst
  unfold Oper.wp execOp
  simp only [ho, hx, hy, Instr.storeAt, Instr.sureAddr, Sem.run_bind, Sem.run_pure, Result.andThen_ok, hrun]
  refine hK _ _ (h _ ⟨rfl, rfl, rfl, by simp, fun j _ hj => setRow_other w g j _ (by simpa using hj)⟩ (by simp) ?_)
  exact setRow_heap w g cur.toArray _ T (0, 0) hb
/-- .. into a whole block -/
theorem wpList_store_whole {ops : Array Oper} {rest : List Oper} {o : Oper} {a : Act} {w : World} {Q : Exit → Act → World → Prop} (hgd : Region.wanted o (yielded ops a.tmps) = true) (ty : TypeId) (x y : Operand) (ho : o.op = .store ty x y)
    (g : Nat) (hx : a.eval x = .pointer (some ⟨g, 0, none⟩)) (vs cur : List Value) (T : TypeId) (hy : a.eval y = .agg vs.toArray) (hb : Blk w g cur T) (hfit : vs.length = cur.length)
    (h1 : ∀ v ∈ vs, v.oneCell' = true) (hi : (P.info? ty).map (·.size) = some vs.length)
    (h : ∀ w2, w.grownBy w2 (some g) → w2.heap.size = w.heap.size → Blk w2 g vs T → wpList P ops Q rest (a.put o.dst undef) w2) : wpList P ops Q (o :: rest) a w := by
  refine wpList_store_part hgd ty x y ho g 0 hx vs cur T hy hb (by omega) h1 hi fun w2 g2 s2 b2 => h w2 g2 s2 ?_
  have e3 : cur.take 0 ++ vs ++ cur.drop (0 + vs.length) = vs := by rw [List.take_zero, List.nil_append, Nat.zero_add, List.drop_eq_nil_of_le (by omega), List.append_nil]
  rwa [e3] at b2
end

theorem byteCells_drop32 {l : List UInt8} (h : l.length = 32) : (Lib.byteCells l).drop 32 = [] := List.drop_eq_nil_of_le (by rw [Lib.byteCells_length]; omega)
theorem byteCells_take32 {l : List UInt8} (h : l.length = 32) : (Lib.byteCells l).take 32 = Lib.byteCells l := List.take_of_length_le (by rw [Lib.byteCells_length]; omega)
def u64R (n : Int) : Prop := 0 ≤ n ∧ n < 18446744073709551616
def i64R (n : Int) : Prop := -9223372036854775808 ≤ n ∧ n < 9223372036854775808
theorem below_box (w : World) (o : Obj) : Below w.heap.size w (w.alloc o) := (Below.refl _ _).alloc (Nat.le_refl _) _

end Go.Proofs.YtcbkehnlgpcelaaGreatDoor
