/- Walks: forms.checkHeader. -/
import Derived.Test.YtfnginmoiecgnaaDoorForms
import Derived.Deep.Cut
import Derived.Deep.CutRange
namespace Go.Proofs.YtfnginmoiecgnaaDoor
open Go.RowKit
set_option maxRecDepth 100000

/-- a header, as data -/
structure HeaderD where
  chain : ByteArray
  height : Int
  time : Int
  last : List UInt8
  set : List UInt8
  next : List UInt8
  data : List UInt8
  app : List UInt8
structure HeaderD.wf (v : HeaderD) : Prop where
  chain : v.chain.size ≤ maxLen
  height : i64R v.height
  time : i64R v.time
  last : v.last.length = 32
  set : v.set.length = 32
  next : v.next.length = 32
  data : v.data.length = 32
  app : v.app.length = 32
def HeaderD.cells (v : HeaderD) : List Value := [.string v.chain, .int .i64 v.height, .int .i64 v.time] ++ Lib.byteCells v.last ++ Lib.byteCells v.set ++ Lib.byteCells v.next ++ Lib.byteCells v.data ++ Lib.byteCells v.app
def HeaderD.val (v : HeaderD) : Value := .agg v.cells.toArray
theorem HeaderD.cells_length (v : HeaderD) (h : v.wf) : v.cells.length = 163 := by simp [HeaderD.cells, Lib.byteCells_length, h.last, h.set, h.next, h.data, h.app]
/-- what is read of its row -/
structure HeaderD.At (w : World) (m o : Nat) (v : HeaderD) : Prop where
  row : RowAt w m o v.cells
  chain : w.cell? ⟨m, o + 0, none⟩ = some (.string v.chain)
  height : w.cell? ⟨m, o + 1, none⟩ = some (.int .i64 v.height)
  time : w.cell? ⟨m, o + 2, none⟩ = some (.int .i64 v.time)
  last : RowAt w m (o + 3) (Lib.byteCells v.last)
  set : RowAt w m (o + 35) (Lib.byteCells v.set)
  next : RowAt w m (o + 67) (Lib.byteCells v.next)
  data : RowAt w m (o + 99) (Lib.byteCells v.data)
  app : RowAt w m (o + 131) (Lib.byteCells v.app)
theorem HeaderD.At.of_row {w : World} {m o : Nat} {v : HeaderD} (hv : v.wf) (h : RowAt w m o v.cells) : HeaderD.At w m o v := by
  refine ⟨h, ?_, ?_, ?_, ?_, ?_, ?_, ?_, ?_⟩
  · exact h 0 _ (by simp [HeaderD.cells, Lib.byteCells_length, hv.last, hv.set, hv.next, hv.data, hv.app])
  · exact h 1 _ (by simp [HeaderD.cells, Lib.byteCells_length, hv.last, hv.set, hv.next, hv.data, hv.app])
  · exact h 2 _ (by simp [HeaderD.cells, Lib.byteCells_length, hv.last, hv.set, hv.next, hv.data, hv.app])
  · have e : (v.cells.drop 3).take 32 = Lib.byteCells v.last := by simp [HeaderD.cells, List.drop_append, Lib.byteCells_length, hv.last, hv.set, hv.next, hv.data]
    exact e ▸ h.part 3 32
  · have e : (v.cells.drop 35).take 32 = Lib.byteCells v.set := by simp [HeaderD.cells, Lib.byteCells_length, hv.last, hv.set]
    exact e ▸ h.part 35 32
  · have e : (v.cells.drop 67).take 32 = Lib.byteCells v.next := by simp [HeaderD.cells, List.drop_append, Lib.byteCells_length, List.drop_eq_nil_of_le, hv.last, hv.set, hv.next]
    exact e ▸ h.part 67 32
  · have e : (v.cells.drop 99).take 32 = Lib.byteCells v.data := by simp [HeaderD.cells, List.drop_append, Lib.byteCells_length, List.drop_eq_nil_of_le, hv.last, hv.set, hv.next, hv.data]
    exact e ▸ h.part 99 32
  · have e : (v.cells.drop 131).take 32 = Lib.byteCells v.app := by simp [HeaderD.cells, List.drop_append, Lib.byteCells_length, byteCells_take32, List.drop_eq_nil_of_le, hv.last, hv.set, hv.next, hv.data, hv.app]
    exact e ▸ h.part 131 32
theorem HeaderD.At.below {B : Nat} {w w' : World} {m o : Nat} {v : HeaderD} (h : HeaderD.At w m o v) (hv : v.wf) (hb : Below B w w') (hm : m < B) : HeaderD.At w' m o v := HeaderD.At.of_row hv (h.row.below hb hm)
def okHeader (v : HeaderD) : Bool := nameL v.chain.data.toList && (inR v.height 1 1099511627776 && (inR v.time 0 1099511627776))
def encHeader (v : HeaderD) : List UInt8 := be64 2 ++ textL v.chain ++ be64 v.height ++ be64 v.time ++ v.last ++ v.set ++ v.next ++ v.data ++ v.app
theorem okHeader_len {v : HeaderD} (h : okHeader v = true) : v.chain.size ≤ 16 := by
  unfold okHeader at h; simp only [Bool.and_eq_true] at h
  have := (nameL_len h.1).2
  simpa using this

end Go.Proofs.YtfnginmoiecgnaaDoor
