/- Walks: forms.checkVote, EncodeVote, SignBytes. -/
import Derived.Test.YtdegpapeanjboaaForms
import Derived.Deep.Cut
import Derived.Deep.CutRange
namespace Go.Proofs.Ytdegpapeanjboaa
open Go.RowKit
set_option maxRecDepth 100000

/-- a vote, as data -/
structure VoteD where
  chain : ByteArray
  height : Int
  round : Int
  type : Int
  block : List UInt8
  key : Int
  r : Int
  s : Int
structure VoteD.wf (v : VoteD) : Prop where
  chain : v.chain.size ≤ maxLen
  height : i64R v.height
  round : i64R v.round
  type : i64R v.type
  block : v.block.length = 32
  key : u64R v.key
  r : u64R v.r
  s : u64R v.s
def VoteD.cells (v : VoteD) : List Value := [.string v.chain, .int .i64 v.height, .int .i64 v.round, .int .i64 v.type] ++ Lib.byteCells v.block ++ [.int .u64 v.key, .int .u64 v.r, .int .u64 v.s]
def VoteD.val (v : VoteD) : Value := .agg v.cells.toArray
theorem VoteD.cells_length (v : VoteD) (h : v.wf) : v.cells.length = 39 := by simp [VoteD.cells, Lib.byteCells_length, h.block]
/-- what is read of its row -/
structure VoteD.At (w : World) (m o : Nat) (v : VoteD) : Prop where
  row : RowAt w m o v.cells
  chain : w.cell? ⟨m, o + 0, none⟩ = some (.string v.chain)
  height : w.cell? ⟨m, o + 1, none⟩ = some (.int .i64 v.height)
  round : w.cell? ⟨m, o + 2, none⟩ = some (.int .i64 v.round)
  type : w.cell? ⟨m, o + 3, none⟩ = some (.int .i64 v.type)
  block : RowAt w m (o + 4) (Lib.byteCells v.block)
  key : w.cell? ⟨m, o + 36, none⟩ = some (.int .u64 v.key)
  r : w.cell? ⟨m, o + 37, none⟩ = some (.int .u64 v.r)
  s : w.cell? ⟨m, o + 38, none⟩ = some (.int .u64 v.s)
theorem VoteD.At.of_row {w : World} {m o : Nat} {v : VoteD} (hv : v.wf) (h : RowAt w m o v.cells) : VoteD.At w m o v := by
  refine ⟨h, ?_, ?_, ?_, ?_, ?_, ?_, ?_, ?_⟩
  · exact h 0 _ (by simp [VoteD.cells, Lib.byteCells_length, hv.block])
  · exact h 1 _ (by simp [VoteD.cells, Lib.byteCells_length, hv.block])
  · exact h 2 _ (by simp [VoteD.cells, Lib.byteCells_length, hv.block])
  · exact h 3 _ (by simp [VoteD.cells, Lib.byteCells_length, hv.block])
  · have e : (v.cells.drop 4).take 32 = Lib.byteCells v.block := by simp [VoteD.cells, List.drop_append, Lib.byteCells_length, hv.block]
    exact e ▸ h.part 4 32
  · exact h 36 _ (by simp [VoteD.cells, Lib.byteCells_length, hv.block])
  · exact h 37 _ (by simp [VoteD.cells, Lib.byteCells_length, hv.block])
  · exact h 38 _ (by simp [VoteD.cells, Lib.byteCells_length, hv.block])
theorem VoteD.At.below {B : Nat} {w w' : World} {m o : Nat} {v : VoteD} (h : VoteD.At w m o v) (hv : v.wf) (hb : Below B w w') (hm : m < B) : VoteD.At w' m o v := VoteD.At.of_row hv (h.row.below hb hm)
def okVote (v : VoteD) : Bool := nameL v.chain.data.toList && (inR v.height 1 1099511627776 && (inR v.round 0 1048576 && (inR v.type 1 2)))
def encVote (v : VoteD) : List UInt8 := be64 1 ++ textL v.chain ++ be64 v.height ++ be64 v.round ++ be64 v.type ++ v.block ++ be64 v.key ++ be64 v.r ++ be64 v.s
theorem okVote_len {v : VoteD} (h : okVote v = true) : v.chain.size ≤ 16 := by
  unfold okVote at h; simp only [Bool.and_eq_true] at h
  have := (nameL_len h.1).2
  simpa using this

theorem encVote_pos (v : VoteD) : 0 < (encVote v).length := by simp [encVote, be64_length]; omega
theorem encVote_len (v : VoteD) (hv : v.wf) (h : okVote v = true) : (encVote v).length ≤ 1000 := by
  have := okVote_len h
  simp [encVote, be64_length, textL_length, hv.block]; omega

/-- the vote that is signed -/
def VoteD.bare (v : VoteD) : VoteD := { v with key := 0, r := 0, s := 0 }
theorem VoteD.bare_wf {v : VoteD} (h : v.wf) : v.bare.wf := ⟨h.chain, h.height, h.round, h.type, h.block, ⟨by simp [VoteD.bare], by simp [VoteD.bare]⟩, ⟨by simp [VoteD.bare], by simp [VoteD.bare]⟩, ⟨by simp [VoteD.bare], by simp [VoteD.bare]⟩⟩

theorem bare_world {v : VoteD} {w W : World} (hv : v.wf) (hrow : RowAt W w.heap.size 0 v.cells) (hb : Below w.heap.size w W) :
    ∃ W3, ((W.setCell ⟨w.heap.size, 36, none⟩ (.int .u64 0)).setCell ⟨w.heap.size, 37, none⟩ (.int .u64 0)).setCell ⟨w.heap.size, 38, none⟩ (.int .u64 0) = W3 ∧ RowAt W3 w.heap.size 0 v.bare.cells ∧ Below w.heap.size w W3 := by
  have hl := v.cells_length hv
  have h1 := ((hrow.set 36 (by omega) (.int .u64 0)).set 37 (by simp; omega) (.int .u64 0)).set 38 (by simp; omega) (.int .u64 0)
  simp only [Nat.zero_add] at h1
  refine ⟨_, rfl, ?_, ((hb.setCell (by simp) _).setCell (by simp) _).setCell (by simp) _⟩
  have e : ((v.cells.set 36 (.int .u64 0)).set 37 (.int .u64 0)).set 38 (.int .u64 0) = v.bare.cells := by
    unfold VoteD.cells VoteD.bare
    generalize hp : [Value.string v.chain, .int .i64 v.height, .int .i64 v.round, .int .i64 v.type] ++ Lib.byteCells v.block = p
    have hlen : p.length = 36 := by rw [← hp]; simp [Lib.byteCells_length, hv.block]
    rw [List.set_append_right _ _ (by omega), List.set_append_right _ _ (by omega), List.set_append_right _ _ (by omega), hlen]
    rfl
  rwa [e] at h1

theorem okVote_bare (v : VoteD) : okVote v.bare = okVote v := rfl

end Go.Proofs.Ytdegpapeanjboaa
