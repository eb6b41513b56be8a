/- Walks: forms.checkPacket, EncodePacket. Walks: forms.decode at api.Packet. Walks: forms.kind, DecodePacket. -/
import Derived.Test.YtdhchehagfmjcaaGreatDoorForms
import Derived.Test.YtdhchehagfmjcaaGreatDoorDecode
import Derived.Deep.Cut
import Derived.Deep.CutRange
namespace Go.Proofs.YtdhchehagfmjcaaGreatDoor
open Go.RowKit
set_option maxRecDepth 100000

/-- a packet, as data -/
structure PacketD where
  seq : Int
  from_ : ByteArray
  data : ByteArray
  timeout : Int
structure PacketD.wf (v : PacketD) : Prop where
  seq : i64R v.seq
  from_ : v.from_.size ≤ maxLen
  data : v.data.size ≤ maxLen
  timeout : i64R v.timeout
def PacketD.cells (v : PacketD) : List Value := [.int .i64 v.seq, .string v.from_, .string v.data, .int .i64 v.timeout]
def PacketD.val (v : PacketD) : Value := .agg v.cells.toArray
theorem PacketD.cells_length (v : PacketD) (_h : v.wf) : v.cells.length = 4 := by simp [PacketD.cells]
/-- what is read of its row -/
structure PacketD.At (w : World) (m o : Nat) (v : PacketD) : Prop where
  row : RowAt w m o v.cells
  seq : w.cell? ⟨m, o + 0, none⟩ = some (.int .i64 v.seq)
  from_ : w.cell? ⟨m, o + 1, none⟩ = some (.string v.from_)
  data : w.cell? ⟨m, o + 2, none⟩ = some (.string v.data)
  timeout : w.cell? ⟨m, o + 3, none⟩ = some (.int .i64 v.timeout)
theorem PacketD.At.of_row {w : World} {m o : Nat} {v : PacketD} (_hv : v.wf) (h : RowAt w m o v.cells) : PacketD.At w m o v := by
  refine ⟨h, ?_, ?_, ?_, ?_⟩
  · exact h 0 _ (by simp [PacketD.cells])
  · exact h 1 _ (by simp [PacketD.cells])
  · exact h 2 _ (by simp [PacketD.cells])
  · exact h 3 _ (by simp [PacketD.cells])
theorem PacketD.At.below {B : Nat} {w w' : World} {m o : Nat} {v : PacketD} (h : PacketD.At w m o v) (hv : v.wf) (hb : Below B w w') (hm : m < B) : PacketD.At w' m o v := PacketD.At.of_row hv (h.row.below hb hm)
end Go.Proofs.YtdhchehagfmjcaaGreatDoor
