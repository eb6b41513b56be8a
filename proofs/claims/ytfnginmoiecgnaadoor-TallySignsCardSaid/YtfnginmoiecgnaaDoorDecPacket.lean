/- Walks: forms.decode at api.Packet. Walks: forms.kind, DecodePacket. -/
import Derived.Test.YtfnginmoiecgnaaDoorDecode
import Derived.Deep.Cut
import Derived.Deep.CutRange
import Derived.Test.YtfnginmoiecgnaaDoorPacket
namespace Go.Proofs.YtfnginmoiecgnaaDoor
open Go.RowKit
set_option maxRecDepth 100000

/-- the zero value's cells -/
def ZPacket : List Value := [.int .i64 0, .string ⟨#[]⟩, .string ⟨#[]⟩, .int .i64 0]
theorem ZPacket_length : ZPacket.length = 4 := by rfl
theorem ZPacket_one : ∀ v ∈ ZPacket, v.oneCell' = true := fun v hv => List.all_eq_true.1 (show ZPacket.all (·.oneCell') = true by kernel_rfl) v hv

/-- what stands next, read as a packet; behind its kind -/
def rdPacket (s0 : RS) : PacketD × RS :=
  ({ seq := (rdNum s0).1, from_ := ⟨(rdText (rdNum s0).2).1.toArray⟩, data := ⟨(rdText (rdText (rdNum s0).2).2).1.toArray⟩, timeout := (rdNum (rdText (rdText (rdNum s0).2).2).2).1 },
   (rdNum (rdText (rdText (rdNum s0).2).2).2).2)
/-- the packet that bytes are -/
def decPacket (l : List UInt8) : Option PacketD :=
  if (rdNum (some l)).1 = 6 ∧ (rdPacket (rdNum (some l)).2).2 = some [] ∧ okPacket (rdPacket (rdNum (some l)).2).1 = true then some (rdPacket (rdNum (some l)).2).1 else none

theorem wrap64_R (n : Int) : i64R (wrap64 n) := by unfold i64R wrap64; omega
theorem rdNum_R (st : RS) : i64R (rdNum st).1 := wrap64_R _
theorem rdText_len (st : RS) : (rdText st).1.length ≤ 4096 := by
  unfold rdText
  cases st with
  | none => simp
  | some l =>
    dsimp only
    split
    · rename_i h; rw [List.length_take]; omega
    · simp
theorem str_ok {l : List UInt8} (h : l.length ≤ 4096) : (⟨l.toArray⟩ : ByteArray).size ≤ maxLen := by
  show l.toArray.size ≤ _
  rw [List.size_toArray]; unfold maxLen; omega
theorem rdPacket_wf (s : RS) : (rdPacket s).1.wf := ⟨rdNum_R _, str_ok (rdText_len _), str_ok (rdText_len _), rdNum_R _⟩

theorem decPacket_t (l : List UInt8) (hk : (rdNum (some l)).1 = 6) (h : (decide ((rdPacket (rdNum (some l)).2).2 = some []) && okPacket (rdPacket (rdNum (some l)).2).1) = true) : (decPacket l).map PacketD.cells = some (rdPacket (rdNum (some l)).2).1.cells := by
  rw [Bool.and_eq_true] at h
  unfold decPacket
  rw [if_pos ⟨hk, of_decide_eq_true h.1, h.2⟩]; rfl
theorem decPacket_f (l : List UInt8) (h : (decide ((rdPacket (rdNum (some l)).2).2 = some []) && okPacket (rdPacket (rdNum (some l)).2).1) = false) : (decPacket l).map PacketD.cells = none := by
  unfold decPacket
  rw [if_neg]; · rfl
  intro hc
  rw [hc.2.2, decide_eq_true hc.2.1] at h
  cases h
theorem decPacket_k (l : List UInt8) (hk : (rdNum (some l)).1 ≠ 6) : (decPacket l).map PacketD.cells = none := by
  unfold decPacket
  rw [if_neg (fun h => hk h.1)]; rfl

end Go.Proofs.YtfnginmoiecgnaaDoor
