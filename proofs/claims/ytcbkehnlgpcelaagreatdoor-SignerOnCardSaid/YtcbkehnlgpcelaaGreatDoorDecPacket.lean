/- Walks: forms.checkPacket, EncodePacket. Walks: forms.decode at api.Packet. Walks: forms.kind, DecodePacket. -/
import Derived.Test.YtcbkehnlgpcelaaGreatDoorForms
import Derived.Test.YtcbkehnlgpcelaaGreatDoorDecode
import Derived.Deep.Cut
import Derived.Deep.CutRange
namespace Go.Proofs.YtcbkehnlgpcelaaGreatDoor
open Go.RowKit
set_option maxRecDepth 100000

/-- a packet, as data -/
structure PacketD where
  seq : Int
  from_ : ByteArray
  data : ByteArray
  timeout : Int
structure PacketD.wf (v : PacketD) : Prop where
  seq : i64R v.seq
  from_ : v.from_.size ≤ maxLen
  data : v.data.size ≤ maxLen
  timeout : i64R v.timeout
def PacketD.cells (v : PacketD) : List Value := [.int .i64 v.seq, .string v.from_, .string v.data, .int .i64 v.timeout]
def PacketD.val (v : PacketD) : Value := .agg v.cells.toArray
theorem PacketD.cells_length (v : PacketD) (_h : v.wf) : v.cells.length = 4 := by simp [PacketD.cells]
/-- what is read of its row -/
structure PacketD.At (w : World) (m o : Nat) (v : PacketD) : Prop where
  row : RowAt w m o v.cells
  seq : w.cell? ⟨m, o + 0, none⟩ = some (.int .i64 v.seq)
  from_ : w.cell? ⟨m, o + 1, none⟩ = some (.string v.from_)
  data : w.cell? ⟨m, o + 2, none⟩ = some (.string v.data)
  timeout : w.cell? ⟨m, o + 3, none⟩ = some (.int .i64 v.timeout)
theorem PacketD.At.of_row {w : World} {m o : Nat} {v : PacketD} (_hv : v.wf) (h : RowAt w m o v.cells) : PacketD.At w m o v := by
  refine ⟨h, ?_, ?_, ?_, ?_⟩
  · exact h 0 _ (by simp [PacketD.cells])
  · exact h 1 _ (by simp [PacketD.cells])
  · exact h 2 _ (by simp [PacketD.cells])
  · exact h 3 _ (by simp [PacketD.cells])
theorem PacketD.At.below {B : Nat} {w w' : World} {m o : Nat} {v : PacketD} (h : PacketD.At w m o v) (hv : v.wf) (hb : Below B w w') (hm : m < B) : PacketD.At w' m o v := PacketD.At.of_row hv (h.row.below hb hm)
def okPacket (v : PacketD) : Bool := inR v.seq 1 1099511627776 && (nameL v.from_.data.toList && (decide (v.data.size ≤ 256) && (inR v.timeout 1 1099511627776)))
def encPacket (v : PacketD) : List UInt8 := be64 6 ++ be64 v.seq ++ textL v.from_ ++ textL v.data ++ be64 v.timeout
theorem okPacket_len {v : PacketD} (h : okPacket v = true) : v.from_.size ≤ 16 ∧ v.data.size ≤ 256 := by
  unfold okPacket at h; simp only [Bool.and_eq_true] at h
  have := (nameL_len h.2.1).2
  exact ⟨by simpa using this, of_decide_eq_true h.2.2.1⟩

theorem encPacket_pos (v : PacketD) : 0 < (encPacket v).length := by simp [encPacket, be64_length]; omega
theorem encPacket_len (v : PacketD) (_hv : v.wf) (h : okPacket v = true) : (encPacket v).length ≤ 1000 := by
  have := okPacket_len h
  simp [encPacket, be64_length, textL_length]; omega

/-- the zero value's cells -/
def ZPacket : List Value := [.int .i64 0, .string ⟨#[]⟩, .string ⟨#[]⟩, .int .i64 0]
theorem ZPacket_length : ZPacket.length = 4 := by rfl
theorem ZPacket_one : ∀ v ∈ ZPacket, v.oneCell' = true := fun v hv => List.all_eq_true.1 (show ZPacket.all (·.oneCell') = true by kernel_rfl) v hv

set_option maxHeartbeats 400000 in
theorem kind_yes (p : Nat) (k : Int) (st : RS) (w : World) (h : IsR w p st) (hk : (rdNum st).1 = k) :
    Calls Tryz.prog 95 #[.pointer (some ⟨p, 0, none⟩), .int .i64 k] w fun e w' => e = .returned (.tuple #[]) ∧ IsR w' p (rdNum st).2 ∧ w.grownBy w' (some p) := by
  have C := Lib.hid (RNumber p st w h)
  have q : ((rdNum st).1 == k) = true := by simp [hk]
  generalize hx : rdNum st = x at *
  clear h hk hx
  go_enter Tryz.func95, Tryz.ntmps95
  go_wp2_with (first | (go_at_call 97; refine C.out.mono ?_; rintro e w' ⟨rfl, h1, h2⟩) | (go_at_call 75; refine (must_yes _).mono ?_; rintro e w' ⟨rfl, rfl⟩))
  go_end0
  exact ⟨rfl, h1, h2⟩
set_option maxHeartbeats 400000 in
theorem kind_no (p : Nat) (k : Int) (st : RS) (w : World) (h : IsR w p st) (hk : (rdNum st).1 ≠ k) :
    Calls Tryz.prog 95 #[.pointer (some ⟨p, 0, none⟩), .int .i64 k] w fun e w' => e = .panicked wrongP ∧ w.grownBy w' (some p) := by
  have C := Lib.hid (RNumber p st w h)
  have q : ((rdNum st).1 == k) = false := by simp [hk]
  generalize hx : rdNum st = x at *
  clear h hk hx
  go_enter Tryz.func95, Tryz.ntmps95
  go_wp2_with (first | (go_at_call 97; refine C.out.mono ?_; rintro e w' ⟨rfl, h1, h2⟩) | (go_at_call 75; refine (must_no _).mono ?_; rintro e w' ⟨rfl, rfl⟩))
  exact ⟨rfl, rfl, h2⟩

/-- what stands next, read as a packet; behind its kind -/
def rdPacket (s0 : RS) : PacketD × RS :=
  ({ seq := (rdNum s0).1, from_ := ⟨(rdText (rdNum s0).2).1.toArray⟩, data := ⟨(rdText (rdText (rdNum s0).2).2).1.toArray⟩, timeout := (rdNum (rdText (rdText (rdNum s0).2).2).2).1 },
   (rdNum (rdText (rdText (rdNum s0).2).2).2).2)
/-- the packet that bytes are -/
def decPacket (l : List UInt8) : Option PacketD :=
  if (rdNum (some l)).1 = 6 ∧ (rdPacket (rdNum (some l)).2).2 = some [] ∧ okPacket (rdPacket (rdNum (some l)).2).1 = true then some (rdPacket (rdNum (some l)).2).1 else none

theorem wrap64_R (n : Int) : i64R (wrap64 n) := by unfold i64R wrap64; omega
theorem rdNum_R (st : RS) : i64R (rdNum st).1 := wrap64_R _
theorem rdText_len (st : RS) : (rdText st).1.length ≤ 4096 := by
  unfold rdText
  cases st with
  | none => simp
  | some l =>
    dsimp only
    split
    · rename_i h; rw [List.length_take]; omega
    · simp
theorem str_ok {l : List UInt8} (h : l.length ≤ 4096) : (⟨l.toArray⟩ : ByteArray).size ≤ maxLen := by
  show l.toArray.size ≤ _
  rw [List.size_toArray]; unfold maxLen; omega
theorem rdPacket_wf (s : RS) : (rdPacket s).1.wf := ⟨rdNum_R _, str_ok (rdText_len _), str_ok (rdText_len _), rdNum_R _⟩

theorem decPacket_t (l : List UInt8) (hk : (rdNum (some l)).1 = 6) (h : (decide ((rdPacket (rdNum (some l)).2).2 = some []) && okPacket (rdPacket (rdNum (some l)).2).1) = true) : (decPacket l).map PacketD.cells = some (rdPacket (rdNum (some l)).2).1.cells := by
  rw [Bool.and_eq_true] at h
  unfold decPacket
  rw [if_pos ⟨hk, of_decide_eq_true h.1, h.2⟩]; rfl
theorem decPacket_f (l : List UInt8) (h : (decide ((rdPacket (rdNum (some l)).2).2 = some []) && okPacket (rdPacket (rdNum (some l)).2).1) = false) : (decPacket l).map PacketD.cells = none := by
  unfold decPacket
  rw [if_neg]; · rfl
  intro hc
  rw [hc.2.2, decide_eq_true hc.2.1] at h
  cases h
theorem decPacket_k (l : List UInt8) (hk : (rdNum (some l)).1 ≠ 6) : (decPacket l).map PacketD.cells = none := by
  unfold decPacket
  rw [if_neg (fun h => hk h.1)]; rfl

end Go.Proofs.YtcbkehnlgpcelaaGreatDoor
