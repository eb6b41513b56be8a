/- Walks: forms.checkPacket, EncodePacket. Walks: forms.decode at api.Packet. Walks: forms.kind, DecodePacket. -/
import Derived.Test.YtlahdaanfhedoaaDoorForms
import Derived.Test.YtlahdaanfhedoaaDoorDecode
import Derived.Deep.Cut
import Derived.Deep.CutRange
namespace Go.Proofs.YtlahdaanfhedoaaDoor
open Go.RowKit
set_option maxRecDepth 100000

/-- a packet, as data -/
structure PacketD where
  seq : Int
  from_ : ByteArray
  data : ByteArray
  timeout : Int
structure PacketD.wf (v : PacketD) : Prop where
  seq : i64R v.seq
  from_ : v.from_.size ≤ maxLen
  data : v.data.size ≤ maxLen
  timeout : i64R v.timeout
def PacketD.cells (v : PacketD) : List Value := [.int .i64 v.seq, .string v.from_, .string v.data, .int .i64 v.timeout]
def PacketD.val (v : PacketD) : Value := .agg v.cells.toArray
theorem PacketD.cells_length (v : PacketD) (_h : v.wf) : v.cells.length = 4 := by simp [PacketD.cells]
theorem PacketD.size (v : PacketD) (h : v.wf) : (Tryd.prog.info? 23).map (·.size) = some v.cells.length := by
  rw [v.cells_length h]; kernel_rfl
/-- what is read of its row -/
structure PacketD.At (w : World) (m o : Nat) (v : PacketD) : Prop where
  row : RowAt w m o v.cells
  seq : w.cell? ⟨m, o + 0, none⟩ = some (.int .i64 v.seq)
  from_ : w.cell? ⟨m, o + 1, none⟩ = some (.string v.from_)
  data : w.cell? ⟨m, o + 2, none⟩ = some (.string v.data)
  timeout : w.cell? ⟨m, o + 3, none⟩ = some (.int .i64 v.timeout)
theorem PacketD.At.of_row {w : World} {m o : Nat} {v : PacketD} (_hv : v.wf) (h : RowAt w m o v.cells) : PacketD.At w m o v := by
  refine ⟨h, ?_, ?_, ?_, ?_⟩
  · exact h 0 _ (by simp [PacketD.cells])
  · exact h 1 _ (by simp [PacketD.cells])
  · exact h 2 _ (by simp [PacketD.cells])
  · exact h 3 _ (by simp [PacketD.cells])
theorem PacketD.At.below {B : Nat} {w w' : World} {m o : Nat} {v : PacketD} (h : PacketD.At w m o v) (hv : v.wf) (hb : Below B w w') (hm : m < B) : PacketD.At w' m o v := PacketD.At.of_row hv (h.row.below hb hm)
def okPacket (v : PacketD) : Bool := inR v.seq 1 1099511627776 && (nameL v.from_.data.toList && (decide (v.data.size ≤ 256) && (inR v.timeout 1 1099511627776)))
def encPacket (v : PacketD) : List UInt8 := be64 6 ++ be64 v.seq ++ textL v.from_ ++ textL v.data ++ be64 v.timeout
theorem okPacket_len {v : PacketD} (h : okPacket v = true) : v.from_.size ≤ 16 ∧ v.data.size ≤ 256 := by
  unfold okPacket at h; simp only [Bool.and_eq_true] at h
  have := (nameL_len h.2.1).2
  exact ⟨by simpa using this, of_decide_eq_true h.2.2.1⟩

set_option maxHeartbeats 1000000 in
theorem checkPacket_any (v : PacketD) (w : World) (hv : v.wf) : Calls Tryd.prog 31 #[v.val] w (RetB (okPacket v) w) := by
  unfold PacketD.val
  have A := PacketD.At.of_row hv (RowAt_box w v.cells 23)
  have c0 := A.seq; rw [Nat.zero_add] at c0; have c1 := A.from_; rw [Nat.zero_add] at c1; have c2 := A.data; rw [Nat.zero_add] at c2; have c3 := A.timeout; rw [Nat.zero_add] at c3
  have HA := Lib.hid A; have Hv := Lib.hid hv
  clear A hv
  go_enter Tryd.func31, Tryd.ntmps31
  have Hb := Lib.hid (below_box w (.cells v.cells.toArray 23))
  have HS := Lib.hid (show w.heap.size + 1 ≤ (w.alloc (.cells v.cells.toArray 23)).heap.size by simp)
  go_wp2_with fail
  cases h0 : inR v.seq 1 1099511627776
  · refine (within_f _ _ _ _ h0).mono ?_
    rintro e w' ⟨rfl, rfl⟩
    exact ⟨rfl, RetB.no (by simp only [okPacket, h0, Bool.false_and]) Hb.out⟩
  refine (within_t _ _ _ _ h0).mono ?_
  rintro e w' ⟨rfl, rfl⟩
  have H0 := Lib.hid h0; clear h0
  go_wp2_with fail
  cases h1 : nameL v.from_.data.toList
  · refine (name_no _ _ h1).mono ?_
    rintro e w1 ⟨rfl, hb⟩
    exact ⟨rfl, RetB.no (by simp only [okPacket, h1, Bool.and_false, Bool.false_and]) (Hb.out.trans (hb.mono (by have := HS.out; have := Hb.out.size; omega)))⟩
  refine (name_yes _ _ h1).mono ?_
  rintro e w1 ⟨rfl, hb⟩
  have A1 := HA.out.below Hv.out hb (by have := HS.out; omega)
  clear c0 c1 c2 c3
  have c0 := A1.seq; rw [Nat.zero_add] at c0; have c1 := A1.from_; rw [Nat.zero_add] at c1; have c2 := A1.data; rw [Nat.zero_add] at c2; have c3 := A1.timeout; rw [Nat.zero_add] at c3
  replace Hb := Lib.hid (Hb.out.trans (hb.mono (by have := HS.out; have := Hb.out.size; omega)))
  replace HS := Lib.hid (Nat.le_trans HS.out hb.size)
  replace HA := Lib.hid A1
  have H1 := Lib.hid h1; clear h1 A1 hb
  cases h2 : decide (v.data.size ≤ 256)
  · have g2 : decide ((v.data.size : Int) ≤ 256) = false := by have := of_decide_eq_false h2; simp; omega
    go_wp2_with fail
    refine (must_no _).mono ?_
    rintro e w' ⟨rfl, rfl⟩
    exact ⟨rfl, RetB.no (by simp only [okPacket, h2, Bool.and_false, Bool.false_and]) Hb.out⟩
  have g2 : decide ((v.data.size : Int) ≤ 256) = true := by have := of_decide_eq_true h2; simp; omega
  go_wp2_with fail
  refine (must_yes _).mono ?_
  rintro e w' ⟨rfl, rfl⟩
  have H2 := Lib.hid h2; clear h2 g2
  go_wp2_with fail
  cases h3 : inR v.timeout 1 1099511627776
  · refine (within_f _ _ _ _ h3).mono ?_
    rintro e w' ⟨rfl, rfl⟩
    exact ⟨rfl, RetB.no (by simp only [okPacket, h3, Bool.and_false]) Hb.out⟩
  refine (within_t _ _ _ _ h3).mono ?_
  rintro e w' ⟨rfl, rfl⟩
  have H3 := Lib.hid h3; clear h3
  go_wp2_with fail
  go_end0
  exact RetB.yes (by simp only [okPacket, H0.out, H1.out, H2.out, H3.out, Bool.and_self]) Hb.out

theorem checkPacket_yes (v : PacketD) (w : World) (hv : v.wf) (h : okPacket v = true) : Calls Tryd.prog 31 #[v.val] w fun e w' => e = .returned (.tuple #[]) ∧ Below w.heap.size w w' :=
  (checkPacket_any v w hv).mono fun e w' hp => by unfold RetB at hp; rw [h] at hp; exact hp
theorem checkPacket_no (v : PacketD) (w : World) (hv : v.wf) (h : okPacket v = false) : Calls Tryd.prog 31 #[v.val] w fun e w' => e = .panicked wrongP ∧ Below w.heap.size w w' :=
  (checkPacket_any v w hv).mono fun e w' hp => by unfold RetB at hp; rw [h] at hp; exact hp

set_option maxHeartbeats 1000000 in
theorem EncodePacketBody_yes (v : PacketD) (hv : v.wf) (h : okPacket v = true) (m B0 : Nat) (w : World) (hm : m < B0) (hA : PacketD.At w m 0 v) :
    Writes 30 #[.pointer (some ⟨m, 0, none⟩)] B0 w (encPacket v) false := by
  intro w1 b hW hbel hB0
  have HA := Lib.hid (hA.below hv hbel hm)
  have Hv := Lib.hid hv; have HW := Lib.hid hW; have H := Lib.hid h
  have hmb : m < b := by omega
  have Hrow := Lib.hid HA.out.row
  clear hA hv hW hbel h hm hB0
  go_enter Tryd.func30, Tryd.ntmps30
  go_wp2_with (refine wpList_load_part rfl 23 _ rfl m 0 rfl v.cells _ Hrow.out Tryd.underlying23 rfl (v.size Hv.out) ?_)
  refine (checkPacket_yes v _ Hv.out H.out).mono ?_
  rintro e w2 ⟨rfl, hb⟩
  have HS := Lib.hid ((St.start HW.out).over hb)
  replace HA := Lib.hid (HA.out.below Hv.out hb (by have := HW.out.lt; omega))
  clear hb
  go_wp2_with fail
  refine (Number_st HS.out (by omega) _).mono ?_
  rintro e w' ⟨rfl, k1, k2⟩
  replace HA := Lib.hid (HA.out.below Hv.out k2.1 hmb); replace HS := Lib.hid k1; clear k1 k2
  have c := HA.out.seq; rw [Nat.zero_add] at c
  go_wp2_with fail
  refine (Number_st HS.out (by omega) _).mono ?_
  rintro e w' ⟨rfl, k1, k2⟩
  replace HA := Lib.hid (HA.out.below Hv.out k2.1 hmb); replace HS := Lib.hid k1; clear k1 k2 c
  have c := HA.out.from_; rw [Nat.zero_add] at c
  go_wp2_with fail
  refine (Text_st HS.out (by omega) _ 16 ((okPacket_len H.out).1) (by omega)).mono ?_
  rintro e w' ⟨rfl, k1, k2⟩
  replace HA := Lib.hid (HA.out.below Hv.out k2.1 hmb); replace HS := Lib.hid k1; clear k1 k2 c
  have c := HA.out.data; rw [Nat.zero_add] at c
  go_wp2_with fail
  refine (Text_st HS.out (by omega) _ 256 ((okPacket_len H.out).2) (by omega)).mono ?_
  rintro e w' ⟨rfl, k1, k2⟩
  replace HA := Lib.hid (HA.out.below Hv.out k2.1 hmb); replace HS := Lib.hid k1; clear k1 k2 c
  have c := HA.out.timeout; rw [Nat.zero_add] at c
  go_wp2_with fail
  refine (Number_st HS.out (by omega) _).mono ?_
  rintro e w' ⟨rfl, k1, k2⟩
  replace HA := Lib.hid (HA.out.below Hv.out k2.1 hmb); replace HS := Lib.hid k1; clear k1 k2 c
  go_wp2_with fail
  go_end0
  exact ⟨rfl, HS.out.isW, HS.out.bel⟩

set_option maxHeartbeats 400000 in
theorem EncodePacketBody_no (v : PacketD) (hv : v.wf) (h : okPacket v = false) (m B0 : Nat) (w : World) (hm : m < B0) (hA : PacketD.At w m 0 v) :
    Throws 30 #[.pointer (some ⟨m, 0, none⟩)] B0 w := by
  intro w1 b hW hbel hB0
  have A := hA.below hv hbel hm
  have Hv := Lib.hid hv; have H := Lib.hid h; have HW := Lib.hid hW
  have Hrow := Lib.hid A.row
  clear hA A hv hW hbel h hm hB0
  go_enter Tryd.func30, Tryd.ntmps30
  go_wp2_with (refine wpList_load_part rfl 23 _ rfl m 0 rfl v.cells _ Hrow.out Tryd.underlying23 rfl (v.size Hv.out) ?_)
  refine (checkPacket_no v _ Hv.out H.out).mono ?_
  rintro e w2 ⟨rfl, hb⟩
  exact ⟨rfl, rfl, hb.mono (by have := HW.out.lt; omega)⟩

theorem encPacket_pos (v : PacketD) : 0 < (encPacket v).length := by simp [encPacket, be64_length]; omega
theorem encPacket_len (v : PacketD) (_hv : v.wf) (h : okPacket v = true) : (encPacket v).length ≤ 1000 := by
  have := okPacket_len h
  simp [encPacket, be64_length, textL_length]; omega

set_option maxHeartbeats 400000 in
theorem EncodePacket_yes (v : PacketD) (w : World) (hv : v.wf) (h : okPacket v = true) : Calls Tryd.prog 17 #[v.val] w (Gives (encPacket v) w) := by
  have hmf : ∀ (fn : Fn) (first cap : Array Value) (w : World), (Instr.makeFunc fn first cap).run Tryd.prog w = .ok (.func fn first cap) w := fun _ _ _ _ => rfl
  have C := Lib.hid (encode_yes 30 #[.pointer (some ⟨w.heap.size, 0, none⟩)] (encPacket v) (w.alloc (.cells v.cells.toArray 23)) (enters Tryd.func30 (by kernel_rfl) rfl)
    (EncodePacketBody_yes v hv h w.heap.size _ _ (by simp) (PacketD.At.of_row hv (RowAt_box w v.cells _))) (encPacket_pos v) (by have := encPacket_len v hv h; omega))
  unfold PacketD.val
  clear hv h
  go_enter Tryd.func17, Tryd.ntmps17
  go_wp2_with (go_at_call 29; refine C.out.mono ?_; rintro e w1 ⟨sl, rfl, k1, k2⟩)
  go_ret2
  obtain ⟨a, n, c, rfl⟩ := k1.shape
  exact ⟨a, n, c, rfl, k1.mono (by simp), (below_box w _).trans (k2.mono (by simp))⟩

set_option maxHeartbeats 400000 in
theorem EncodePacket_no (v : PacketD) (w : World) (hv : v.wf) (h : okPacket v = false) : Calls Tryd.prog 17 #[v.val] w (Fails w) := by
  have hmf : ∀ (fn : Fn) (first cap : Array Value) (w : World), (Instr.makeFunc fn first cap).run Tryd.prog w = .ok (.func fn first cap) w := fun _ _ _ _ => rfl
  have C := Lib.hid (encode_no 30 #[.pointer (some ⟨w.heap.size, 0, none⟩)] (w.alloc (.cells v.cells.toArray 23)) (enters Tryd.func30 (by kernel_rfl) rfl)
    (EncodePacketBody_no v hv h w.heap.size _ _ (by simp) (PacketD.At.of_row hv (RowAt_box w v.cells _))))
  unfold PacketD.val
  clear hv h
  go_enter Tryd.func17, Tryd.ntmps17
  go_wp2_with (go_at_call 29; refine C.out.mono ?_; rintro e w1 ⟨rfl, k2⟩)
  go_ret2
  exact ⟨rfl, (below_box w _).trans (k2.mono (by simp))⟩

/-- the zero value's cells -/
def ZPacket : List Value := [.int .i64 0, .string ⟨#[]⟩, .string ⟨#[]⟩, .int .i64 0]
theorem ZPacket_info : (Tryd.prog.info? 23).map (fun i => i.zero.map (fun v => v.cells)) = some (some ZPacket.toArray) := by kernel_rfl
theorem ZPacket_length : ZPacket.length = 4 := by rfl
theorem sizePacket (cs : List Value) (h : cs.length = 4) : (Tryd.prog.info? 23).map (·.size) = some cs.length := by rw [h]; kernel_rfl
theorem ZPacket_one : ∀ v ∈ ZPacket, v.oneCell' = true := fun v hv => List.all_eq_true.1 (show ZPacket.all (·.oneCell') = true by kernel_rfl) v hv

/-- what stands next, read as a packet; behind its kind -/
def rdPacket (s0 : RS) : PacketD × RS :=
  ({ seq := (rdNum s0).1, from_ := ⟨(rdText (rdNum s0).2).1.toArray⟩, data := ⟨(rdText (rdText (rdNum s0).2).2).1.toArray⟩, timeout := (rdNum (rdText (rdText (rdNum s0).2).2).2).1 },
   (rdNum (rdText (rdText (rdNum s0).2).2).2).2)
/-- the packet that bytes are -/
def decPacket (l : List UInt8) : Option PacketD :=
  if (rdNum (some l)).1 = 6 ∧ (rdPacket (rdNum (some l)).2).2 = some [] ∧ okPacket (rdPacket (rdNum (some l)).2).1 = true then some (rdPacket (rdNum (some l)).2).1 else none

theorem wrap64_R (n : Int) : i64R (wrap64 n) := by unfold i64R wrap64; omega
theorem rdNum_R (st : RS) : i64R (rdNum st).1 := wrap64_R _
theorem rdText_len (st : RS) : (rdText st).1.length ≤ 4096 := by
  unfold rdText
  cases st with
  | none => simp
  | some l =>
    dsimp only
    split
    · rename_i h; rw [List.length_take]; omega
    · simp
theorem str_ok {l : List UInt8} (h : l.length ≤ 4096) : (⟨l.toArray⟩ : ByteArray).size ≤ maxLen := by
  show l.toArray.size ≤ _
  rw [List.size_toArray]; unfold maxLen; omega
theorem rdPacket_wf (s : RS) : (rdPacket s).1.wf := ⟨rdNum_R _, str_ok (rdText_len _), str_ok (rdText_len _), rdNum_R _⟩

theorem enters_checkPacket : ∀ args w, (callFunc 31 args).run Tryd.prog w = .ok (.enter 31 args) w := enters Tryd.func31 (by kernel_rfl) rfl

theorem decPacket_t (l : List UInt8) (hk : (rdNum (some l)).1 = 6) (h : (decide ((rdPacket (rdNum (some l)).2).2 = some []) && okPacket (rdPacket (rdNum (some l)).2).1) = true) : (decPacket l).map PacketD.cells = some (rdPacket (rdNum (some l)).2).1.cells := by
  rw [Bool.and_eq_true] at h
  unfold decPacket
  rw [if_pos ⟨hk, of_decide_eq_true h.1, h.2⟩]; rfl
theorem decPacket_f (l : List UInt8) (h : (decide ((rdPacket (rdNum (some l)).2).2 = some []) && okPacket (rdPacket (rdNum (some l)).2).1) = false) : (decPacket l).map PacketD.cells = none := by
  unfold decPacket
  rw [if_neg]; · rfl
  intro hc
  rw [hc.2.2, decide_eq_true hc.2.1] at h
  cases h
theorem decPacket_k (l : List UInt8) (hk : (rdNum (some l)).1 ≠ 6) : (decPacket l).map PacketD.cells = none := by
  unfold decPacket
  rw [if_neg (fun h => hk h.1)]; rfl

end Go.Proofs.YtlahdaanfhedoaaDoor
