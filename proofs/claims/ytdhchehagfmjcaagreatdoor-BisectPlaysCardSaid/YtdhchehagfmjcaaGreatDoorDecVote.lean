import Derived.Test.YtdhchehagfmjcaaGreatDoorForms
import Derived.Deep.Cut
import Derived.Deep.CutRange
import Derived.Test.YtdhchehagfmjcaaGreatDoorDecode
import Derived.Test.YtdhchehagfmjcaaGreatDoorBuild
import Derived.Test.YtdhchehagfmjcaaGreatDoorReadH
import Derived.Test.YtdhchehagfmjcaaGreatDoorDecPacket
namespace Go.Proofs.YtdhchehagfmjcaaGreatDoor
open Go.RowKit
set_option maxRecDepth 100000
structure VoteD where
 chain : ByteArray
 height : Int
 round : Int
 type : Int
 block : List UInt8
 key : Int
 r : Int
 s : Int
structure VoteD.wf (v : VoteD) : Prop where
 chain : v.chain.size ≤ maxLen
 height : i64R v.height
 round : i64R v.round
 type : i64R v.type
 block : v.block.length = 32
 key : u64R v.key
 r : u64R v.r
 s : u64R v.s
def VoteD.cells (v : VoteD) : List Value := [.string v.chain, .int .i64 v.height, .int .i64 v.round, .int .i64 v.type] ++ Lib.byteCells v.block ++ [.int .u64 v.key, .int .u64 v.r, .int .u64 v.s]
def VoteD.val (v : VoteD) : Value := .agg v.cells.toArray
theorem VoteD.cells_length (v : VoteD) (h : v.wf) : v.cells.length = 39 := by simp [VoteD.cells, Lib.byteCells_length, h.block]
theorem VoteD.size (v : VoteD) (h : v.wf) : (Tryz.prog.info? 54).map (·.size) = some v.cells.length := by
 rw [v.cells_length h]; kernel_rfl
structure VoteD.At (w : World) (m o : Nat) (v : VoteD) : Prop where
 row : RowAt w m o v.cells
 chain : w.cell? ⟨m, o + 0, none⟩ = some (.string v.chain)
 height : w.cell? ⟨m, o + 1, none⟩ = some (.int .i64 v.height)
 round : w.cell? ⟨m, o + 2, none⟩ = some (.int .i64 v.round)
 type : w.cell? ⟨m, o + 3, none⟩ = some (.int .i64 v.type)
 block : RowAt w m (o + 4) (Lib.byteCells v.block)
 key : w.cell? ⟨m, o + 36, none⟩ = some (.int .u64 v.key)
 r : w.cell? ⟨m, o + 37, none⟩ = some (.int .u64 v.r)
 s : w.cell? ⟨m, o + 38, none⟩ = some (.int .u64 v.s)
theorem VoteD.At.of_row {w : World} {m o : Nat} {v : VoteD} (hv : v.wf) (h : RowAt w m o v.cells) : VoteD.At w m o v := by
 refine ⟨h, ?_, ?_, ?_, ?_, ?_, ?_, ?_, ?_⟩
 ·exact h 0 _ (by simp [VoteD.cells, Lib.byteCells_length, hv.block])
 ·exact h 1 _ (by simp [VoteD.cells, Lib.byteCells_length, hv.block])
 ·exact h 2 _ (by simp [VoteD.cells, Lib.byteCells_length, hv.block])
 ·exact h 3 _ (by simp [VoteD.cells, Lib.byteCells_length, hv.block])
 ·have e : (v.cells.drop 4).take 32 = Lib.byteCells v.block := by simp [VoteD.cells, List.drop_append, Lib.byteCells_length, hv.block]
  exact e ▸ h.part 4 32
 ·exact h 36 _ (by simp [VoteD.cells, Lib.byteCells_length, hv.block])
 ·exact h 37 _ (by simp [VoteD.cells, Lib.byteCells_length, hv.block])
 ·exact h 38 _ (by simp [VoteD.cells, Lib.byteCells_length, hv.block])
theorem VoteD.At.below {B : Nat} {w w' : World} {m o : Nat} {v : VoteD} (h : VoteD.At w m o v) (hv : v.wf) (hb : Below B w w') (hm : m < B) : VoteD.At w' m o v := VoteD.At.of_row hv (h.row.below hb hm)
def okVote (v : VoteD) : Bool := nameL v.chain.data.toList && (inR v.height 1 1099511627776 && (inR v.round 0 1048576 && (inR v.type 1 2)))
def encVote (v : VoteD) : List UInt8 := be64 1 ++ textL v.chain ++ be64 v.height ++ be64 v.round ++ be64 v.type ++ v.block ++ be64 v.key ++ be64 v.r ++ be64 v.s
theorem okVote_len {v : VoteD} (h : okVote v = true) : v.chain.size ≤ 16 := by
 unfold okVote at h; simp only [Bool.and_eq_true] at h
 have := (nameL_len h.1).2
 simpa using this
set_option maxHeartbeats 1000000 in
theorem checkVote_any (v : VoteD) (w : World) (hv : v.wf) : Calls Tryz.prog 190 #[v.val] w (RetB (okVote v) w) := by
 unfold VoteD.val
 have A := VoteD.At.of_row hv (RowAt_box w v.cells 54)
 have c0 := A.chain; rw [Nat.zero_add] at c0; have c1 := A.height; rw [Nat.zero_add] at c1; have c2 := A.round; rw [Nat.zero_add] at c2; have c3 := A.type; rw [Nat.zero_add] at c3
 have HA := Lib.hid A; have Hv := Lib.hid hv
 clear A hv
 go_enter Tryz.func190, Tryz.ntmps190
 have Hb := Lib.hid (below_box w (.cells v.cells.toArray 54))
 have HS := Lib.hid (show w.heap.size + 1 ≤ (w.alloc (.cells v.cells.toArray 54)).heap.size by simp)
 go_wp2_with fail
 cases h0 : nameL v.chain.data.toList
 ·refine (name_no _ _ h0).mono ?_
  rintro e w1 ⟨rfl, hb⟩
  exact ⟨rfl, RetB.no (by simp only [okVote, h0, Bool.false_and]) (Hb.out.trans (hb.mono (by have := HS.out; have := Hb.out.size; omega)))⟩
 refine (name_yes _ _ h0).mono ?_
 rintro e w1 ⟨rfl, hb⟩
 have A1 := HA.out.below Hv.out hb (by have := HS.out; omega)
 clear c0 c1 c2 c3
 have c0 := A1.chain; rw [Nat.zero_add] at c0; have c1 := A1.height; rw [Nat.zero_add] at c1; have c2 := A1.round; rw [Nat.zero_add] at c2; have c3 := A1.type; rw [Nat.zero_add] at c3
 replace Hb := Lib.hid (Hb.out.trans (hb.mono (by have := HS.out; have := Hb.out.size; omega)))
 replace HS := Lib.hid (Nat.le_trans HS.out hb.size)
 replace HA := Lib.hid A1
 have H0 := Lib.hid h0; clear h0 A1 hb
 go_wp2_with fail
 cases h1 : inR v.height 1 1099511627776
 ·refine (within_f _ _ _ _ h1).mono ?_
  rintro e w' ⟨rfl, rfl⟩
  exact ⟨rfl, RetB.no (by simp only [okVote, h1, Bool.and_false, Bool.false_and]) Hb.out⟩
 refine (within_t _ _ _ _ h1).mono ?_
 rintro e w' ⟨rfl, rfl⟩
 have H1 := Lib.hid h1; clear h1
 go_wp2_with fail
 cases h2 : inR v.round 0 1048576
 ·refine (within_f _ _ _ _ h2).mono ?_
  rintro e w' ⟨rfl, rfl⟩
  exact ⟨rfl, RetB.no (by simp only [okVote, h2, Bool.and_false, Bool.false_and]) Hb.out⟩
 refine (within_t _ _ _ _ h2).mono ?_
 rintro e w' ⟨rfl, rfl⟩
 have H2 := Lib.hid h2; clear h2
 go_wp2_with fail
 cases h3 : inR v.type 1 2
 ·refine (within_f _ _ _ _ h3).mono ?_
  rintro e w' ⟨rfl, rfl⟩
  exact ⟨rfl, RetB.no (by simp only [okVote, h3, Bool.and_false]) Hb.out⟩
 refine (within_t _ _ _ _ h3).mono ?_
 rintro e w' ⟨rfl, rfl⟩
 have H3 := Lib.hid h3; clear h3
 go_wp2_with fail
 go_end0
 exact RetB.yes (by simp only [okVote, H0.out, H1.out, H2.out, H3.out, Bool.and_self]) Hb.out
theorem checkVote_yes (v : VoteD) (w : World) (hv : v.wf) (h : okVote v = true) : Calls Tryz.prog 190 #[v.val] w fun e w' => e = .returned (.tuple #[]) ∧ Below w.heap.size w w' :=
 (checkVote_any v w hv).mono fun e w' hp => by unfold RetB at hp; rw [h] at hp; exact hp
theorem checkVote_no (v : VoteD) (w : World) (hv : v.wf) (h : okVote v = false) : Calls Tryz.prog 190 #[v.val] w fun e w' => e = .panicked wrongP ∧ Below w.heap.size w w' :=
 (checkVote_any v w hv).mono fun e w' hp => by unfold RetB at hp; rw [h] at hp; exact hp
set_option maxHeartbeats 1000000 in
theorem EncodeVoteBody_yes (v : VoteD) (hv : v.wf) (h : okVote v = true) (m B0 : Nat) (w : World) (hm : m < B0) (hA : VoteD.At w m 0 v) :
  Writes 189 #[.pointer (some ⟨m, 0, none⟩)] B0 w (encVote v) false := by
 intro w1 b hW hbel hB0
 have HA := Lib.hid (hA.below hv hbel hm)
 have Hv := Lib.hid hv; have HW := Lib.hid hW; have H := Lib.hid h
 have hmb : m < b := by omega
 have Hrow := Lib.hid HA.out.row
 clear hA hv hW hbel h hm hB0
 go_enter Tryz.func189, Tryz.ntmps189
 go_wp2_with (refine wpList_load_part rfl 54 _ rfl m 0 rfl v.cells _ Hrow.out Tryz.underlying54 rfl (v.size Hv.out) ?_)
 refine (checkVote_yes v _ Hv.out H.out).mono ?_
 rintro e w2 ⟨rfl, hb⟩
 have HS := Lib.hid ((St.start HW.out).over hb)
 replace HA := Lib.hid (HA.out.below Hv.out hb (by have := HW.out.lt; omega))
 clear hb
 go_wp2_with fail
 refine (Number_st HS.out (by omega) _).mono ?_
 rintro e w' ⟨rfl, k1, k2⟩
 replace HA := Lib.hid (HA.out.below Hv.out k2.1 hmb); replace HS := Lib.hid k1; clear k1 k2
 have c := HA.out.chain; rw [Nat.zero_add] at c
 go_wp2_with fail
 refine (Text_st HS.out (by omega) _ 16 (okVote_len H.out) (by omega)).mono ?_
 rintro e w' ⟨rfl, k1, k2⟩
 replace HA := Lib.hid (HA.out.below Hv.out k2.1 hmb); replace HS := Lib.hid k1; clear k1 k2 c
 have c := HA.out.height; rw [Nat.zero_add] at c
 go_wp2_with fail
 refine (Number_st HS.out (by omega) _).mono ?_
 rintro e w' ⟨rfl, k1, k2⟩
 replace HA := Lib.hid (HA.out.below Hv.out k2.1 hmb); replace HS := Lib.hid k1; clear k1 k2 c
 have c := HA.out.round; rw [Nat.zero_add] at c
 go_wp2_with fail
 refine (Number_st HS.out (by omega) _).mono ?_
 rintro e w' ⟨rfl, k1, k2⟩
 replace HA := Lib.hid (HA.out.below Hv.out k2.1 hmb); replace HS := Lib.hid k1; clear k1 k2 c
 have c := HA.out.type; rw [Nat.zero_add] at c
 go_wp2_with fail
 refine (Number_st HS.out (by omega) _).mono ?_
 rintro e w' ⟨rfl, k1, k2⟩
 replace HA := Lib.hid (HA.out.below Hv.out k2.1 hmb); replace HS := Lib.hid k1; clear k1 k2 c
 have HR := Lib.hid HA.out.block
 go_wp2_with (refine wpList_load_part rfl 23 _ rfl m 4 rfl (Lib.byteCells v.block) _ (Nat.zero_add 4 ▸ HR.out) Tryz.underlying23 rfl (hash_size _ Hv.out.block) ?_)
 refine (Hash_st HS.out (by omega) _ Hv.out.block).mono ?_
 rintro e w' ⟨rfl, k1, k2⟩
 replace HA := Lib.hid (HA.out.below Hv.out k2.1 hmb); replace HS := Lib.hid k1; clear k1 k2 HR
 have c := HA.out.key; rw [Nat.zero_add] at c
 go_wp2_with fail
 refine (Word_st HS.out (by omega) _ Hv.out.key).mono ?_
 rintro e w' ⟨rfl, k1, k2⟩
 replace HA := Lib.hid (HA.out.below Hv.out k2.1 hmb); replace HS := Lib.hid k1; clear k1 k2 c
 have c := HA.out.r; rw [Nat.zero_add] at c
 go_wp2_with fail
 refine (Word_st HS.out (by omega) _ Hv.out.r).mono ?_
 rintro e w' ⟨rfl, k1, k2⟩
 replace HA := Lib.hid (HA.out.below Hv.out k2.1 hmb); replace HS := Lib.hid k1; clear k1 k2 c
 have c := HA.out.s; rw [Nat.zero_add] at c
 go_wp2_with fail
 refine (Word_st HS.out (by omega) _ Hv.out.s).mono ?_
 rintro e w' ⟨rfl, k1, k2⟩
 replace HA := Lib.hid (HA.out.below Hv.out k2.1 hmb); replace HS := Lib.hid k1; clear k1 k2 c
 go_wp2_with fail
 go_end0
 exact ⟨rfl, HS.out.isW, HS.out.bel⟩
set_option maxHeartbeats 400000 in
theorem EncodeVoteBody_no (v : VoteD) (hv : v.wf) (h : okVote v = false) (m B0 : Nat) (w : World) (hm : m < B0) (hA : VoteD.At w m 0 v) :
  Throws 189 #[.pointer (some ⟨m, 0, none⟩)] B0 w := by
 intro w1 b hW hbel hB0
 have A := hA.below hv hbel hm
 have Hv := Lib.hid hv; have H := Lib.hid h; have HW := Lib.hid hW
 have Hrow := Lib.hid A.row
 clear hA A hv hW hbel h hm hB0
 go_enter Tryz.func189, Tryz.ntmps189
 go_wp2_with (refine wpList_load_part rfl 54 _ rfl m 0 rfl v.cells _ Hrow.out Tryz.underlying54 rfl (v.size Hv.out) ?_)
 refine (checkVote_no v _ Hv.out H.out).mono ?_
 rintro e w2 ⟨rfl, hb⟩
 exact ⟨rfl, rfl, hb.mono (by have := HW.out.lt; omega)⟩
theorem encVote_pos (v : VoteD) : 0 < (encVote v).length := by simp [encVote, be64_length]; omega
theorem encVote_len (v : VoteD) (hv : v.wf) (h : okVote v = true) : (encVote v).length ≤ 1000 := by
 have := okVote_len h
 simp [encVote, be64_length, textL_length, hv.block]; omega
set_option maxHeartbeats 400000 in
theorem EncodeVote_yes (v : VoteD) (w : World) (hv : v.wf) (h : okVote v = true) : Calls Tryz.prog 176 #[v.val] w (Gives (encVote v) w) := by
 have hmf : ∀ (fn : Fn) (first cap : Array Value) (w : World), (Instr.makeFunc fn first cap).run Tryz.prog w = .ok (.func fn first cap) w := fun _ _ _ _ => rfl
 have C := Lib.hid (encode_yes 189 #[.pointer (some ⟨w.heap.size, 0, none⟩)] (encVote v) (w.alloc (.cells v.cells.toArray 54)) (enters Tryz.func189 (by kernel_rfl) rfl)
  (EncodeVoteBody_yes v hv h w.heap.size _ _ (by simp) (VoteD.At.of_row hv (RowAt_box w v.cells _))) (encVote_pos v) (by have := encVote_len v hv h; omega))
 unfold VoteD.val
 clear hv h
 go_enter Tryz.func176, Tryz.ntmps176
 go_wp2_with (go_at_call 91; refine C.out.mono ?_; rintro e w1 ⟨sl, rfl, k1, k2⟩)
 go_ret2
 obtain ⟨a, n, c, rfl⟩ := k1.shape
 exact ⟨a, n, c, rfl, k1.mono (by simp), (below_box w _).trans (k2.mono (by simp))⟩
set_option maxHeartbeats 400000 in
theorem EncodeVote_no (v : VoteD) (w : World) (hv : v.wf) (h : okVote v = false) : Calls Tryz.prog 176 #[v.val] w (Fails w) := by
 have hmf : ∀ (fn : Fn) (first cap : Array Value) (w : World), (Instr.makeFunc fn first cap).run Tryz.prog w = .ok (.func fn first cap) w := fun _ _ _ _ => rfl
 have C := Lib.hid (encode_no 189 #[.pointer (some ⟨w.heap.size, 0, none⟩)] (w.alloc (.cells v.cells.toArray 54)) (enters Tryz.func189 (by kernel_rfl) rfl)
  (EncodeVoteBody_no v hv h w.heap.size _ _ (by simp) (VoteD.At.of_row hv (RowAt_box w v.cells _))))
 unfold VoteD.val
 clear hv h
 go_enter Tryz.func176, Tryz.ntmps176
 go_wp2_with (go_at_call 91; refine C.out.mono ?_; rintro e w1 ⟨rfl, k2⟩)
 go_ret2
 exact ⟨rfl, (below_box w _).trans (k2.mono (by simp))⟩
def VoteD.bare (v : VoteD) : VoteD := { v with key := 0, r := 0, s := 0 }
theorem VoteD.bare_wf {v : VoteD} (h : v.wf) : v.bare.wf := ⟨h.chain, h.height, h.round, h.type, h.block, ⟨by simp [VoteD.bare], by simp [VoteD.bare]⟩, ⟨by simp [VoteD.bare], by simp [VoteD.bare]⟩, ⟨by simp [VoteD.bare], by simp [VoteD.bare]⟩⟩
theorem bare_world {v : VoteD} {w W : World} (hv : v.wf) (hrow : RowAt W w.heap.size 0 v.cells) (hb : Below w.heap.size w W) :
  ∃ W3, ((W.setCell ⟨w.heap.size, 36, none⟩ (.int .u64 0)).setCell ⟨w.heap.size, 37, none⟩ (.int .u64 0)).setCell ⟨w.heap.size, 38, none⟩ (.int .u64 0) = W3 ∧ RowAt W3 w.heap.size 0 v.bare.cells ∧ Below w.heap.size w W3 := by
 have hl := v.cells_length hv
 have h1 := ((hrow.set 36 (by omega) (.int .u64 0)).set 37 (by simp; omega) (.int .u64 0)).set 38 (by simp; omega) (.int .u64 0)
 simp only [Nat.zero_add] at h1
 refine ⟨_, rfl, ?_, ((hb.setCell (by simp) _).setCell (by simp) _).setCell (by simp) _⟩
 have e : ((v.cells.set 36 (.int .u64 0)).set 37 (.int .u64 0)).set 38 (.int .u64 0) = v.bare.cells := by
  unfold VoteD.cells VoteD.bare
  generalize hp : [Value.string v.chain, .int .i64 v.height, .int .i64 v.round, .int .i64 v.type] ++ Lib.byteCells v.block = p
  have hlen : p.length = 36 := by rw [← hp]; simp [Lib.byteCells_length, hv.block]
  rw [List.set_append_right _ _ (by omega), List.set_append_right _ _ (by omega), List.set_append_right _ _ (by omega), hlen]
  rfl
 rwa [e] at h1
set_option maxHeartbeats 400000 in
theorem SignBytes_yes (v : VoteD) (w : World) (hv : v.wf) (h : okVote v = true) : Calls Tryz.prog 163 #[v.val] w (Gives (encVote v.bare) w) := by
 unfold VoteD.val
 obtain ⟨W, hW, hblk, hrow, hf, hb, hsz⟩ := box_as w v.cells 54
 have A := VoteD.At.of_row hv hrow
 have c36 := A.key; have c37 := A.r; have c38 := A.s; simp only [Nat.zero_add] at c36 c37 c38
 have f36 := hf 36; have f37 := hf 37; have f38 := hf 38
 obtain ⟨W3, hW3, hrow3, hb3⟩ := bare_world hv hrow hb
 have C := Lib.hid (EncodeVote_yes v.bare W3 (VoteD.bare_wf hv) h)
 have HB3 := Lib.hid hb3; have HR3 := Lib.hid hrow3; have HW3 := Lib.hid hW3; have HW := Lib.hid hW; have Hv := Lib.hid hv
 clear hW hblk hrow hf hb hsz A hv h hb3 hrow3 hW3
 go_enter Tryz.func163, Tryz.ntmps163
 go_upto_region 1 with (fail)
 rw [HW.out]
 go_upto_region 2 with (fail)
 rw [HW3.out]
 clear c36 c37 c38 f36 f37 f38
 go_wp2_with (refine wpList_load_part rfl 54 _ rfl w.heap.size 0 rfl v.bare.cells _ HR3.out Tryz.underlying54 rfl (v.bare.size (VoteD.bare_wf Hv.out)) ?_)
 refine C.out.mono ?_
 rintro e w1 ⟨a, n, c, rfl, k1, k2⟩
 go_wp2_with fail
 go_ret2
 exact ⟨a, n, c, rfl, k1.mono HB3.out.size, HB3.out.trans (k2.mono HB3.out.size)⟩
set_option maxHeartbeats 400000 in
theorem SignBytes_no (v : VoteD) (w : World) (hv : v.wf) (h : okVote v = false) : Calls Tryz.prog 163 #[v.val] w (Fails w) := by
 unfold VoteD.val
 obtain ⟨W, hW, hblk, hrow, hf, hb, hsz⟩ := box_as w v.cells 54
 have A := VoteD.At.of_row hv hrow
 have c36 := A.key; have c37 := A.r; have c38 := A.s; simp only [Nat.zero_add] at c36 c37 c38
 have f36 := hf 36; have f37 := hf 37; have f38 := hf 38
 obtain ⟨W3, hW3, hrow3, hb3⟩ := bare_world hv hrow hb
 have C := Lib.hid (EncodeVote_no v.bare W3 (VoteD.bare_wf hv) h)
 have HB3 := Lib.hid hb3; have HR3 := Lib.hid hrow3; have HW3 := Lib.hid hW3; have HW := Lib.hid hW; have Hv := Lib.hid hv
 clear hW hblk hrow hf hb hsz A hv h hb3 hrow3 hW3
 go_enter Tryz.func163, Tryz.ntmps163
 go_upto_region 1 with (fail)
 rw [HW.out]
 go_upto_region 2 with (fail)
 rw [HW3.out]
 clear c36 c37 c38 f36 f37 f38
 go_wp2_with (refine wpList_load_part rfl 54 _ rfl w.heap.size 0 rfl v.bare.cells _ HR3.out Tryz.underlying54 rfl (v.bare.size (VoteD.bare_wf Hv.out)) ?_)
 refine C.out.mono ?_
 rintro e w1 ⟨rfl, k2⟩
 go_wp2_with fail
 go_ret2
 exact ⟨rfl, HB3.out.trans (k2.mono HB3.out.size)⟩
def ZVote : List Value := [.string ⟨#[]⟩, .int .i64 0, .int .i64 0, .int .i64 0] ++ Lib.byteCells (List.replicate 32 0) ++ [.int .u64 0, .int .u64 0, .int .u64 0]
theorem ZVote_info : (Tryz.prog.info? 54).map (fun i => i.zero.map (fun v => v.cells)) = some (some ZVote.toArray) := by kernel_rfl
theorem ZVote_length : ZVote.length = 39 := by rfl
theorem sizeVote (cs : List Value) (h : cs.length = 39) : (Tryz.prog.info? 54).map (·.size) = some cs.length := by rw [h]; kernel_rfl
theorem ZVote_one : ∀ v ∈ ZVote, v.oneCell' = true := fun v hv => List.all_eq_true.1 (show ZVote.all (·.oneCell') = true by kernel_rfl) v hv
theorem VoteD_one (v : VoteD) : ∀ x ∈ v.cells, x.oneCell' = true := by
 have hb := fun (l : List UInt8) x (h : x ∈ Lib.byteCells l) => oneCell_bytes l x h
 intro x hx
 simp only [VoteD.cells, List.mem_append, List.mem_cons, List.not_mem_nil, or_false] at hx
 grind [Value.oneCell']
end Go.Proofs.YtdhchehagfmjcaaGreatDoor
