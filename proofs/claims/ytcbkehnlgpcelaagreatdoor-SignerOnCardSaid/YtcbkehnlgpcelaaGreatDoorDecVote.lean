/- Walks: forms.checkVote, EncodeVote, SignBytes. Walks: forms.decode at api.Vote. Walks: nuncio/forms.DecodeVote$1, nuncio/forms.DecodeVote. -/
import Derived.Test.YtcbkehnlgpcelaaGreatDoorForms
import Derived.Deep.Cut
import Derived.Deep.CutRange
import Derived.Test.YtcbkehnlgpcelaaGreatDoorDecode
import Derived.Test.YtcbkehnlgpcelaaGreatDoorBuild
import Derived.Test.YtcbkehnlgpcelaaGreatDoorReadH
import Derived.Test.YtcbkehnlgpcelaaGreatDoorDecPacket
namespace Go.Proofs.YtcbkehnlgpcelaaGreatDoor
open Go.RowKit
set_option maxRecDepth 100000

/-- a vote, as data -/
structure VoteD where
  chain : ByteArray
  height : Int
  round : Int
  type : Int
  block : List UInt8
  key : Int
  r : Int
  s : Int
structure VoteD.wf (v : VoteD) : Prop where
  chain : v.chain.size ≤ maxLen
  height : i64R v.height
  round : i64R v.round
  type : i64R v.type
  block : v.block.length = 32
  key : u64R v.key
  r : u64R v.r
  s : u64R v.s
def VoteD.cells (v : VoteD) : List Value := [.string v.chain, .int .i64 v.height, .int .i64 v.round, .int .i64 v.type] ++ Lib.byteCells v.block ++ [.int .u64 v.key, .int .u64 v.r, .int .u64 v.s]
def VoteD.val (v : VoteD) : Value := .agg v.cells.toArray
theorem VoteD.cells_length (v : VoteD) (h : v.wf) : v.cells.length = 39 := by simp [VoteD.cells, Lib.byteCells_length, h.block]
theorem VoteD.size (v : VoteD) (h : v.wf) : (Tryz.prog.info? 40).map (·.size) = some v.cells.length := by
  rw [v.cells_length h]; kernel_rfl
/-- what is read of its row -/
structure VoteD.At (w : World) (m o : Nat) (v : VoteD) : Prop where
  row : RowAt w m o v.cells
  chain : w.cell? ⟨m, o + 0, none⟩ = some (.string v.chain)
  height : w.cell? ⟨m, o + 1, none⟩ = some (.int .i64 v.height)
  round : w.cell? ⟨m, o + 2, none⟩ = some (.int .i64 v.round)
  type : w.cell? ⟨m, o + 3, none⟩ = some (.int .i64 v.type)
  block : RowAt w m (o + 4) (Lib.byteCells v.block)
  key : w.cell? ⟨m, o + 36, none⟩ = some (.int .u64 v.key)
  r : w.cell? ⟨m, o + 37, none⟩ = some (.int .u64 v.r)
  s : w.cell? ⟨m, o + 38, none⟩ = some (.int .u64 v.s)
theorem VoteD.At.of_row {w : World} {m o : Nat} {v : VoteD} (hv : v.wf) (h : RowAt w m o v.cells) : VoteD.At w m o v := by
  refine ⟨h, ?_, ?_, ?_, ?_, ?_, ?_, ?_, ?_⟩
  · exact h 0 _ (by simp [VoteD.cells, Lib.byteCells_length, hv.block])
  · exact h 1 _ (by simp [VoteD.cells, Lib.byteCells_length, hv.block])
  · exact h 2 _ (by simp [VoteD.cells, Lib.byteCells_length, hv.block])
  · exact h 3 _ (by simp [VoteD.cells, Lib.byteCells_length, hv.block])
  · have e : (v.cells.drop 4).take 32 = Lib.byteCells v.block := by simp [VoteD.cells, List.drop_append, Lib.byteCells_length, hv.block]
    exact e ▸ h.part 4 32
  · exact h 36 _ (by simp [VoteD.cells, Lib.byteCells_length, hv.block])
  · exact h 37 _ (by simp [VoteD.cells, Lib.byteCells_length, hv.block])
  · exact h 38 _ (by simp [VoteD.cells, Lib.byteCells_length, hv.block])
theorem VoteD.At.below {B : Nat} {w w' : World} {m o : Nat} {v : VoteD} (h : VoteD.At w m o v) (hv : v.wf) (hb : Below B w w') (hm : m < B) : VoteD.At w' m o v := VoteD.At.of_row hv (h.row.below hb hm)
def okVote (v : VoteD) : Bool := nameL v.chain.data.toList && (inR v.height 1 1099511627776 && (inR v.round 0 1048576 && (inR v.type 1 2)))
def encVote (v : VoteD) : List UInt8 := be64 1 ++ textL v.chain ++ be64 v.height ++ be64 v.round ++ be64 v.type ++ v.block ++ be64 v.key ++ be64 v.r ++ be64 v.s
theorem okVote_len {v : VoteD} (h : okVote v = true) : v.chain.size ≤ 16 := by
  unfold okVote at h; simp only [Bool.and_eq_true] at h
  have := (nameL_len h.1).2
  simpa using this

set_option maxHeartbeats 1000000 in
theorem checkVote_any (v : VoteD) (w : World) (hv : v.wf) : Calls Tryz.prog 41 #[v.val] w (RetB (okVote v) w) := by
  unfold VoteD.val
  have A := VoteD.At.of_row hv (RowAt_box w v.cells 40)
  have c0 := A.chain; rw [Nat.zero_add] at c0; have c1 := A.height; rw [Nat.zero_add] at c1; have c2 := A.round; rw [Nat.zero_add] at c2; have c3 := A.type; rw [Nat.zero_add] at c3
  have HA := Lib.hid A; have Hv := Lib.hid hv
  clear A hv
  go_enter Tryz.func41, Tryz.ntmps41
  have Hb := Lib.hid (below_box w (.cells v.cells.toArray 40))
  have HS := Lib.hid (show w.heap.size + 1 ≤ (w.alloc (.cells v.cells.toArray 40)).heap.size by simp)
  go_wp2_with fail
  cases h0 : nameL v.chain.data.toList
  · refine (name_no _ _ h0).mono ?_
    rintro e w1 ⟨rfl, hb⟩
    exact ⟨rfl, RetB.no (by simp only [okVote, h0, Bool.false_and]) (Hb.out.trans (hb.mono (by have := HS.out; have := Hb.out.size; omega)))⟩
  refine (name_yes _ _ h0).mono ?_
  rintro e w1 ⟨rfl, hb⟩
  have A1 := HA.out.below Hv.out hb (by have := HS.out; omega)
  clear c0 c1 c2 c3
  have c0 := A1.chain; rw [Nat.zero_add] at c0; have c1 := A1.height; rw [Nat.zero_add] at c1; have c2 := A1.round; rw [Nat.zero_add] at c2; have c3 := A1.type; rw [Nat.zero_add] at c3
  replace Hb := Lib.hid (Hb.out.trans (hb.mono (by have := HS.out; have := Hb.out.size; omega)))
  replace HS := Lib.hid (Nat.le_trans HS.out hb.size)
  replace HA := Lib.hid A1
  have H0 := Lib.hid h0; clear h0 A1 hb
  go_wp2_with fail
  cases h1 : inR v.height 1 1099511627776
  · refine (within_f _ _ _ _ h1).mono ?_
    rintro e w' ⟨rfl, rfl⟩
    exact ⟨rfl, RetB.no (by simp only [okVote, h1, Bool.and_false, Bool.false_and]) Hb.out⟩
  refine (within_t _ _ _ _ h1).mono ?_
  rintro e w' ⟨rfl, rfl⟩
  have H1 := Lib.hid h1; clear h1
  go_wp2_with fail
  cases h2 : inR v.round 0 1048576
  · refine (within_f _ _ _ _ h2).mono ?_
    rintro e w' ⟨rfl, rfl⟩
    exact ⟨rfl, RetB.no (by simp only [okVote, h2, Bool.and_false, Bool.false_and]) Hb.out⟩
  refine (within_t _ _ _ _ h2).mono ?_
  rintro e w' ⟨rfl, rfl⟩
  have H2 := Lib.hid h2; clear h2
  go_wp2_with fail
  cases h3 : inR v.type 1 2
  · refine (within_f _ _ _ _ h3).mono ?_
    rintro e w' ⟨rfl, rfl⟩
    exact ⟨rfl, RetB.no (by simp only [okVote, h3, Bool.and_false]) Hb.out⟩
  refine (within_t _ _ _ _ h3).mono ?_
  rintro e w' ⟨rfl, rfl⟩
  have H3 := Lib.hid h3; clear h3
  go_wp2_with fail
  go_end0
  exact RetB.yes (by simp only [okVote, H0.out, H1.out, H2.out, H3.out, Bool.and_self]) Hb.out

theorem checkVote_yes (v : VoteD) (w : World) (hv : v.wf) (h : okVote v = true) : Calls Tryz.prog 41 #[v.val] w fun e w' => e = .returned (.tuple #[]) ∧ Below w.heap.size w w' :=
  (checkVote_any v w hv).mono fun e w' hp => by unfold RetB at hp; rw [h] at hp; exact hp
theorem checkVote_no (v : VoteD) (w : World) (hv : v.wf) (h : okVote v = false) : Calls Tryz.prog 41 #[v.val] w fun e w' => e = .panicked wrongP ∧ Below w.heap.size w w' :=
  (checkVote_any v w hv).mono fun e w' hp => by unfold RetB at hp; rw [h] at hp; exact hp

set_option maxHeartbeats 1000000 in
theorem EncodeVoteBody_yes (v : VoteD) (hv : v.wf) (h : okVote v = true) (m B0 : Nat) (w : World) (hm : m < B0) (hA : VoteD.At w m 0 v) :
    Writes 40 #[.pointer (some ⟨m, 0, none⟩)] B0 w (encVote v) false := by
  intro w1 b hW hbel hB0
  have HA := Lib.hid (hA.below hv hbel hm)
  have Hv := Lib.hid hv; have HW := Lib.hid hW; have H := Lib.hid h
  have hmb : m < b := by omega
  have Hrow := Lib.hid HA.out.row
  clear hA hv hW hbel h hm hB0
  go_enter Tryz.func40, Tryz.ntmps40
  go_wp2_with (refine wpList_load_part rfl 40 _ rfl m 0 rfl v.cells _ Hrow.out Tryz.underlying40 rfl (v.size Hv.out) ?_)
  refine (checkVote_yes v _ Hv.out H.out).mono ?_
  rintro e w2 ⟨rfl, hb⟩
  have HS := Lib.hid ((St.start HW.out).over hb)
  replace HA := Lib.hid (HA.out.below Hv.out hb (by have := HW.out.lt; omega))
  clear hb
  go_wp2_with fail
  refine (Number_st HS.out (by omega) _).mono ?_
  rintro e w' ⟨rfl, k1, k2⟩
  replace HA := Lib.hid (HA.out.below Hv.out k2.1 hmb); replace HS := Lib.hid k1; clear k1 k2
  have c := HA.out.chain; rw [Nat.zero_add] at c
  go_wp2_with fail
  refine (Text_st HS.out (by omega) _ 16 (okVote_len H.out) (by omega)).mono ?_
  rintro e w' ⟨rfl, k1, k2⟩
  replace HA := Lib.hid (HA.out.below Hv.out k2.1 hmb); replace HS := Lib.hid k1; clear k1 k2 c
  have c := HA.out.height; rw [Nat.zero_add] at c
  go_wp2_with fail
  refine (Number_st HS.out (by omega) _).mono ?_
  rintro e w' ⟨rfl, k1, k2⟩
  replace HA := Lib.hid (HA.out.below Hv.out k2.1 hmb); replace HS := Lib.hid k1; clear k1 k2 c
  have c := HA.out.round; rw [Nat.zero_add] at c
  go_wp2_with fail
  refine (Number_st HS.out (by omega) _).mono ?_
  rintro e w' ⟨rfl, k1, k2⟩
  replace HA := Lib.hid (HA.out.below Hv.out k2.1 hmb); replace HS := Lib.hid k1; clear k1 k2 c
  have c := HA.out.type; rw [Nat.zero_add] at c
  go_wp2_with fail
  refine (Number_st HS.out (by omega) _).mono ?_
  rintro e w' ⟨rfl, k1, k2⟩
  replace HA := Lib.hid (HA.out.below Hv.out k2.1 hmb); replace HS := Lib.hid k1; clear k1 k2 c
  have HR := Lib.hid HA.out.block
  go_wp2_with (refine wpList_load_part rfl 26 _ rfl m 4 rfl (Lib.byteCells v.block) _ (Nat.zero_add 4 ▸ HR.out) Tryz.underlying26 rfl (hash_size _ Hv.out.block) ?_)
  refine (Hash_st HS.out (by omega) _ Hv.out.block).mono ?_
  rintro e w' ⟨rfl, k1, k2⟩
  replace HA := Lib.hid (HA.out.below Hv.out k2.1 hmb); replace HS := Lib.hid k1; clear k1 k2 HR
  have c := HA.out.key; rw [Nat.zero_add] at c
  go_wp2_with fail
  refine (Word_st HS.out (by omega) _ Hv.out.key).mono ?_
  rintro e w' ⟨rfl, k1, k2⟩
  replace HA := Lib.hid (HA.out.below Hv.out k2.1 hmb); replace HS := Lib.hid k1; clear k1 k2 c
  have c := HA.out.r; rw [Nat.zero_add] at c
  go_wp2_with fail
  refine (Word_st HS.out (by omega) _ Hv.out.r).mono ?_
  rintro e w' ⟨rfl, k1, k2⟩
  replace HA := Lib.hid (HA.out.below Hv.out k2.1 hmb); replace HS := Lib.hid k1; clear k1 k2 c
  have c := HA.out.s; rw [Nat.zero_add] at c
  go_wp2_with fail
  refine (Word_st HS.out (by omega) _ Hv.out.s).mono ?_
  rintro e w' ⟨rfl, k1, k2⟩
  replace HA := Lib.hid (HA.out.below Hv.out k2.1 hmb); replace HS := Lib.hid k1; clear k1 k2 c
  go_wp2_with fail
  go_end0
  exact ⟨rfl, HS.out.isW, HS.out.bel⟩

set_option maxHeartbeats 400000 in
theorem EncodeVoteBody_no (v : VoteD) (hv : v.wf) (h : okVote v = false) (m B0 : Nat) (w : World) (hm : m < B0) (hA : VoteD.At w m 0 v) :
    Throws 40 #[.pointer (some ⟨m, 0, none⟩)] B0 w := by
  intro w1 b hW hbel hB0
  have A := hA.below hv hbel hm
  have Hv := Lib.hid hv; have H := Lib.hid h; have HW := Lib.hid hW
  have Hrow := Lib.hid A.row
  clear hA A hv hW hbel h hm hB0
  go_enter Tryz.func40, Tryz.ntmps40
  go_wp2_with (refine wpList_load_part rfl 40 _ rfl m 0 rfl v.cells _ Hrow.out Tryz.underlying40 rfl (v.size Hv.out) ?_)
  refine (checkVote_no v _ Hv.out H.out).mono ?_
  rintro e w2 ⟨rfl, hb⟩
  exact ⟨rfl, rfl, hb.mono (by have := HW.out.lt; omega)⟩

theorem encVote_pos (v : VoteD) : 0 < (encVote v).length := by simp [encVote, be64_length]; omega
theorem encVote_len (v : VoteD) (hv : v.wf) (h : okVote v = true) : (encVote v).length ≤ 1000 := by
  have := okVote_len h
  simp [encVote, be64_length, textL_length, hv.block]; omega

set_option maxHeartbeats 400000 in
theorem EncodeVote_yes (v : VoteD) (w : World) (hv : v.wf) (h : okVote v = true) : Calls Tryz.prog 13 #[v.val] w (Gives (encVote v) w) := by
  have hmf : ∀ (fn : Fn) (first cap : Array Value) (w : World), (Instr.makeFunc fn first cap).run Tryz.prog w = .ok (.func fn first cap) w := fun _ _ _ _ => rfl
  have C := Lib.hid (encode_yes 40 #[.pointer (some ⟨w.heap.size, 0, none⟩)] (encVote v) (w.alloc (.cells v.cells.toArray 40)) (enters Tryz.func40 (by kernel_rfl) rfl)
    (EncodeVoteBody_yes v hv h w.heap.size _ _ (by simp) (VoteD.At.of_row hv (RowAt_box w v.cells _))) (encVote_pos v) (by have := encVote_len v hv h; omega))
  unfold VoteD.val
  clear hv h
  go_enter Tryz.func13, Tryz.ntmps13
  go_wp2_with (go_at_call 39; refine C.out.mono ?_; rintro e w1 ⟨sl, rfl, k1, k2⟩)
  go_ret2
  obtain ⟨a, n, c, rfl⟩ := k1.shape
  exact ⟨a, n, c, rfl, k1.mono (by simp), (below_box w _).trans (k2.mono (by simp))⟩

set_option maxHeartbeats 400000 in
theorem EncodeVote_no (v : VoteD) (w : World) (hv : v.wf) (h : okVote v = false) : Calls Tryz.prog 13 #[v.val] w (Fails w) := by
  have hmf : ∀ (fn : Fn) (first cap : Array Value) (w : World), (Instr.makeFunc fn first cap).run Tryz.prog w = .ok (.func fn first cap) w := fun _ _ _ _ => rfl
  have C := Lib.hid (encode_no 40 #[.pointer (some ⟨w.heap.size, 0, none⟩)] (w.alloc (.cells v.cells.toArray 40)) (enters Tryz.func40 (by kernel_rfl) rfl)
    (EncodeVoteBody_no v hv h w.heap.size _ _ (by simp) (VoteD.At.of_row hv (RowAt_box w v.cells _))))
  unfold VoteD.val
  clear hv h
  go_enter Tryz.func13, Tryz.ntmps13
  go_wp2_with (go_at_call 39; refine C.out.mono ?_; rintro e w1 ⟨rfl, k2⟩)
  go_ret2
  exact ⟨rfl, (below_box w _).trans (k2.mono (by simp))⟩

/-- the vote that is signed -/
def VoteD.bare (v : VoteD) : VoteD := { v with key := 0, r := 0, s := 0 }
theorem VoteD.bare_wf {v : VoteD} (h : v.wf) : v.bare.wf := ⟨h.chain, h.height, h.round, h.type, h.block, ⟨by simp [VoteD.bare], by simp [VoteD.bare]⟩, ⟨by simp [VoteD.bare], by simp [VoteD.bare]⟩, ⟨by simp [VoteD.bare], by simp [VoteD.bare]⟩⟩

theorem bare_world {v : VoteD} {w W : World} (hv : v.wf) (hrow : RowAt W w.heap.size 0 v.cells) (hb : Below w.heap.size w W) :
    ∃ W3, ((W.setCell ⟨w.heap.size, 36, none⟩ (.int .u64 0)).setCell ⟨w.heap.size, 37, none⟩ (.int .u64 0)).setCell ⟨w.heap.size, 38, none⟩ (.int .u64 0) = W3 ∧ RowAt W3 w.heap.size 0 v.bare.cells ∧ Below w.heap.size w W3 := by
  have hl := v.cells_length hv
  have h1 := ((hrow.set 36 (by omega) (.int .u64 0)).set 37 (by simp; omega) (.int .u64 0)).set 38 (by simp; omega) (.int .u64 0)
  simp only [Nat.zero_add] at h1
  refine ⟨_, rfl, ?_, ((hb.setCell (by simp) _).setCell (by simp) _).setCell (by simp) _⟩
  have e : ((v.cells.set 36 (.int .u64 0)).set 37 (.int .u64 0)).set 38 (.int .u64 0) = v.bare.cells := by
    unfold VoteD.cells VoteD.bare
    generalize hp : [Value.string v.chain, .int .i64 v.height, .int .i64 v.round, .int .i64 v.type] ++ Lib.byteCells v.block = p
    have hlen : p.length = 36 := by rw [← hp]; simp [Lib.byteCells_length, hv.block]
    rw [List.set_append_right _ _ (by omega), List.set_append_right _ _ (by omega), List.set_append_right _ _ (by omega), hlen]
    rfl
  rwa [e] at h1

theorem okVote_bare (v : VoteD) : okVote v.bare = okVote v := rfl

set_option maxHeartbeats 400000 in
theorem SignBytes_yes (v : VoteD) (w : World) (hv : v.wf) (h : okVote v = true) : Calls Tryz.prog 46 #[v.val] w (Gives (encVote v.bare) w) := by
  unfold VoteD.val
  obtain ⟨W, hW, hblk, hrow, hf, hb, hsz⟩ := box_as w v.cells 40
  have A := VoteD.At.of_row hv hrow
  have c36 := A.key; have c37 := A.r; have c38 := A.s; simp only [Nat.zero_add] at c36 c37 c38
  have f36 := hf 36; have f37 := hf 37; have f38 := hf 38
  obtain ⟨W3, hW3, hrow3, hb3⟩ := bare_world hv hrow hb
  have C := Lib.hid (EncodeVote_yes v.bare W3 (VoteD.bare_wf hv) h)
  have HB3 := Lib.hid hb3; have HR3 := Lib.hid hrow3; have HW3 := Lib.hid hW3; have HW := Lib.hid hW; have Hv := Lib.hid hv
  clear hW hblk hrow hf hb hsz A hv h hb3 hrow3 hW3
  go_enter Tryz.func46, Tryz.ntmps46
  go_upto_region 1 with (fail)
  rw [HW.out]
  go_upto_region 2 with (fail)
  rw [HW3.out]
  clear c36 c37 c38 f36 f37 f38
  go_wp2_with (refine wpList_load_part rfl 40 _ rfl w.heap.size 0 rfl v.bare.cells _ HR3.out Tryz.underlying40 rfl (v.bare.size (VoteD.bare_wf Hv.out)) ?_)
  refine C.out.mono ?_
  rintro e w1 ⟨a, n, c, rfl, k1, k2⟩
  go_wp2_with fail
  go_ret2
  exact ⟨a, n, c, rfl, k1.mono HB3.out.size, HB3.out.trans (k2.mono HB3.out.size)⟩

set_option maxHeartbeats 400000 in
theorem SignBytes_no (v : VoteD) (w : World) (hv : v.wf) (h : okVote v = false) : Calls Tryz.prog 46 #[v.val] w (Fails w) := by
  unfold VoteD.val
  obtain ⟨W, hW, hblk, hrow, hf, hb, hsz⟩ := box_as w v.cells 40
  have A := VoteD.At.of_row hv hrow
  have c36 := A.key; have c37 := A.r; have c38 := A.s; simp only [Nat.zero_add] at c36 c37 c38
  have f36 := hf 36; have f37 := hf 37; have f38 := hf 38
  obtain ⟨W3, hW3, hrow3, hb3⟩ := bare_world hv hrow hb
  have C := Lib.hid (EncodeVote_no v.bare W3 (VoteD.bare_wf hv) h)
  have HB3 := Lib.hid hb3; have HR3 := Lib.hid hrow3; have HW3 := Lib.hid hW3; have HW := Lib.hid hW; have Hv := Lib.hid hv
  clear hW hblk hrow hf hb hsz A hv h hb3 hrow3 hW3
  go_enter Tryz.func46, Tryz.ntmps46
  go_upto_region 1 with (fail)
  rw [HW.out]
  go_upto_region 2 with (fail)
  rw [HW3.out]
  clear c36 c37 c38 f36 f37 f38
  go_wp2_with (refine wpList_load_part rfl 40 _ rfl w.heap.size 0 rfl v.bare.cells _ HR3.out Tryz.underlying40 rfl (v.bare.size (VoteD.bare_wf Hv.out)) ?_)
  refine C.out.mono ?_
  rintro e w1 ⟨rfl, k2⟩
  go_wp2_with fail
  go_ret2
  exact ⟨rfl, HB3.out.trans (k2.mono HB3.out.size)⟩

/-- the zero value's cells -/
def ZVote : List Value := [.string ⟨#[]⟩, .int .i64 0, .int .i64 0, .int .i64 0] ++ Lib.byteCells (List.replicate 32 0) ++ [.int .u64 0, .int .u64 0, .int .u64 0]
theorem ZVote_info : (Tryz.prog.info? 40).map (fun i => i.zero.map (fun v => v.cells)) = some (some ZVote.toArray) := by kernel_rfl
theorem ZVote_length : ZVote.length = 39 := by rfl
theorem sizeVote (cs : List Value) (h : cs.length = 39) : (Tryz.prog.info? 40).map (·.size) = some cs.length := by rw [h]; kernel_rfl
theorem ZVote_one : ∀ v ∈ ZVote, v.oneCell' = true := fun v hv => List.all_eq_true.1 (show ZVote.all (·.oneCell') = true by kernel_rfl) v hv

set_option maxHeartbeats 400000 in
theorem decCatchVote_panicking (m : Nat) (cs : List Value) (x : Value) (w : World) (h1 : Blk w m cs 40) (hn : cs.length = 39) (h2 : One w (m + 1) x) :
    CallsD Tryz.prog 129 #[.pointer (some ⟨m, 0, none⟩), .pointer (some ⟨m + 1, 0, none⟩)] (.panicking wrongP) w fun e u' w' =>
      e = .returned (.tuple #[]) ∧ u' = .panicking [{ v := .iface 165 (.agg #[]), recovered := true }] ∧ Blk w' m ZVote 40 ∧ One w' (m + 1) (.int .i64 61) ∧ Below m w w' := by
  have H1 := Lib.hid h1; have H2 := Lib.hid h2; have Hn := Lib.hid hn
  clear h1 h2 hn
  refine callsD_of_wpS Tryz.func129 rfl fun c₀ cs0 hu => ?_
  simp only [Tryz.ntmps129, List.size_toArray, List.length_cons, List.length_nil, Nat.reduceAdd, Nat.reduceSub, Array.replicate_succ,
     Array.replicate_zero, List.push_toArray, List.append_toArray, List.nil_append, List.cons_append]
  apply wpS_seq
  apply wpS_region
  simp [wpOpsS, go_sem, recoverD, hu, wrongP, Exit.thenS]
  apply wpS_of_wp
  go_wp2_with fail
  refine (caught_wrong _).mono ?_; rintro e w1 ⟨rfl, hb⟩
  have b1 := H1.out.below hb H1.out.lt
  have b2 := H2.out.below hb (World.block_lt_of_cell? w ⟨m + 1, 0, none⟩ H2.out.1)
  have B1 := Lib.hid b1; have B2 := Lib.hid b2; have Hb := Lib.hid hb
  clear b1 b2 hb
  go_wp2_with (refine wpList_alloc_as rfl 40 rfl ZVote ZVote_info ?_)
  intro w2 k1 k2 k3
  have K1 := Lib.hid k1; have K2 := Lib.hid k2; clear k1 k2 k3
  go_wp2_with (first | (refine wpList_load_part rfl 40 _ rfl w1.heap.size 0 rfl ZVote _ K1.out.row Tryz.underlying40 rfl (sizeVote _ ZVote_length) ?_) | refine wpList_store_whole rfl 40 _ _ rfl m rfl ZVote cs 40 rfl (B1.out.grown K2.out (by simp)) (by rw [Hn.out, ZVote_length]) ZVote_one (sizeVote _ ZVote_length) ?_)
  intro w3 k1 k2 k3
  have d2 := (B2.out.grown K2.out (by simp)).grown k1 (by simp)
  obtain ⟨c2, f2⟩ := id d2
  have L1 := Lib.hid k1; have L3 := Lib.hid k3; have D2 := Lib.hid d2; clear k1 k2 k3 d2
  go_wp2
  have hm1 := H1.out.lt
  have hm2 := World.block_lt_of_cell? w ⟨m + 1, 0, none⟩ H2.out.1
  have hbel : Below m w w3 := (Hb.out.mono (Nat.le_of_lt hm1)).trans ⟨K2.out.os, K2.out.tape, K2.out.output, K2.out.size, fun k hk => K2.out.block k (by have := Hb.out.size; omega) (by simp)⟩ |>.trans
    ⟨L1.out.os, L1.out.tape, L1.out.output, L1.out.size, fun k hk => L1.out.block k (by have := Hb.out.size; have := K2.out.size; omega) (by simp; omega)⟩
  exact ⟨rfl, _, rfl, .tuple #[], results_none rfl _ _ _, rfl, rfl, (Below.heap_setCell w3 ⟨m + 1, 0, none⟩ _ m (by simp)).trans L3.out, D2.out.set _, hbel.setCell (by simp) _⟩

set_option maxHeartbeats 400000 in
theorem decCatchVote_idle (p q : Addr) (w : World) :
    CallsD Tryz.prog 129 #[.pointer (some p), .pointer (some q)] .returning w fun e u' w' =>
      e = .returned (.tuple #[]) ∧ u' = .returning ∧ w' = w := by
  refine callsD_of_wpS Tryz.func129 rfl fun c₀ cs hu => ?_
  simp only [Tryz.ntmps129, List.size_toArray, List.length_cons, List.length_nil, Nat.reduceAdd, Nat.reduceSub, Array.replicate_succ,
     Array.replicate_zero, List.push_toArray, List.append_toArray, List.nil_append, List.cons_append]
  apply wpS_seq
  apply wpS_region
  simp [wpOpsS, go_sem, recoverD, hu, Exit.thenS]
  apply wpS_of_wp
  go_wp2
  exact ⟨rfl, _, by cases c₀; simp_all, .tuple #[], results_none rfl _ _ _, rfl, rfl, rfl⟩

set_option maxHeartbeats 1000000 in
theorem decodeVote_gen (F G : FuncId) (v : Value) (l : List UInt8) (w : World) (Good : List Value → World → Prop) (rest : RS) (ok : Bool) (hv : RdB w v l) (hl : l.length ≤ 100000000000)
    (hF : ∀ args w, (callFunc F args).run Tryz.prog w = .ok (.enter F args) w) (hG : ∀ args w, (callFunc G args).run Tryz.prog w = .ok (.enter G args) w)
    (HF : Takes F 39 w l Good rest) (HG : ∀ cs w1, Good cs w1 → Calls Tryz.prog G #[.agg cs.toArray] w1 (RetB ok w1)) (HK : Stays (w.heap.size + 2) Good) :
    Calls Tryz.prog 93 #[v, .func (.func F) #[] #[], .func (.func G) #[] #[]] w (DecPost Good (decide (rest = some []) && ok) ZVote w) := by
  have hmf : ∀ (fn : Fn) (first cap : Array Value) (w : World), (Instr.makeFunc fn first cap).run Tryz.prog w = .ok (.func fn first cap) w := fun _ _ _ _ => rfl
  have Hv := Lib.hid hv; have Hl := Lib.hid hl; have HHF := Lib.hid HF; have HHG := Lib.hid HG; have HHK := Lib.hid HK
  clear hv hl HF HG HK
  go_enter_defers Tryz.func93, Tryz.ntmps93
  go_wp2_with (refine wpList_alloc_as rfl 40 rfl ZVote ZVote_info ?_)
  intro W1 b1 g1 s1
  have B1 := Lib.hid b1; have G1 := Lib.hid g1; clear b1 g1
  go_wp2_with (refine wpList_alloc_as rfl 33 rfl [.int .i64 0] (by kernel_rfl) ?_)
  intro W2 b2 g2 s2
  have B2 := Lib.hid b2; have G2 := Lib.hid g2; have S2 := Lib.hid s2; clear b2 g2 s1
  go_wp2_with fail
  have gW := Lib.grownBy_trans G1.out G2.out
  refine (NewReader_any v l W2 (Hv.out.grown gW) Hl.out).mono ?_
  rintro e w3 ⟨p, rfl, r1, hp, r2⟩
  rw [s2] at hp
  have R1 := Lib.hid r1; have R2 := Lib.hid r2; have Hp := Lib.hid hp; have GW := Lib.hid gW
  clear r1 r2 hp gW s2
  go_wp2_with fail
  refine (HHF.out p w3 R1.out Hp.out).mono ?_
  rintro e w4 ⟨cs, rfl, gd, hn, h1, r3, gr⟩
  have hlt0 : w.heap.size + 2 ≤ W2.heap.size := by rw [S2.out]; omega
  have b4 : Blk w4 w.heap.size ZVote 40 := (((B1.out.grown G2.out (by simp)).below R2.out (by have := hlt0; omega)).grown gr (by have := Hp.out; simp; omega))
  have e4 : One w4 (w.heap.size + 1) (.int .i64 0) := (((One.of_blk B2.out).below R2.out (by have := hlt0; omega)).grown gr (by have := Hp.out; simp; omega))
  have bel4 : Below w.heap.size w w4 := by
    have q1 : Below w.heap.size w W2 := ⟨GW.out.os, GW.out.tape, GW.out.output, GW.out.size, fun k hk => GW.out.block k hk (by simp)⟩
    have q2 := q1.trans (R2.out.mono (by omega))
    exact q2.trans ⟨gr.os, gr.tape, gr.output, gr.size, fun k hk => gr.block k (by have := q2.size; omega) (by have := Hp.out; simp; omega)⟩
  have GD := Lib.hid gd; have Hn := Lib.hid hn; have H1 := Lib.hid h1; have R3 := Lib.hid r3; have B4 := Lib.hid b4; have E4 := Lib.hid e4; have Bel4 := Lib.hid bel4
  clear gd hn h1 r3 gr hlt0 b4 e4 bel4
  go_wp2_with (refine wpList_store_whole rfl 40 _ _ rfl w.heap.size rfl cs ZVote 40 rfl B4.out (by rw [Hn.out, ZVote_length]) H1.out (sizeVote _ Hn.out) ?_)
  intro w5 g5 s5 b5
  have r5 := R3.out.e.grown g5 (by have := Hp.out; simp; omega)
  have e5 := E4.out.grown g5 (by simp)
  have gd5 := HHK.out.grown GD.out g5 (by omega)
  have bel5 : Below w.heap.size w w5 := Bel4.out.trans ⟨g5.os, g5.tape, g5.output, g5.size, fun k hk => g5.block k (by have := Bel4.out.size; omega) (by simp; omega)⟩
  have R5 := Lib.hid r5; have E5 := Lib.hid e5; have GD5 := Lib.hid gd5; have B5 := Lib.hid b5; have Bel5 := Lib.hid bel5
  clear g5 s5 b5 r5 e5 gd5 bel5
  go_wp2_with fail
  refine (REnd p rest w5 R5.out).mono ?_
  rintro e w' ⟨rfl, rfl⟩
  by_cases hrest : rest = some []
  · subst hrest
    have q0 : (rdEnd (some []) == 0) = true := rfl
    go_wp2_with (first | (go_at_call 75; refine (must_yes _).mono ?_; rintro e w' ⟨rfl, rfl⟩) | refine wpList_load_part rfl 40 _ rfl w.heap.size 0 rfl cs _ B5.out.row Tryz.underlying40 rfl (sizeVote _ Hn.out) ?_)
    refine (HHG.out cs w5 GD5.out).mono ?_
    rintro e w6 ⟨he, hb6⟩
    have bel6 := Bel5.out.trans (hb6.mono Bel5.out.size)
    have b6 := B5.out.below hb6 B5.out.lt
    have e6 := E5.out.below hb6 (World.block_lt_of_cell? w5 ⟨w.heap.size + 1, 0, none⟩ E5.out.1)
    have gd6 := HHK.out.below GD5.out hb6
    have B6 := Lib.hid b6; have E6 := Lib.hid e6; have GD6 := Lib.hid gd6; have Bel6 := Lib.hid bel6
    clear b6 e6 gd6 bel6 hb6
    cases ok with
    | true =>
      obtain rfl := he
      go_wp2_with (first | (refine wpList_load_part rfl 40 _ rfl w.heap.size 0 rfl cs _ B6.out.row Tryz.underlying40 rfl (sizeVote _ Hn.out) ?_) | (refine wpList_store_whole rfl 40 _ _ rfl w.heap.size rfl cs cs 40 rfl B6.out rfl H1.out (sizeVote _ Hn.out) ?_))
      intro w7 g7 s7 b7
      have e7 := E6.out.grown g7 (by simp)
      have gd7 := HHK.out.grown GD6.out g7 (by omega)
      have bel7 : Below w.heap.size w w7 := Bel6.out.trans ⟨g7.os, g7.tape, g7.output, g7.size, fun k hk => g7.block k (by have := Bel6.out.size; omega) (by simp; omega)⟩
      obtain ⟨c7, f7⟩ := id e7
      have E7 := Lib.hid e7; have GD7 := Lib.hid gd7; have Bel7 := Lib.hid bel7; have B7 := Lib.hid b7
      clear g7 s7 b7 e7 gd7 bel7
      go_wp2
      refine leaves_cons (f := 129) (args := #[.pointer (some ⟨w.heap.size, 0, none⟩), .pointer (some ⟨w.heap.size + 1, 0, none⟩)]) (by simp) (by simp [go_sem]) ?_
      refine (decCatchVote_idle _ _ _).mono ?_
      rintro e u' w'' ⟨rfl, rfl, rfl⟩
      have bf : Blk (w7.setCell ⟨w.heap.size + 1, 0, none⟩ (.int .i64 0)) w.heap.size cs 40 := (Below.heap_setCell w7 ⟨w.heap.size + 1, 0, none⟩ _ w.heap.size (by simp)).trans B7.out
      refine ⟨.tuple #[.agg cs.toArray, .int .i64 0], results_two rfl _ _ ⟨w.heap.size, 0, none⟩ ⟨w.heap.size + 1, 0, none⟩ _ _ rfl rfl (run_loadVar_part _ _ _ 40 cs _ bf.row Tryz.underlying40 rfl (sizeVote _ Hn.out)) (run_loadVar_plain _ _ _ _ _ Tryz.underlying33 rfl (E7.out.set _).1), ?_⟩
      exact ⟨Bel7.out.setCell (by simp) _, cs, rfl, HHK.out.grown GD7.out (Lib.grownBy_setCell w7 (w.heap.size + 1) 0 _) (by omega)⟩
    | false =>
      obtain rfl := he
      refine leaves_cons (f := 129) (args := #[.pointer (some ⟨w.heap.size, 0, none⟩), .pointer (some ⟨w.heap.size + 1, 0, none⟩)]) (by simp) (by simp [go_sem]) ?_
      refine (decCatchVote_panicking w.heap.size cs _ _ B6.out Hn.out E6.out).mono ?_
      rintro e u' w'' ⟨rfl, rfl, k1, k2, k3⟩
      refine ⟨.tuple #[.agg ZVote.toArray, .int .i64 61], results_two rfl _ _ ⟨w.heap.size, 0, none⟩ ⟨w.heap.size + 1, 0, none⟩ _ _ rfl rfl (run_loadVar_part _ _ _ 40 ZVote _ k1.row Tryz.underlying40 rfl (sizeVote _ ZVote_length)) (run_loadVar_plain _ _ _ _ _ Tryz.underlying33 rfl k2.1), ?_⟩
      exact ⟨Bel6.out.trans k3, by simp⟩
  · have q0 := rdEnd_nz hrest
    go_wp2_with (go_at_call 75; refine (must_no _).mono ?_; rintro e w' ⟨rfl, rfl⟩)
    refine leaves_cons (f := 129) (args := #[.pointer (some ⟨w.heap.size, 0, none⟩), .pointer (some ⟨w.heap.size + 1, 0, none⟩)]) (by simp) (by simp [go_sem]) ?_
    refine (decCatchVote_panicking w.heap.size cs _ _ B5.out Hn.out E5.out).mono ?_
    rintro e u' w'' ⟨rfl, rfl, k1, k2, k3⟩
    refine ⟨.tuple #[.agg ZVote.toArray, .int .i64 61], results_two rfl _ _ ⟨w.heap.size, 0, none⟩ ⟨w.heap.size + 1, 0, none⟩ _ _ rfl rfl (run_loadVar_part _ _ _ 40 ZVote _ k1.row Tryz.underlying40 rfl (sizeVote _ ZVote_length)) (run_loadVar_plain _ _ _ _ _ Tryz.underlying33 rfl k2.1), ?_⟩
    exact ⟨Bel5.out.trans k3, by simp [hrest]⟩

set_option maxHeartbeats 1000000 in
theorem decodeVote_not (F G : FuncId) (v : Value) (l : List UInt8) (w : World) (Good : List Value → World → Prop) (hv : RdB w v l) (hl : l.length ≤ 100000000000)
    (hF : ∀ args w, (callFunc F args).run Tryz.prog w = .ok (.enter F args) w) (_hG : ∀ args w, (callFunc G args).run Tryz.prog w = .ok (.enter G args) w)
    (HF : TakesNot F w l) :
    Calls Tryz.prog 93 #[v, .func (.func F) #[] #[], .func (.func G) #[] #[]] w (DecPost Good false ZVote w) := by
  have hmf : ∀ (fn : Fn) (first cap : Array Value) (w : World), (Instr.makeFunc fn first cap).run Tryz.prog w = .ok (.func fn first cap) w := fun _ _ _ _ => rfl
  have Hv := Lib.hid hv; have Hl := Lib.hid hl; have HHF := Lib.hid HF
  clear hv hl HF
  go_enter_defers Tryz.func93, Tryz.ntmps93
  go_wp2_with (refine wpList_alloc_as rfl 40 rfl ZVote ZVote_info ?_)
  intro W1 b1 g1 s1
  have B1 := Lib.hid b1; have G1 := Lib.hid g1; clear b1 g1
  go_wp2_with (refine wpList_alloc_as rfl 33 rfl [.int .i64 0] (by kernel_rfl) ?_)
  intro W2 b2 g2 s2
  have B2 := Lib.hid b2; have G2 := Lib.hid g2; have S2 := Lib.hid s2; clear b2 g2 s1
  go_wp2_with fail
  have gW := Lib.grownBy_trans G1.out G2.out
  refine (NewReader_any v l W2 (Hv.out.grown gW) Hl.out).mono ?_
  rintro e w3 ⟨p, rfl, r1, hp, r2⟩
  rw [s2] at hp
  have R1 := Lib.hid r1; have R2 := Lib.hid r2; have Hp := Lib.hid hp; have GW := Lib.hid gW
  clear r1 r2 hp gW s2
  go_wp2_with fail
  refine (HHF.out p w3 R1.out Hp.out).mono ?_
  rintro e w4 ⟨rfl, gr⟩
  have hlt0 : w.heap.size + 2 ≤ W2.heap.size := by rw [S2.out]; omega
  have b4 : Blk w4 w.heap.size ZVote 40 := (((B1.out.grown G2.out (by simp)).below R2.out (by have := hlt0; omega)).grown gr (by have := Hp.out; simp; omega))
  have e4 : One w4 (w.heap.size + 1) (.int .i64 0) := (((One.of_blk B2.out).below R2.out (by have := hlt0; omega)).grown gr (by have := Hp.out; simp; omega))
  have bel4 : Below w.heap.size w w4 := by
    have q1 : Below w.heap.size w W2 := ⟨GW.out.os, GW.out.tape, GW.out.output, GW.out.size, fun k hk => GW.out.block k hk (by simp)⟩
    have q2 := q1.trans (R2.out.mono (by omega))
    exact q2.trans ⟨gr.os, gr.tape, gr.output, gr.size, fun k hk => gr.block k (by have := q2.size; omega) (by have := Hp.out; simp; omega)⟩
  refine leaves_cons (f := 129) (args := #[.pointer (some ⟨w.heap.size, 0, none⟩), .pointer (some ⟨w.heap.size + 1, 0, none⟩)]) (by simp) (by simp [go_sem]) ?_
  refine (decCatchVote_panicking w.heap.size ZVote _ _ b4 ZVote_length e4).mono ?_
  rintro e u' w'' ⟨rfl, rfl, k1, k2, k3⟩
  refine ⟨.tuple #[.agg ZVote.toArray, .int .i64 61], results_two rfl _ _ ⟨w.heap.size, 0, none⟩ ⟨w.heap.size + 1, 0, none⟩ _ _ rfl rfl (run_loadVar_part _ _ _ 40 ZVote _ k1.row Tryz.underlying40 rfl (sizeVote _ ZVote_length)) (run_loadVar_plain _ _ _ _ _ Tryz.underlying33 rfl k2.1), ?_⟩
  exact ⟨bel4.trans k3, by simp⟩

/-- a signature, read -/
def rdSig (s : RS) : (Nat × Nat) × RS := (((rdWord s).1, (rdWord (rdWord s).2).1), (rdWord (rdWord s).2).2)
def sigCells (s : Nat × Nat) : List Value := [.int .u64 s.1, .int .u64 s.2]
theorem rdWord_R (s : RS) : u64R (rdWord s).1 := by
  unfold rdWord u64R
  cases s with
  | none => simp
  | some l =>
    dsimp only
    split
    · rename_i h
      have := ofBe_lt (l.take 8)
      rw [List.length_take, Nat.min_eq_left h] at this
      refine ⟨by omega, by omega⟩
    · simp
theorem rdSig_R (s : RS) : u64R (rdSig s).1.1 ∧ u64R (rdSig s).1.2 := ⟨rdWord_R _, rdWord_R _⟩
set_option maxHeartbeats 400000 in
theorem RSig (p : Nat) (st : RS) (w : World) (h : IsR w p st) :
    Calls Tryz.prog 100 #[.pointer (some ⟨p, 0, none⟩)] w (Reads (.agg (sigCells (rdSig st).1).toArray) (rdSig st).2 p w) := by
  have H := Lib.hid h
  clear h
  go_enter Tryz.func100, Tryz.ntmps100
  go_wp2_with (refine wpList_alloc_as rfl 38 rfl [.int .u64 0, .int .u64 0] (by kernel_rfl) ?_)
  intro W1 b1 g1 s1
  have B1 := Lib.hid b1; have G1 := Lib.hid g1
  have hlt := H.out.lt
  have hne : w.heap.size ≠ p := by omega
  have R := Lib.hid (H.out.grown g1)
  clear b1 g1 s1
  go_wp2_with fail
  refine (RWord p _ _ R.out).mono ?_
  rintro e w2 ⟨rfl, h1, h2⟩
  replace R := Lib.hid h1; have G := Lib.hid h2; clear h1 h2
  go_wp2_with fail
  refine (RWord p _ _ R.out).mono ?_
  rintro e w3 ⟨rfl, h1, h2⟩
  replace R := Lib.hid h1; replace G := Lib.hid (Lib.grownBy_trans G.out h2); clear h1 h2
  go_wp2_with (refine wpList_store_whole rfl 38 _ _ rfl w.heap.size rfl (sigCells (rdSig st).1) _ 38 rfl (B1.out.grown G.out (by simp; exact hne)) rfl (by simp [sigCells, Value.oneCell']) (by kernel_rfl) ?_)
  intro w20 g20 s20 b20
  have B20 := Lib.hid b20; have G20 := Lib.hid g20; clear b20 g20 s20
  go_wp2_with fail
  refine bodyPost_ret (results_cell_one rfl _ _ ⟨w.heap.size, 0, none⟩ _ rfl (run_loadVar_part _ _ _ 38 (sigCells (rdSig st).1) _ B20.out.row Tryz.underlying38 rfl (by kernel_rfl))) rfl ?_
  exact ⟨rfl, R.out.grownAt G20.out hlt, grown_new (Lib.grownBy_trans (grown_none G1.out) G.out) G20.out (Nat.le_refl _)⟩

def voteS0 (s : RS) : RS := s
def voteS1 (s : RS) : RS := (rdText (voteS0 s)).2
def voteS2 (s : RS) : RS := (rdNum (voteS1 s)).2
def voteS3 (s : RS) : RS := (rdNum (voteS2 s)).2
def voteS4 (s : RS) : RS := (rdNum (voteS3 s)).2
def voteS5 (s : RS) : RS := (rdHash (voteS4 s)).2
def voteS6 (s : RS) : RS := (rdWord (voteS5 s)).2
def voteS7 (s : RS) : RS := (rdSig (voteS6 s)).2
/-- what stands next, read as a vote; behind its kind -/
def rdVote (s : RS) : VoteD × RS := ({ chain := ⟨(rdText (voteS0 s)).1.toArray⟩, height := (rdNum (voteS1 s)).1, round := (rdNum (voteS2 s)).1, type := (rdNum (voteS3 s)).1, block := (rdHash (voteS4 s)).1, key := (rdWord (voteS5 s)).1, r := (rdSig (voteS6 s)).1.1, s := (rdSig (voteS6 s)).1.2 }, voteS7 s)
def decVote (l : List UInt8) : Option VoteD :=
  if (rdNum (some l)).1 = 1 ∧ (rdVote (rdNum (some l)).2).2 = some [] ∧ okVote (rdVote (rdNum (some l)).2).1 = true then some (rdVote (rdNum (some l)).2).1 else none
theorem rdVote_wf (s : RS) : (rdVote s).1.wf := ⟨str_ok (rdText_len _), rdNum_R _, rdNum_R _, rdNum_R _, rdHash_len _, rdWord_R _, (rdSig_R _).1, (rdSig_R _).2⟩
def rdVote_vs (s0 : RS) : List Value := [.string ⟨(rdText (voteS0 s0)).1.toArray⟩, .int .i64 (rdNum (voteS1 s0)).1, .int .i64 (rdNum (voteS2 s0)).1, .int .i64 (rdNum (voteS3 s0)).1, .agg (Lib.byteCells (rdHash (voteS4 s0)).1).toArray, .int .u64 (rdWord (voteS5 s0)).1, .agg (sigCells (rdSig (voteS6 s0)).1).toArray]
theorem rdVote_flat (s0 : RS) : flatCells (rdVote_vs s0) = (rdVote s0).1.cells := by simp [flatCells, rdVote_vs, rdVote, VoteD.cells, Value.cells, sigCells]
theorem rdVote_laid (s0 : RS) : Laid (([(0, 1), (1, 1), (2, 1), (3, 1), (4, 32), (36, 1), (37, 2)] : List (Nat × Nat)).toArray[·]?) 0 0 (rdVote_vs s0) := by
  refine ⟨?_, ?_, ?_, ?_, ?_, ?_, ?_, trivial⟩ <;> simp [Value.cells, Lib.byteCells_length, rdHash_len, sigCells]
theorem VoteD_one (v : VoteD) : ∀ x ∈ v.cells, x.oneCell' = true := by
  have hb := fun (l : List UInt8) x (h : x ∈ Lib.byteCells l) => oneCell_bytes l x h
  intro x hx
  simp only [VoteD.cells, List.mem_append, List.mem_cons, List.not_mem_nil, or_false] at hx
  grind [Value.oneCell']

set_option maxHeartbeats 1000000 in
theorem VoteBody_yes (p : Nat) (st : RS) (w1 : World) (h : IsR w1 p st) (hk : (rdNum st).1 = 1) :
    Calls Tryz.prog 94 #[.pointer (some ⟨p, 0, none⟩)] w1 (Reads (.agg (rdVote (rdNum st).2).1.cells.toArray) (rdVote (rdNum st).2).2 p w1) := by
  have H := Lib.hid h; have Hk := Lib.hid hk
  clear h hk
  go_enter Tryz.func94, Tryz.ntmps94
  go_wp2_with (refine wpList_alloc_as rfl 40 rfl ZVote ZVote_info ?_)
  intro W1 b1 g1 s1
  have B1 := Lib.hid b1; have G1 := Lib.hid g1
  have hlt := H.out.lt
  have hne : w1.heap.size ≠ p := by omega
  have H1 := Lib.hid (H.out.grown g1)
  clear b1 g1 s1
  go_wp2_with fail
  refine (kind_yes p 1 _ _ H1.out Hk.out).mono ?_
  rintro e w2 ⟨rfl, h1, h2⟩
  have R := Lib.hid h1; have G := Lib.hid h2; clear h1 h2
  obtain ⟨s0, hs0⟩ : ∃ s0, (rdNum st).2 = s0 := ⟨_, rfl⟩
  rw [hs0] at R
  have Hs0 := Lib.hid hs0; clear hs0
  go_wp2_with fail
  refine (RText p (voteS0 s0) _ R.out).mono ?_
  rintro e w3 ⟨rfl, h1, h2⟩
  replace R := Lib.hid (show IsR w3 p (voteS1 s0) from h1); replace G := Lib.hid (Lib.grownBy_trans G.out h2); clear h1 h2
  go_wp2_with fail
  refine (RNumber p (voteS1 s0) _ R.out).mono ?_
  rintro e w4 ⟨rfl, h1, h2⟩
  replace R := Lib.hid (show IsR w4 p (voteS2 s0) from h1); replace G := Lib.hid (Lib.grownBy_trans G.out h2); clear h1 h2
  go_wp2_with fail
  refine (RNumber p (voteS2 s0) _ R.out).mono ?_
  rintro e w5 ⟨rfl, h1, h2⟩
  replace R := Lib.hid (show IsR w5 p (voteS3 s0) from h1); replace G := Lib.hid (Lib.grownBy_trans G.out h2); clear h1 h2
  go_wp2_with fail
  refine (RNumber p (voteS3 s0) _ R.out).mono ?_
  rintro e w6 ⟨rfl, h1, h2⟩
  replace R := Lib.hid (show IsR w6 p (voteS4 s0) from h1); replace G := Lib.hid (Lib.grownBy_trans G.out h2); clear h1 h2
  go_wp2_with fail
  refine (RHash p (voteS4 s0) _ R.out).mono ?_
  rintro e w7 ⟨rfl, h1, h2⟩
  replace R := Lib.hid (show IsR w7 p (voteS5 s0) from h1); replace G := Lib.hid (Lib.grownBy_trans G.out h2); clear h1 h2
  go_wp2_with fail
  refine (RWord p (voteS5 s0) _ R.out).mono ?_
  rintro e w8 ⟨rfl, h1, h2⟩
  replace R := Lib.hid (show IsR w8 p (voteS6 s0) from h1); replace G := Lib.hid (Lib.grownBy_trans G.out h2); clear h1 h2
  go_wp2_with fail
  refine (RSig p (voteS6 s0) _ R.out).mono ?_
  rintro e w9 ⟨rfl, h1, h2⟩
  replace R := Lib.hid (show IsR w9 p (voteS7 s0) from h1); replace G := Lib.hid (Lib.grownBy_trans G.out h2); clear h1 h2
  have Hc := Lib.hid ((rdVote s0).1.cells_length (rdVote_wf s0))
  go_wp2_with (first | (refine wpList_build_as rfl 40 _ rfl (rdVote_vs s0) (by kernel_rfl) _ (rdVote_flat s0) _ _ Tryz.underlying40 (by kernel_rfl) 39 Hc.out (by kernel_rfl) (rdVote_laid s0) ?_) | (refine wpList_store_whole rfl 40 _ _ rfl w1.heap.size rfl (rdVote s0).1.cells ZVote 40 rfl (B1.out.grown G.out (by simp; exact hne)) (by rw [Hc.out]; rfl) (VoteD_one _) (sizeVote _ Hc.out) ?_))
  intro w20 g20 s20 b20
  have B20 := Lib.hid b20; have G20 := Lib.hid g20; clear b20 g20 s20
  go_wp2_with fail
  refine bodyPost_ret (results_cell_one rfl _ _ ⟨w1.heap.size, 0, none⟩ _ rfl (run_loadVar_part _ _ _ 40 (rdVote s0).1.cells _ B20.out.row Tryz.underlying40 rfl (sizeVote _ Hc.out))) rfl ?_
  obtain rfl := Hs0.out
  exact ⟨rfl, R.out.grownAt G20.out hlt, grown_new (Lib.grownBy_trans (grown_none G1.out) G.out) G20.out (Nat.le_refl _)⟩

set_option maxHeartbeats 400000 in
theorem VoteBody_no (p : Nat) (st : RS) (w1 : World) (h : IsR w1 p st) (hk : (rdNum st).1 ≠ 1) :
    Calls Tryz.prog 94 #[.pointer (some ⟨p, 0, none⟩)] w1 fun e w2 => e = .panicked wrongP ∧ w1.grownBy w2 (some p) := by
  have H := Lib.hid h; have Hk := Lib.hid hk
  clear h hk
  go_enter Tryz.func94, Tryz.ntmps94
  go_wp2_with (refine wpList_alloc_as rfl 40 rfl ZVote ZVote_info ?_)
  intro W1 b1 g1 s1
  have G1 := Lib.hid g1
  have H1 := Lib.hid (H.out.grown g1)
  clear b1 g1 s1
  go_wp2_with fail
  refine (kind_no p 1 _ _ H1.out Hk.out).mono ?_
  rintro e w2 ⟨rfl, h2⟩
  exact ⟨rfl, rfl, Lib.grownBy_trans (grown_none G1.out) h2⟩

theorem enters_VoteBody : ∀ args w, (callFunc 94 args).run Tryz.prog w = .ok (.enter 94 args) w := enters Tryz.func94 (by kernel_rfl) rfl
theorem enters_checkVote : ∀ args w, (callFunc 41 args).run Tryz.prog w = .ok (.enter 41 args) w := enters Tryz.func41 (by kernel_rfl) rfl

theorem decVote_wf {l : List UInt8} {v : VoteD} (h : decVote l = some v) : v.wf := by
  unfold decVote at h
  split at h
  · injection h with h; subst h; exact rdVote_wf _
  · cases h
theorem decVote_t (l : List UInt8) (hk : (rdNum (some l)).1 = 1) (h : (decide ((rdVote (rdNum (some l)).2).2 = some []) && okVote (rdVote (rdNum (some l)).2).1) = true) : (decVote l).map VoteD.cells = some (rdVote (rdNum (some l)).2).1.cells := by
  rw [Bool.and_eq_true] at h
  unfold decVote
  rw [if_pos ⟨hk, of_decide_eq_true h.1, h.2⟩]; rfl
theorem decVote_f (l : List UInt8) (h : (decide ((rdVote (rdNum (some l)).2).2 = some []) && okVote (rdVote (rdNum (some l)).2).1) = false) : (decVote l).map VoteD.cells = none := by
  unfold decVote
  rw [if_neg]; · rfl
  intro hc
  rw [hc.2.2, decide_eq_true hc.2.1] at h
  cases h
theorem decVote_k (l : List UInt8) (hk : (rdNum (some l)).1 ≠ 1) : (decVote l).map VoteD.cells = none := by
  unfold decVote
  rw [if_neg (fun h => hk h.1)]; rfl

theorem decodeVote_any (v : Value) (l : List UInt8) (w : World) (hv : RdB w v l) (hl : l.length ≤ 100000000000) :
    Calls Tryz.prog 93 #[v, .func (.func 94) #[] #[], .func (.func 41) #[] #[]] w (Decodes ((decVote l).map VoteD.cells) ZVote w) := by
  by_cases hk : (rdNum (some l)).1 = 1
  · refine (decodeVote_gen 94 41 v l w (fun cs _ => cs = (rdVote (rdNum (some l)).2).1.cells) (rdVote (rdNum (some l)).2).2 (okVote (rdVote (rdNum (some l)).2).1) hv hl enters_VoteBody enters_checkVote (fun p w1 h _ => (VoteBody_yes p (some l) w1 h hk).mono fun e w2 hr => ⟨_, hr.1, rfl, (rdVote (rdNum (some l)).2).1.cells_length (rdVote_wf _), VoteD_one _, hr.2.1, hr.2.2⟩)
      (fun cs w1 hc => by subst hc; exact checkVote_any _ w1 (rdVote_wf _)) (fun cs w1 w2 h _ _ => h)).mono ?_
    intro e w' h
    exact Decodes.of_gen h (fun _ _ h => h) (decVote_t l hk) (decVote_f l)
  · refine (decodeVote_not 94 41 v l w (fun _ _ => True) hv hl enters_VoteBody enters_checkVote (fun p w1 h _ => VoteBody_no p (some l) w1 h hk)).mono ?_
    intro e w' h
    exact Decodes.no (decVote_k l hk) h.f.1 h.f.2

set_option maxHeartbeats 400000 in
theorem DecodeVote_any (v : Value) (l : List UInt8) (w : World) (hv : RdB w v l) (hl : l.length ≤ 100000000000) :
    Calls Tryz.prog 65 #[v] w (Decodes ((decVote l).map VoteD.cells) ZVote w) := by
  have Hv := Lib.hid hv; have Hl := Lib.hid hl
  clear hv hl
  go_enter Tryz.func65, Tryz.ntmps65
  go_wp2_with (refine wpList_alloc_as rfl 40 rfl ZVote ZVote_info ?_)
  intro W1 b1 g1 s1
  have B1 := Lib.hid b1; have G1 := Lib.hid g1; have S1 := Lib.hid s1
  clear b1 g1 s1
  go_wp2_with fail
  refine (decodeVote_any v l W1 (Hv.out.grown G1.out) Hl.out).mono ?_
  intro e w2 hd
  obtain ⟨r, hr⟩ : ∃ r, (decVote l).map VoteD.cells = r := ⟨_, rfl⟩
  have hn4 : ∀ cs, r = some cs → cs.length = 39 ∧ ∀ v ∈ cs, v.oneCell' = true := by
    intro cs hc
    rw [hc] at hr
    cases hd : decVote l with
    | none => rw [hd] at hr; cases hr
    | some pk => rw [hd] at hr; injection hr with hr; subst hr; exact ⟨pk.cells_length (decVote_wf hd), VoteD_one _⟩
  rw [hr] at hd
  have hb : Below W1.heap.size W1 w2 := hd.1
  have bel : Below w.heap.size w w2 := by
    have q1 : Below w.heap.size w W1 := ⟨G1.out.os, G1.out.tape, G1.out.output, G1.out.size, fun k hk => G1.out.block k hk (by simp)⟩
    exact q1.trans (hb.mono G1.out.size)
  have b2 := B1.out.below hb B1.out.lt
  have B2 := Lib.hid b2; have Bel := Lib.hid bel; clear b2 bel hb
  have Hr := Lib.hid hr
  clear hr
  cases r with
  | none =>
    obtain rfl := (hd.n rfl).2
    clear hd hn4
    go_wp2_with (refine wpList_store_whole rfl 40 _ _ rfl w.heap.size rfl ZVote ZVote 40 rfl B2.out rfl ZVote_one (sizeVote _ ZVote_length) ?_)
    intro w3 g3 s3 b3
    have B3 := Lib.hid b3; have G3 := Lib.hid g3; clear b3 g3 s3
    go_wp2_with fail
    refine bodyPost_ret (results_cell_tmp rfl _ _ ⟨w.heap.size, 0, none⟩ _ _ rfl rfl (run_loadVar_part _ _ _ 40 ZVote _ B3.out.row Tryz.underlying40 rfl (sizeVote _ ZVote_length))) rfl ?_
    exact Decodes.no Hr.out (Bel.out.trans ⟨G3.out.os, G3.out.tape, G3.out.output, G3.out.size, fun k hk => G3.out.block k (by have := Bel.out.size; omega) (by simp; omega)⟩) rfl
  | some cs =>
    obtain rfl := (hd.y rfl).2
    have Hc := Lib.hid (hn4 cs rfl)
    clear hd hn4
    go_wp2_with (refine wpList_store_whole rfl 40 _ _ rfl w.heap.size rfl cs ZVote 40 rfl B2.out (by rw [Hc.out.1]; rfl) Hc.out.2 (sizeVote _ Hc.out.1) ?_)
    intro w3 g3 s3 b3
    have B3 := Lib.hid b3; have G3 := Lib.hid g3; clear b3 g3 s3
    go_wp2_with fail
    refine bodyPost_ret (results_cell_tmp rfl _ _ ⟨w.heap.size, 0, none⟩ _ _ rfl rfl (run_loadVar_part _ _ _ 40 cs _ B3.out.row Tryz.underlying40 rfl (sizeVote _ Hc.out.1))) rfl ?_
    exact Decodes.yes Hr.out (Bel.out.trans ⟨G3.out.os, G3.out.tape, G3.out.output, G3.out.size, fun k hk => G3.out.block k (by have := Bel.out.size; omega) (by simp; omega)⟩) rfl

end Go.Proofs.YtcbkehnlgpcelaaGreatDoor
