/- Walks: forms.checkVote, EncodeVote, SignBytes. Walks: forms.decode at api.Vote. Walks: nuncio/forms.DecodeVote$1, nuncio/forms.DecodeVote. -/
import Derived.Test.YtbhghlendbcejaaGreatDoorForms
import Derived.Deep.Cut
import Derived.Deep.CutRange
import Derived.Test.YtbhghlendbcejaaGreatDoorDecode
import Derived.Test.YtbhghlendbcejaaGreatDoorBuild
import Derived.Test.YtbhghlendbcejaaGreatDoorReadH
import Derived.Test.YtbhghlendbcejaaGreatDoorDecPacket
namespace Go.Proofs.YtbhghlendbcejaaGreatDoor
open Go.RowKit
set_option maxRecDepth 100000

/-- a vote, as data -/
structure VoteD where
  chain : ByteArray
  height : Int
  round : Int
  type : Int
  block : List UInt8
  key : Int
  r : Int
  s : Int
structure VoteD.wf (v : VoteD) : Prop where
  chain : v.chain.size ≤ maxLen
  height : i64R v.height
  round : i64R v.round
  type : i64R v.type
  block : v.block.length = 32
  key : u64R v.key
  r : u64R v.r
  s : u64R v.s
def VoteD.cells (v : VoteD) : List Value := [.string v.chain, .int .i64 v.height, .int .i64 v.round, .int .i64 v.type] ++ Lib.byteCells v.block ++ [.int .u64 v.key, .int .u64 v.r, .int .u64 v.s]
def VoteD.val (v : VoteD) : Value := .agg v.cells.toArray
theorem VoteD.cells_length (v : VoteD) (h : v.wf) : v.cells.length = 39 := by simp [VoteD.cells, Lib.byteCells_length, h.block]
theorem VoteD.size (v : VoteD) (h : v.wf) : (Tryz.prog.info? 149).map (·.size) = some v.cells.length := by
  rw [v.cells_length h]; kernel_rfl
/-- what is read of its row -/
structure VoteD.At (w : World) (m o : Nat) (v : VoteD) : Prop where
  row : RowAt w m o v.cells
  chain : w.cell? ⟨m, o + 0, none⟩ = some (.string v.chain)
  height : w.cell? ⟨m, o + 1, none⟩ = some (.int .i64 v.height)
  round : w.cell? ⟨m, o + 2, none⟩ = some (.int .i64 v.round)
  type : w.cell? ⟨m, o + 3, none⟩ = some (.int .i64 v.type)
  block : RowAt w m (o + 4) (Lib.byteCells v.block)
  key : w.cell? ⟨m, o + 36, none⟩ = some (.int .u64 v.key)
  r : w.cell? ⟨m, o + 37, none⟩ = some (.int .u64 v.r)
  s : w.cell? ⟨m, o + 38, none⟩ = some (.int .u64 v.s)
theorem VoteD.At.of_row {w : World} {m o : Nat} {v : VoteD} (hv : v.wf) (h : RowAt w m o v.cells) : VoteD.At w m o v := by
  refine ⟨h, ?_, ?_, ?_, ?_, ?_, ?_, ?_, ?_⟩
  · exact h 0 _ (by simp [VoteD.cells, Lib.byteCells_length, hv.block])
  · exact h 1 _ (by simp [VoteD.cells, Lib.byteCells_length, hv.block])
  · exact h 2 _ (by simp [VoteD.cells, Lib.byteCells_length, hv.block])
  · exact h 3 _ (by simp [VoteD.cells, Lib.byteCells_length, hv.block])
  · have e : (v.cells.drop 4).take 32 = Lib.byteCells v.block := by simp [VoteD.cells, List.drop_append, Lib.byteCells_length, hv.block]
    exact e ▸ h.part 4 32
  · exact h 36 _ (by simp [VoteD.cells, Lib.byteCells_length, hv.block])
  · exact h 37 _ (by simp [VoteD.cells, Lib.byteCells_length, hv.block])
  · exact h 38 _ (by simp [VoteD.cells, Lib.byteCells_length, hv.block])
theorem VoteD.At.below {B : Nat} {w w' : World} {m o : Nat} {v : VoteD} (h : VoteD.At w m o v) (hv : v.wf) (hb : Below B w w') (hm : m < B) : VoteD.At w' m o v := VoteD.At.of_row hv (h.row.below hb hm)
def okVote (v : VoteD) : Bool := nameL v.chain.data.toList && (inR v.height 1 1099511627776 && (inR v.round 0 1048576 && (inR v.type 1 2)))
def encVote (v : VoteD) : List UInt8 := be64 1 ++ textL v.chain ++ be64 v.height ++ be64 v.round ++ be64 v.type ++ v.block ++ be64 v.key ++ be64 v.r ++ be64 v.s
theorem okVote_len {v : VoteD} (h : okVote v = true) : v.chain.size ≤ 16 := by
  unfold okVote at h; simp only [Bool.and_eq_true] at h
  have := (nameL_len h.1).2
  simpa using this

set_option maxHeartbeats 1000000 in
theorem checkVote_any (v : VoteD) (w : World) (hv : v.wf) : Calls Tryz.prog 200 #[v.val] w (RetB (okVote v) w) := by
  unfold VoteD.val
  have A := VoteD.At.of_row hv (RowAt_box w v.cells 149)
  have c0 := A.chain; rw [Nat.zero_add] at c0; have c1 := A.height; rw [Nat.zero_add] at c1; have c2 := A.round; rw [Nat.zero_add] at c2; have c3 := A.type; rw [Nat.zero_add] at c3
  have HA := Lib.hid A; have Hv := Lib.hid hv
  clear A hv
  go_enter Tryz.func200, Tryz.ntmps200
  have Hb := Lib.hid (below_box w (.cells v.cells.toArray 149))
  have HS := Lib.hid (show w.heap.size + 1 ≤ (w.alloc (.cells v.cells.toArray 149)).heap.size by simp)
  go_wp2_with fail
  cases h0 : nameL v.chain.data.toList
  · refine (name_no _ _ h0).mono ?_
    rintro e w1 ⟨rfl, hb⟩
    exact ⟨rfl, RetB.no (by simp only [okVote, h0, Bool.false_and]) (Hb.out.trans (hb.mono (by have := HS.out; have := Hb.out.size; omega)))⟩
  refine (name_yes _ _ h0).mono ?_
  rintro e w1 ⟨rfl, hb⟩
  have A1 := HA.out.below Hv.out hb (by have := HS.out; omega)
  clear c0 c1 c2 c3
  have c0 := A1.chain; rw [Nat.zero_add] at c0; have c1 := A1.height; rw [Nat.zero_add] at c1; have c2 := A1.round; rw [Nat.zero_add] at c2; have c3 := A1.type; rw [Nat.zero_add] at c3
  replace Hb := Lib.hid (Hb.out.trans (hb.mono (by have := HS.out; have := Hb.out.size; omega)))
  replace HS := Lib.hid (Nat.le_trans HS.out hb.size)
  replace HA := Lib.hid A1
  have H0 := Lib.hid h0; clear h0 A1 hb
  go_wp2_with fail
  cases h1 : inR v.height 1 1099511627776
  · refine (within_f _ _ _ _ h1).mono ?_
    rintro e w' ⟨rfl, rfl⟩
    exact ⟨rfl, RetB.no (by simp only [okVote, h1, Bool.and_false, Bool.false_and]) Hb.out⟩
  refine (within_t _ _ _ _ h1).mono ?_
  rintro e w' ⟨rfl, rfl⟩
  have H1 := Lib.hid h1; clear h1
  go_wp2_with fail
  cases h2 : inR v.round 0 1048576
  · refine (within_f _ _ _ _ h2).mono ?_
    rintro e w' ⟨rfl, rfl⟩
    exact ⟨rfl, RetB.no (by simp only [okVote, h2, Bool.and_false, Bool.false_and]) Hb.out⟩
  refine (within_t _ _ _ _ h2).mono ?_
  rintro e w' ⟨rfl, rfl⟩
  have H2 := Lib.hid h2; clear h2
  go_wp2_with fail
  cases h3 : inR v.type 1 2
  · refine (within_f _ _ _ _ h3).mono ?_
    rintro e w' ⟨rfl, rfl⟩
    exact ⟨rfl, RetB.no (by simp only [okVote, h3, Bool.and_false]) Hb.out⟩
  refine (within_t _ _ _ _ h3).mono ?_
  rintro e w' ⟨rfl, rfl⟩
  have H3 := Lib.hid h3; clear h3
  go_wp2_with fail
  go_end0
  exact RetB.yes (by simp only [okVote, H0.out, H1.out, H2.out, H3.out, Bool.and_self]) Hb.out

theorem checkVote_yes (v : VoteD) (w : World) (hv : v.wf) (h : okVote v = true) : Calls Tryz.prog 200 #[v.val] w fun e w' => e = .returned (.tuple #[]) ∧ Below w.heap.size w w' :=
  (checkVote_any v w hv).mono fun e w' hp => by unfold RetB at hp; rw [h] at hp; exact hp
theorem checkVote_no (v : VoteD) (w : World) (hv : v.wf) (h : okVote v = false) : Calls Tryz.prog 200 #[v.val] w fun e w' => e = .panicked wrongP ∧ Below w.heap.size w w' :=
  (checkVote_any v w hv).mono fun e w' hp => by unfold RetB at hp; rw [h] at hp; exact hp

set_option maxHeartbeats 1000000 in
theorem EncodeVoteBody_yes (v : VoteD) (hv : v.wf) (h : okVote v = true) (m B0 : Nat) (w : World) (hm : m < B0) (hA : VoteD.At w m 0 v) :
    Writes 199 #[.pointer (some ⟨m, 0, none⟩)] B0 w (encVote v) false := by
  intro w1 b hW hbel hB0
  have HA := Lib.hid (hA.below hv hbel hm)
  have Hv := Lib.hid hv; have HW := Lib.hid hW; have H := Lib.hid h
  have hmb : m < b := by omega
  have Hrow := Lib.hid HA.out.row
  clear hA hv hW hbel h hm hB0
  go_enter Tryz.func199, Tryz.ntmps199
  go_wp2_with (refine wpList_load_part rfl 149 _ rfl m 0 rfl v.cells _ Hrow.out Tryz.underlying149 rfl (v.size Hv.out) ?_)
  refine (checkVote_yes v _ Hv.out H.out).mono ?_
  rintro e w2 ⟨rfl, hb⟩
  have HS := Lib.hid ((St.start HW.out).over hb)
  replace HA := Lib.hid (HA.out.below Hv.out hb (by have := HW.out.lt; omega))
  clear hb
  go_wp2_with fail
  refine (Number_st HS.out (by omega) _).mono ?_
  rintro e w' ⟨rfl, k1, k2⟩
  replace HA := Lib.hid (HA.out.below Hv.out k2.1 hmb); replace HS := Lib.hid k1; clear k1 k2
  have c := HA.out.chain; rw [Nat.zero_add] at c
  go_wp2_with fail
  refine (Text_st HS.out (by omega) _ 16 (okVote_len H.out) (by omega)).mono ?_
  rintro e w' ⟨rfl, k1, k2⟩
  replace HA := Lib.hid (HA.out.below Hv.out k2.1 hmb); replace HS := Lib.hid k1; clear k1 k2 c
  have c := HA.out.height; rw [Nat.zero_add] at c
  go_wp2_with fail
  refine (Number_st HS.out (by omega) _).mono ?_
  rintro e w' ⟨rfl, k1, k2⟩
  replace HA := Lib.hid (HA.out.below Hv.out k2.1 hmb); replace HS := Lib.hid k1; clear k1 k2 c
  have c := HA.out.round; rw [Nat.zero_add] at c
  go_wp2_with fail
  refine (Number_st HS.out (by omega) _).mono ?_
  rintro e w' ⟨rfl, k1, k2⟩
  replace HA := Lib.hid (HA.out.below Hv.out k2.1 hmb); replace HS := Lib.hid k1; clear k1 k2 c
  have c := HA.out.type; rw [Nat.zero_add] at c
  go_wp2_with fail
  refine (Number_st HS.out (by omega) _).mono ?_
  rintro e w' ⟨rfl, k1, k2⟩
  replace HA := Lib.hid (HA.out.below Hv.out k2.1 hmb); replace HS := Lib.hid k1; clear k1 k2 c
  have HR := Lib.hid HA.out.block
  go_wp2_with (refine wpList_load_part rfl 23 _ rfl m 4 rfl (Lib.byteCells v.block) _ (Nat.zero_add 4 ▸ HR.out) Tryz.underlying23 rfl (hash_size _ Hv.out.block) ?_)
  refine (Hash_st HS.out (by omega) _ Hv.out.block).mono ?_
  rintro e w' ⟨rfl, k1, k2⟩
  replace HA := Lib.hid (HA.out.below Hv.out k2.1 hmb); replace HS := Lib.hid k1; clear k1 k2 HR
  have c := HA.out.key; rw [Nat.zero_add] at c
  go_wp2_with fail
  refine (Word_st HS.out (by omega) _ Hv.out.key).mono ?_
  rintro e w' ⟨rfl, k1, k2⟩
  replace HA := Lib.hid (HA.out.below Hv.out k2.1 hmb); replace HS := Lib.hid k1; clear k1 k2 c
  have c := HA.out.r; rw [Nat.zero_add] at c
  go_wp2_with fail
  refine (Word_st HS.out (by omega) _ Hv.out.r).mono ?_
  rintro e w' ⟨rfl, k1, k2⟩
  replace HA := Lib.hid (HA.out.below Hv.out k2.1 hmb); replace HS := Lib.hid k1; clear k1 k2 c
  have c := HA.out.s; rw [Nat.zero_add] at c
  go_wp2_with fail
  refine (Word_st HS.out (by omega) _ Hv.out.s).mono ?_
  rintro e w' ⟨rfl, k1, k2⟩
  replace HA := Lib.hid (HA.out.below Hv.out k2.1 hmb); replace HS := Lib.hid k1; clear k1 k2 c
  go_wp2_with fail
  go_end0
  exact ⟨rfl, HS.out.isW, HS.out.bel⟩

set_option maxHeartbeats 400000 in
theorem EncodeVoteBody_no (v : VoteD) (hv : v.wf) (h : okVote v = false) (m B0 : Nat) (w : World) (hm : m < B0) (hA : VoteD.At w m 0 v) :
    Throws 199 #[.pointer (some ⟨m, 0, none⟩)] B0 w := by
  intro w1 b hW hbel hB0
  have A := hA.below hv hbel hm
  have Hv := Lib.hid hv; have H := Lib.hid h; have HW := Lib.hid hW
  have Hrow := Lib.hid A.row
  clear hA A hv hW hbel h hm hB0
  go_enter Tryz.func199, Tryz.ntmps199
  go_wp2_with (refine wpList_load_part rfl 149 _ rfl m 0 rfl v.cells _ Hrow.out Tryz.underlying149 rfl (v.size Hv.out) ?_)
  refine (checkVote_no v _ Hv.out H.out).mono ?_
  rintro e w2 ⟨rfl, hb⟩
  exact ⟨rfl, rfl, hb.mono (by have := HW.out.lt; omega)⟩

theorem encVote_pos (v : VoteD) : 0 < (encVote v).length := by simp [encVote, be64_length]; omega
theorem encVote_len (v : VoteD) (hv : v.wf) (h : okVote v = true) : (encVote v).length ≤ 1000 := by
  have := okVote_len h
  simp [encVote, be64_length, textL_length, hv.block]; omega

set_option maxHeartbeats 400000 in
theorem EncodeVote_yes (v : VoteD) (w : World) (hv : v.wf) (h : okVote v = true) : Calls Tryz.prog 187 #[v.val] w (Gives (encVote v) w) := by
  have hmf : ∀ (fn : Fn) (first cap : Array Value) (w : World), (Instr.makeFunc fn first cap).run Tryz.prog w = .ok (.func fn first cap) w := fun _ _ _ _ => rfl
  have C := Lib.hid (encode_yes 199 #[.pointer (some ⟨w.heap.size, 0, none⟩)] (encVote v) (w.alloc (.cells v.cells.toArray 149)) (enters Tryz.func199 (by kernel_rfl) rfl)
    (EncodeVoteBody_yes v hv h w.heap.size _ _ (by simp) (VoteD.At.of_row hv (RowAt_box w v.cells _))) (encVote_pos v) (by have := encVote_len v hv h; omega))
  unfold VoteD.val
  clear hv h
  go_enter Tryz.func187, Tryz.ntmps187
  go_wp2_with (go_at_call 99; refine C.out.mono ?_; rintro e w1 ⟨sl, rfl, k1, k2⟩)
  go_ret2
  obtain ⟨a, n, c, rfl⟩ := k1.shape
  exact ⟨a, n, c, rfl, k1.mono (by simp), (below_box w _).trans (k2.mono (by simp))⟩

set_option maxHeartbeats 400000 in
theorem EncodeVote_no (v : VoteD) (w : World) (hv : v.wf) (h : okVote v = false) : Calls Tryz.prog 187 #[v.val] w (Fails w) := by
  have hmf : ∀ (fn : Fn) (first cap : Array Value) (w : World), (Instr.makeFunc fn first cap).run Tryz.prog w = .ok (.func fn first cap) w := fun _ _ _ _ => rfl
  have C := Lib.hid (encode_no 199 #[.pointer (some ⟨w.heap.size, 0, none⟩)] (w.alloc (.cells v.cells.toArray 149)) (enters Tryz.func199 (by kernel_rfl) rfl)
    (EncodeVoteBody_no v hv h w.heap.size _ _ (by simp) (VoteD.At.of_row hv (RowAt_box w v.cells _))))
  unfold VoteD.val
  clear hv h
  go_enter Tryz.func187, Tryz.ntmps187
  go_wp2_with (go_at_call 99; refine C.out.mono ?_; rintro e w1 ⟨rfl, k2⟩)
  go_ret2
  exact ⟨rfl, (below_box w _).trans (k2.mono (by simp))⟩

/-- the vote that is signed -/
def VoteD.bare (v : VoteD) : VoteD := { v with key := 0, r := 0, s := 0 }
theorem VoteD.bare_wf {v : VoteD} (h : v.wf) : v.bare.wf := ⟨h.chain, h.height, h.round, h.type, h.block, ⟨by simp [VoteD.bare], by simp [VoteD.bare]⟩, ⟨by simp [VoteD.bare], by simp [VoteD.bare]⟩, ⟨by simp [VoteD.bare], by simp [VoteD.bare]⟩⟩

theorem bare_world {v : VoteD} {w W : World} (hv : v.wf) (hrow : RowAt W w.heap.size 0 v.cells) (hb : Below w.heap.size w W) :
    ∃ W3, ((W.setCell ⟨w.heap.size, 36, none⟩ (.int .u64 0)).setCell ⟨w.heap.size, 37, none⟩ (.int .u64 0)).setCell ⟨w.heap.size, 38, none⟩ (.int .u64 0) = W3 ∧ RowAt W3 w.heap.size 0 v.bare.cells ∧ Below w.heap.size w W3 := by
  have hl := v.cells_length hv
  have h1 := ((hrow.set 36 (by omega) (.int .u64 0)).set 37 (by simp; omega) (.int .u64 0)).set 38 (by simp; omega) (.int .u64 0)
  simp only [Nat.zero_add] at h1
  refine ⟨_, rfl, ?_, ((hb.setCell (by simp) _).setCell (by simp) _).setCell (by simp) _⟩
  have e : ((v.cells.set 36 (.int .u64 0)).set 37 (.int .u64 0)).set 38 (.int .u64 0) = v.bare.cells := by
    unfold VoteD.cells VoteD.bare
    generalize hp : [Value.string v.chain, .int .i64 v.height, .int .i64 v.round, .int .i64 v.type] ++ Lib.byteCells v.block = p
    have hlen : p.length = 36 := by rw [← hp]; simp [Lib.byteCells_length, hv.block]
    rw [List.set_append_right _ _ (by omega), List.set_append_right _ _ (by omega), List.set_append_right _ _ (by omega), hlen]
    rfl
  rwa [e] at h1

theorem okVote_bare (v : VoteD) : okVote v.bare = okVote v := rfl

set_option maxHeartbeats 400000 in
theorem SignBytes_yes (v : VoteD) (w : World) (hv : v.wf) (h : okVote v = true) : Calls Tryz.prog 169 #[v.val] w (Gives (encVote v.bare) w) := by
  unfold VoteD.val
  obtain ⟨W, hW, hblk, hrow, hf, hb, hsz⟩ := box_as w v.cells 149
  have A := VoteD.At.of_row hv hrow
  have c36 := A.key; have c37 := A.r; have c38 := A.s; simp only [Nat.zero_add] at c36 c37 c38
  have f36 := hf 36; have f37 := hf 37; have f38 := hf 38
  obtain ⟨W3, hW3, hrow3, hb3⟩ := bare_world hv hrow hb
  have C := Lib.hid (EncodeVote_yes v.bare W3 (VoteD.bare_wf hv) h)
  have HB3 := Lib.hid hb3; have HR3 := Lib.hid hrow3; have HW3 := Lib.hid hW3; have HW := Lib.hid hW; have Hv := Lib.hid hv
  clear hW hblk hrow hf hb hsz A hv h hb3 hrow3 hW3
  go_enter Tryz.func169, Tryz.ntmps169
  go_upto_region 1 with (fail)
  rw [HW.out]
  go_upto_region 2 with (fail)
  rw [HW3.out]
  clear c36 c37 c38 f36 f37 f38
  go_wp2_with (refine wpList_load_part rfl 149 _ rfl w.heap.size 0 rfl v.bare.cells _ HR3.out Tryz.underlying149 rfl (v.bare.size (VoteD.bare_wf Hv.out)) ?_)
  refine C.out.mono ?_
  rintro e w1 ⟨a, n, c, rfl, k1, k2⟩
  go_wp2_with fail
  go_ret2
  exact ⟨a, n, c, rfl, k1.mono HB3.out.size, HB3.out.trans (k2.mono HB3.out.size)⟩

set_option maxHeartbeats 400000 in
theorem SignBytes_no (v : VoteD) (w : World) (hv : v.wf) (h : okVote v = false) : Calls Tryz.prog 169 #[v.val] w (Fails w) := by
  unfold VoteD.val
  obtain ⟨W, hW, hblk, hrow, hf, hb, hsz⟩ := box_as w v.cells 149
  have A := VoteD.At.of_row hv hrow
  have c36 := A.key; have c37 := A.r; have c38 := A.s; simp only [Nat.zero_add] at c36 c37 c38
  have f36 := hf 36; have f37 := hf 37; have f38 := hf 38
  obtain ⟨W3, hW3, hrow3, hb3⟩ := bare_world hv hrow hb
  have C := Lib.hid (EncodeVote_no v.bare W3 (VoteD.bare_wf hv) h)
  have HB3 := Lib.hid hb3; have HR3 := Lib.hid hrow3; have HW3 := Lib.hid hW3; have HW := Lib.hid hW; have Hv := Lib.hid hv
  clear hW hblk hrow hf hb hsz A hv h hb3 hrow3 hW3
  go_enter Tryz.func169, Tryz.ntmps169
  go_upto_region 1 with (fail)
  rw [HW.out]
  go_upto_region 2 with (fail)
  rw [HW3.out]
  clear c36 c37 c38 f36 f37 f38
  go_wp2_with (refine wpList_load_part rfl 149 _ rfl w.heap.size 0 rfl v.bare.cells _ HR3.out Tryz.underlying149 rfl (v.bare.size (VoteD.bare_wf Hv.out)) ?_)
  refine C.out.mono ?_
  rintro e w1 ⟨rfl, k2⟩
  go_wp2_with fail
  go_ret2
  exact ⟨rfl, HB3.out.trans (k2.mono HB3.out.size)⟩

/-- the zero value's cells -/
def ZVote : List Value := [.string ⟨#[]⟩, .int .i64 0, .int .i64 0, .int .i64 0] ++ Lib.byteCells (List.replicate 32 0) ++ [.int .u64 0, .int .u64 0, .int .u64 0]
theorem ZVote_info : (Tryz.prog.info? 149).map (fun i => i.zero.map (fun v => v.cells)) = some (some ZVote.toArray) := by kernel_rfl
theorem ZVote_length : ZVote.length = 39 := by rfl
theorem sizeVote (cs : List Value) (h : cs.length = 39) : (Tryz.prog.info? 149).map (·.size) = some cs.length := by rw [h]; kernel_rfl
theorem ZVote_one : ∀ v ∈ ZVote, v.oneCell' = true := fun v hv => List.all_eq_true.1 (show ZVote.all (·.oneCell') = true by kernel_rfl) v hv

/-- a signature, read -/
def rdSig (s : RS) : (Nat × Nat) × RS := (((rdWord s).1, (rdWord (rdWord s).2).1), (rdWord (rdWord s).2).2)
def sigCells (s : Nat × Nat) : List Value := [.int .u64 s.1, .int .u64 s.2]
theorem rdWord_R (s : RS) : u64R (rdWord s).1 := by
  unfold rdWord u64R
  cases s with
  | none => simp
  | some l =>
    dsimp only
    split
    · rename_i h
      have := ofBe_lt (l.take 8)
      rw [List.length_take, Nat.min_eq_left h] at this
      refine ⟨by omega, by omega⟩
    · simp
theorem rdSig_R (s : RS) : u64R (rdSig s).1.1 ∧ u64R (rdSig s).1.2 := ⟨rdWord_R _, rdWord_R _⟩
def voteS0 (s : RS) : RS := s
def voteS1 (s : RS) : RS := (rdText (voteS0 s)).2
def voteS2 (s : RS) : RS := (rdNum (voteS1 s)).2
def voteS3 (s : RS) : RS := (rdNum (voteS2 s)).2
def voteS4 (s : RS) : RS := (rdNum (voteS3 s)).2
def voteS5 (s : RS) : RS := (rdHash (voteS4 s)).2
def voteS6 (s : RS) : RS := (rdWord (voteS5 s)).2
def voteS7 (s : RS) : RS := (rdSig (voteS6 s)).2
/-- what stands next, read as a vote; behind its kind -/
def rdVote (s : RS) : VoteD × RS := ({ chain := ⟨(rdText (voteS0 s)).1.toArray⟩, height := (rdNum (voteS1 s)).1, round := (rdNum (voteS2 s)).1, type := (rdNum (voteS3 s)).1, block := (rdHash (voteS4 s)).1, key := (rdWord (voteS5 s)).1, r := (rdSig (voteS6 s)).1.1, s := (rdSig (voteS6 s)).1.2 }, voteS7 s)
def decVote (l : List UInt8) : Option VoteD :=
  if (rdNum (some l)).1 = 1 ∧ (rdVote (rdNum (some l)).2).2 = some [] ∧ okVote (rdVote (rdNum (some l)).2).1 = true then some (rdVote (rdNum (some l)).2).1 else none
theorem rdVote_wf (s : RS) : (rdVote s).1.wf := ⟨str_ok (rdText_len _), rdNum_R _, rdNum_R _, rdNum_R _, rdHash_len _, rdWord_R _, (rdSig_R _).1, (rdSig_R _).2⟩
def rdVote_vs (s0 : RS) : List Value := [.string ⟨(rdText (voteS0 s0)).1.toArray⟩, .int .i64 (rdNum (voteS1 s0)).1, .int .i64 (rdNum (voteS2 s0)).1, .int .i64 (rdNum (voteS3 s0)).1, .agg (Lib.byteCells (rdHash (voteS4 s0)).1).toArray, .int .u64 (rdWord (voteS5 s0)).1, .agg (sigCells (rdSig (voteS6 s0)).1).toArray]
theorem rdVote_flat (s0 : RS) : flatCells (rdVote_vs s0) = (rdVote s0).1.cells := by simp [flatCells, rdVote_vs, rdVote, VoteD.cells, Value.cells, sigCells]
theorem rdVote_laid (s0 : RS) : Laid (([(0, 1), (1, 1), (2, 1), (3, 1), (4, 32), (36, 1), (37, 2)] : List (Nat × Nat)).toArray[·]?) 0 0 (rdVote_vs s0) := by
  refine ⟨?_, ?_, ?_, ?_, ?_, ?_, ?_, trivial⟩ <;> simp [Value.cells, Lib.byteCells_length, rdHash_len, sigCells]
theorem VoteD_one (v : VoteD) : ∀ x ∈ v.cells, x.oneCell' = true := by
  have hb := fun (l : List UInt8) x (h : x ∈ Lib.byteCells l) => oneCell_bytes l x h
  intro x hx
  simp only [VoteD.cells, List.mem_append, List.mem_cons, List.not_mem_nil, or_false] at hx
  grind [Value.oneCell']

theorem enters_checkVote : ∀ args w, (callFunc 200 args).run Tryz.prog w = .ok (.enter 200 args) w := enters Tryz.func200 (by kernel_rfl) rfl

theorem decVote_wf {l : List UInt8} {v : VoteD} (h : decVote l = some v) : v.wf := by
  unfold decVote at h
  split at h
  · injection h with h; subst h; exact rdVote_wf _
  · cases h
theorem decVote_t (l : List UInt8) (hk : (rdNum (some l)).1 = 1) (h : (decide ((rdVote (rdNum (some l)).2).2 = some []) && okVote (rdVote (rdNum (some l)).2).1) = true) : (decVote l).map VoteD.cells = some (rdVote (rdNum (some l)).2).1.cells := by
  rw [Bool.and_eq_true] at h
  unfold decVote
  rw [if_pos ⟨hk, of_decide_eq_true h.1, h.2⟩]; rfl
theorem decVote_f (l : List UInt8) (h : (decide ((rdVote (rdNum (some l)).2).2 = some []) && okVote (rdVote (rdNum (some l)).2).1) = false) : (decVote l).map VoteD.cells = none := by
  unfold decVote
  rw [if_neg]; · rfl
  intro hc
  rw [hc.2.2, decide_eq_true hc.2.1] at h
  cases h
theorem decVote_k (l : List UInt8) (hk : (rdNum (some l)).1 ≠ 1) : (decVote l).map VoteD.cells = none := by
  unfold decVote
  rw [if_neg (fun h => hk h.1)]; rfl

end Go.Proofs.YtbhghlendbcejaaGreatDoor
