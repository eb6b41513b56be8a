/- Walks: forms.many, putSet. Walks: forms.checkCommit, putCommit, putHeader. Walks: forms.putHeader. Walks: forms.EncodeHeader, EncodeSet, EncodeCommit, EncodeLight. Walks: forms.EncodeLight, EncodeCommit. -/
import Derived.Test.YtcbkehnlgpcelaaGreatDoorSlc
import Derived.Test.YtcbkehnlgpcelaaGreatDoorPlain6
import Derived.Test.YtcbkehnlgpcelaaGreatDoorBuild
namespace Go.Proofs.YtcbkehnlgpcelaaGreatDoor
open Go.RowKit
set_option maxRecDepth 100000

def ZVal : List Value := [.int .u64 0, .int .i64 0]
theorem ValD_one (v : ValD) : ∀ x ∈ v.cells, x.oneCell' = true := by simp [ValD.cells, Value.oneCell']
def ZSeal : List Value := [.int .u64 0, .int .u64 0, .int .u64 0]
theorem SealD_one (v : SealD) : ∀ x ∈ v.cells, x.oneCell' = true := by simp [SealD.cells, Value.oneCell']

theorem St.put {b L L' : Nat} {w1 w : World} {bs bs' : List UInt8} (h : St b w1 bs L w) (hb : bs = bs') (hL : L ≤ L') : St b w1 bs' L' w := ⟨hb ▸ h.isW, h.bel, by rw [← hb]; exact Nat.le_trans h.len hL⟩
theorem encVals_take (ds : List ValD) (k : Nat) (h : k < ds.length) : encVals (ds.take (k + 1)) = encVals (ds.take k) ++ be64 ds[k].key ++ be64 ds[k].power := by
  rw [List.take_succ_eq_append_getElem h, encVals_snoc, List.append_assoc]; rfl
theorem St.grown {b L : Nat} {w1 w w' : World} {bs : List UInt8} (h : St b w1 bs L w) (hg : w.grownBy w' none) : St b w1 bs L w' := h.over ⟨hg.os, hg.tape, hg.output, hg.size, fun k hk => hg.block k hk (by simp)⟩
theorem WK.over {b : Nat} {u w w' : World} (h : WK b b u w) (hg : w.grownBy w' none) (hb : b ≤ w.heap.size) : Below b u w' := h.1.trans ⟨hg.os, hg.tape, hg.output, hg.size, fun k hk => hg.block k (by omega) (by simp)⟩
theorem Blk.kept {w w' : World} {m b : Nat} {cs : List Value} {T : TypeId} (h : Blk w m cs T) (hk : Lib.OthersKept 5 (some b) w w') (hT : T ≠ 5) (hm : m ≠ b) : Blk w' m cs T :=
  hk m _ h (by simp; exact hm) (by simp; exact fun e => hT e)

theorem commit_cells {B : Nat} {w : World} {c : CommitD} {cs : List Value} (h : c.rep B w cs) : cs[0]? = some (.int .i64 c.height) ∧ cs[1]? = some (.int .i64 c.round) := by
  obtain ⟨sl, _, rfl⟩ := h; exact ⟨rfl, rfl⟩
theorem commit_block {B : Nat} {w : World} {c : CommitD} {cs : List Value} (h : c.rep B w cs) (hc : c.wf) : (cs.drop 2).take 32 = Lib.byteCells c.block := by
  obtain ⟨sl, _, rfl⟩ := h
  simp [Lib.byteCells_length, hc.block]
theorem commit_seals {B : Nat} {w : World} {c : CommitD} {cs : List Value} (h : c.rep B w cs) (hc : c.wf) : ∃ sl, RdS B w sl c.seals.length 3 (sealCells c.seals) ∧ cs[34]? = some sl := by
  obtain ⟨sl, h1, rfl⟩ := h
  exact ⟨sl, h1, by simp [Lib.byteCells_length, hc.block]⟩
theorem sizeHdr : (Tryz.prog.info? 78).map (·.size) = some 163 := by kernel_rfl

theorem encSeals_take (ds : List SealD) (k : Nat) (h : k < ds.length) : encSeals (ds.take (k + 1)) = encSeals (ds.take k) ++ be64 ds[k].key ++ be64 ds[k].r ++ be64 ds[k].s := by
  have e : ∀ (l : List SealD) (v : SealD), encSeals (l ++ [v]) = encSeals l ++ encSeal v := by simp [encSeals]
  rw [List.take_succ_eq_append_getElem h, e, encSeal]; simp only [List.append_assoc]

def HeaderD.hashes (d : HeaderD) : List (List UInt8) := [d.last, d.set, d.next, d.data, d.app]
theorem HeaderD.hashes_len (d : HeaderD) (h : d.wf) : ∀ x ∈ d.hashes, x.length = 32 := by
  intro x hx
  simp only [HeaderD.hashes, List.mem_cons, List.not_mem_nil, or_false] at hx
  rcases hx with rfl | rfl | rfl | rfl | rfl
  · exact h.last
  · exact h.set
  · exact h.next
  · exact h.data
  · exact h.app
theorem hash_info : (Tryz.prog.info? 26).map (fun i => (i.zero, i.size)) = some (some (.agg (Array.replicate 32 (.int .u8 0))), 32) := by kernel_rfl
theorem take_hash (hs : List (List UInt8)) (k : Nat) (h : k < hs.length) : (hs.take (k + 1)).flatten = (hs.take k).flatten ++ hs[k] := by
  rw [List.take_succ_eq_append_getElem h, List.flatten_append]; simp
theorem encHeader_eq (d : HeaderD) : encHeader d = be64 2 ++ textL d.chain ++ be64 d.height ++ be64 d.time ++ d.hashes.flatten := by simp [encHeader, HeaderD.hashes]

def hdrVs (d : HeaderD) : List Value := [hashV d.last, hashV d.set, hashV d.next, hashV d.data, hashV d.app]
theorem hdrVs_n (d : HeaderD) : (hdrVs d).length * 32 ≤ 16777216 := by simp [hdrVs]
theorem hdrVs_flat (d : HeaderD) : flatCells (hdrVs d) = d.hashes.flatMap Lib.byteCells := by simp [flatCells, hdrVs, hashV, HeaderD.hashes, Value.cells]
theorem hdrVs_size (d : HeaderD) (h5 : ∀ x ∈ d.hashes, x.length = 32) : ∀ v ∈ hdrVs d, v.cells.size = 32 := by
  intro v hv
  simp only [hdrVs, List.mem_cons, List.not_mem_nil, or_false] at hv
  simp only [HeaderD.hashes, List.mem_cons, List.not_mem_nil, or_false, forall_eq_or_imp, forall_eq] at h5
  rcases hv with rfl | rfl | rfl | rfl | rfl <;> simp [hashV, Value.cells, Lib.byteCells_length, h5]

set_option maxHeartbeats 1000000 in
theorem putHeader_yes {b L : Nat} {w1 w : World} {bs : List UInt8} (h : St b w1 bs L w) (hL : L ≤ 100000000) (d : HeaderD) (hc : d.wf) (hok : okHeader d = true) :
    Calls Tryz.prog 60 #[.pointer (some ⟨b, 0, none⟩), .agg d.cells.toArray] w fun e w' => e = .returned (.tuple #[]) ∧ St b w1 (bs ++ encHeader d) (L + 220) w' ∧ Below b w w' := by
  have hlen := d.cells_length hc
  obtain ⟨W, hW, hblk, hrow, hf, hb, hsz⟩ := box_as w d.cells 78
  have HW := Lib.hid hW; have B := Lib.hid (show Blk W w.heap.size d.cells 78 from hblk)
  have S := Lib.hid (h.over hb); have K := Lib.hid (hb.mono h.lt)
  have hlt := h.isW.lt
  have Hlen := Lib.hid hlen; have Hc := Lib.hid hc; have Hok := Lib.hid hok
  have Hs := Lib.hid (d.hashes_len hc)
  clear hW hblk hrow hf hb hsz h hlen hc hok
  go_enter Tryz.func60, Tryz.ntmps60
  go_upto_region 1 with (fail)
  rw [HW.out]
  clear HW
  go_wp2_with (refine wpList_load_part rfl 78 _ rfl w.heap.size 0 rfl d.cells _ B.out.row Tryz.underlying78 rfl (d.size Hc.out) ?_)
  refine (checkHeader_yes d _ Hc.out Hok.out).mono ?_
  rintro e w2 ⟨rfl, hb⟩
  replace K := Lib.hid (K.out.trans (hb.mono S.out.lt)); replace B := Lib.hid (B.out.below hb B.out.lt); replace S := Lib.hid (S.out.over hb)
  clear hb
  go_wp2_with fail
  refine (Number_st S.out (by omega) _).mono ?_
  rintro e w3 ⟨rfl, k1, k2⟩
  replace S := Lib.hid k1; replace K := Lib.hid (K.out.trans k2.1); replace B := Lib.hid (B.out.kept k2.2 (by decide) (by omega)); clear k1 k2
  have A := Lib.hid (HeaderD.At.of_row Hc.out B.out.row)
  have c0 := A.out.chain; rw [Nat.zero_add] at c0
  go_wp2_with fail
  refine (Text_st S.out (by omega) _ 16 (okHeader_len Hok.out) (by omega)).mono ?_
  rintro e w4 ⟨rfl, k1, k2⟩
  replace S := Lib.hid k1; replace K := Lib.hid (K.out.trans k2.1); replace B := Lib.hid (B.out.kept k2.2 (by decide) (by omega)); clear k1 k2 c0
  replace A := Lib.hid (HeaderD.At.of_row Hc.out B.out.row)
  have c0 := A.out.height; rw [Nat.zero_add] at c0
  go_wp2_with fail
  refine (Number_st S.out (by omega) _).mono ?_
  rintro e w5 ⟨rfl, k1, k2⟩
  replace S := Lib.hid k1; replace K := Lib.hid (K.out.trans k2.1); replace B := Lib.hid (B.out.kept k2.2 (by decide) (by omega)); clear k1 k2 c0
  replace A := Lib.hid (HeaderD.At.of_row Hc.out B.out.row)
  have c0 := A.out.time; rw [Nat.zero_add] at c0
  go_wp2_with fail
  refine (Number_st S.out (by omega) _).mono ?_
  rintro e w6 ⟨rfl, k1, k2⟩
  replace S := Lib.hid k1; replace K := Lib.hid (K.out.trans k2.1); replace B := Lib.hid (B.out.kept k2.2 (by decide) (by omega)); clear k1 k2 c0
  replace A := Lib.hid (HeaderD.At.of_row Hc.out B.out.row)
  go_wp2_with (first
    | (refine wpList_load_part rfl 26 _ rfl w.heap.size 3 rfl (Lib.byteCells d.last) _ (Nat.zero_add 3 ▸ A.out.last) Tryz.underlying26 rfl (hash_size _ Hc.out.last) ?_)
    | (refine wpList_load_part rfl 26 _ rfl w.heap.size 35 rfl (Lib.byteCells d.set) _ (Nat.zero_add 35 ▸ A.out.set) Tryz.underlying26 rfl (hash_size _ Hc.out.set) ?_)
    | (refine wpList_load_part rfl 26 _ rfl w.heap.size 67 rfl (Lib.byteCells d.next) _ (Nat.zero_add 67 ▸ A.out.next) Tryz.underlying26 rfl (hash_size _ Hc.out.next) ?_)
    | (refine wpList_load_part rfl 26 _ rfl w.heap.size 99 rfl (Lib.byteCells d.data) _ (Nat.zero_add 99 ▸ A.out.data) Tryz.underlying26 rfl (hash_size _ Hc.out.data) ?_)
    | (refine wpList_load_part rfl 26 _ rfl w.heap.size 131 rfl (Lib.byteCells d.app) _ (Nat.zero_add 131 ▸ A.out.app) Tryz.underlying26 rfl (hash_size _ Hc.out.app) ?_)
    | (refine wpList_buildSlice_all rfl 152 5 _ rfl (hdrVs d) (by kernel_rfl) rfl (d.hashes.flatMap Lib.byteCells) (hdrVs_flat d) 26 _ 32 Tryz.underlying152 hash_info (hdrVs_size d Hs.out) (hdrVs_n d) ?_))
  intro w7 b7 g7 s7
  replace K := Lib.hid (K.out.trans ((WK.refl b b w6).over g7 S.out.lt))
  have hm : b < w6.heap.size := S.out.isW.lt
  replace S := Lib.hid (S.out.grown g7)
  have N := Lib.hid b7
  clear b7 g7 s7 A B
  go_wp2_with fail
  go_loopw [34] (fun i wr => ∃ k : Nat, k ≤ 5 ∧ i = .int .i64 k ∧ St b w1 (bs ++ be64 2 ++ textL d.chain ++ be64 d.height ++ be64 d.time ++ (d.hashes.take k).flatten) (L + 8 + 2 + 16 + 8 + 8 + 32 * k) wr ∧ Below b w7 wr ∧ Blk wr w6.heap.size (d.hashes.flatMap Lib.byteCells) 26) (fun i _ => 5 - (intOf i).toNat)
  case atStart => exact ⟨0, Nat.zero_le _, rfl, by simpa using S.out, Below.refl _ _, N.out⟩
  case round =>
    obtain ⟨k, hk, rfl, hs, hb, hn⟩ := hrel
    have Hss := Lib.hid hs; have Hb := Lib.hid hb; have Hn := Lib.hid hn; clear hs hb hn
    by_cases hlt2 : k < 5
    · have hk5 : k < d.hashes.length := hlt2
      have R := Lib.hid (RowAt.elem (f := Lib.byteCells) (k := 32) Hn.out.row (fun x hx => by rw [Lib.byteCells_length]; exact Hs.out x hx) k hk5)
      have Ht := Lib.hid (take_hash d.hashes k hk5)
      obtain ⟨x, hx⟩ : ∃ x, x = d.hashes[k] := ⟨_, rfl⟩
      have Hx := Lib.hid (Hs.out x (by rw [hx]; exact List.getElem_mem _))
      rw [← hx, Nat.zero_add] at R
      rw [← hx] at Ht
      clear hx hk5
      go_wp2_with (first | (refine wpList_load_part rfl 26 _ rfl w6.heap.size (k * 32) rfl (Lib.byteCells x) _ R.out Tryz.underlying26 rfl (hash_size _ Hx.out) ?_) | (refine wpList_alloc_as rfl 26 rfl ZH ZH_info ?_))
      intro w8 b4 g4 s4
      have B4 := Lib.hid b4; have G4 := Lib.hid g4; clear b4 g4 s4
      go_wp2_with (refine wpList_store_whole rfl 26 _ _ rfl wr.heap.size rfl (Lib.byteCells x) ZH 26 rfl B4.out (by rw [Lib.byteCells_length, Hx.out]; rfl) (oneCell_bytes x) (hash_size _ Hx.out) ?_)
      intro w9 g5 s5 b5
      have Gn := Lib.hid (grown_new G4.out g5 (Nat.le_refl _))
      have S5 := Lib.hid (Hss.out.grown Gn.out)
      have B5 := Lib.hid b5; clear b5 g5 s5
      go_wp2_with (refine wpList_load_part rfl 26 _ rfl wr.heap.size 0 rfl (Lib.byteCells x) _ B5.out.row Tryz.underlying26 rfl (hash_size _ Hx.out) ?_)
      refine (Hash_st S5.out (by omega) _ Hx.out).mono ?_
      rintro e w10 ⟨rfl, k1, k2⟩
      have S6 := Lib.hid k1
      have K6 := Lib.hid ((WK.over (WK.refl b b wr) Gn.out Hss.out.lt).trans k2.1)
      have N6 := Lib.hid ((Hn.out.grown Gn.out (by simp)).kept k2.2 (by decide) (by omega))
      clear k1 k2
      go_wp2_with fail
      refine ⟨⟨k + 1, by omega, by go_num, S6.out.put ?_ (by omega), Hb.out.trans K6.out, N6.out⟩, by simp [intOf]; omega⟩
      rw [Ht.out]; simp only [List.append_assoc]
    · obtain rfl : k = 5 := by omega
      go_wp2_with fail
      go_end0
      refine ⟨rfl, Hss.out.put ?_ (by omega), K.out.trans Hb.out⟩
      rw [encHeader_eq, show d.hashes.take 5 = d.hashes from rfl]; simp only [List.append_assoc]

set_option maxHeartbeats 400000 in
theorem putHeader_no {b L : Nat} {w1 w : World} {bs : List UInt8} (h : St b w1 bs L w) (d : HeaderD) (hc : d.wf) (hok : okHeader d = false) :
    Calls Tryz.prog 60 #[.pointer (some ⟨b, 0, none⟩), .agg d.cells.toArray] w fun e w' => e = .panicked wrongP ∧ Below b w w' := by
  obtain ⟨W, hW, hblk, hrow, hf, hb, hsz⟩ := box_as w d.cells 78
  have HW := Lib.hid hW; have B := Lib.hid (show Blk W w.heap.size d.cells 78 from hblk)
  have K := Lib.hid (hb.mono h.lt); have Hs := Lib.hid hb.size
  have hlt := h.lt
  have Hc := Lib.hid hc; have Hok := Lib.hid hok
  clear hW hblk hrow hf hb hsz h hc hok
  go_enter Tryz.func60, Tryz.ntmps60
  go_upto_region 1 with (fail)
  rw [HW.out]
  clear HW
  go_wp2_with (refine wpList_load_part rfl 78 _ rfl w.heap.size 0 rfl d.cells _ B.out.row Tryz.underlying78 rfl (d.size Hc.out) ?_)
  refine (checkHeader_no d _ Hc.out Hok.out).mono ?_
  rintro e w2 ⟨rfl, hb⟩
  exact ⟨rfl, rfl, K.out.trans (hb.mono (by have := Hs.out; omega))⟩

def okSet (l : List ValD) : Bool := decide (l.length ≤ 64)
def okCommitN (c : CommitD) : Bool := okCommit c && decide (c.seals.length ≤ 64)
def okLight (l : LightD) : Bool := okHeader l.header && (okCommitN l.commit && (okSet l.set && okSet l.next))
def encLight (l : LightD) : List UInt8 := be64 5 ++ encHeader l.header ++ encCommit l.commit ++ encSet l.set ++ encSet l.next
/-- what an encoding answers -/
def Enc (ok : Bool) (l : List UInt8) (w : World) (e : Ending) (w' : World) : Prop := if ok then Gives l w e w' else Fails w e w'
theorem Enc.y {ok : Bool} {l : List UInt8} {w w' : World} {e : Ending} (h : ok = true) (hg : Gives l w e w') : Enc ok l w e w' := by unfold Enc; rw [if_pos h]; exact hg
theorem Enc.n {ok : Bool} {l : List UInt8} {w w' : World} {e : Ending} (h : ok = false) (hg : Fails w e w') : Enc ok l w e w' := by unfold Enc; rw [h]; exact hg

theorem encHeader_pos (d : HeaderD) : 0 < (encHeader d).length := by simp [encHeader, be64_length]; omega
theorem encHeader_len (d : HeaderD) (hv : d.wf) (h : okHeader d = true) : (encHeader d).length ≤ 1000 := by
  have := okHeader_len h
  simp [encHeader, be64_length, textL_length, hv.last, hv.set, hv.next, hv.data, hv.app]; omega
theorem encSet_pos (d : List ValD) : 0 < (encSet d).length := by rw [encSet_length]; omega
theorem encCommit_length (c : CommitD) (hc : c.wf) : (encCommit c).length = 64 + 24 * c.seals.length := by simp [encCommit, be64_length, encSeals_length, hc.block]; omega

/-- one cell, below block B0: it stays -/
theorem RowAt.box1 {w W : World} {x : Value} {T : TypeId} (h : w.alloc (.cells #[x] T) = W) : RowAt W w.heap.size 0 [x] := h ▸ RowAt_box w [x] T

set_option maxHeartbeats 400000 in
theorem EncodeHeaderBody_yes (d : HeaderD) (hv : d.wf) (h : okHeader d = true) (m B0 : Nat) (w : World) (hm : m < B0) (hA : RowAt w m 0 d.cells) :
    Writes 59 #[.pointer (some ⟨m, 0, none⟩)] B0 w (encHeader d) false := by
  intro w1 b hW hbel hB0
  have HA := Lib.hid (hA.below hbel hm)
  have S := Lib.hid (St.start hW); have Hv := Lib.hid hv; have Hok := Lib.hid h
  clear hA hv hW hbel h hm hB0
  go_enter Tryz.func59, Tryz.ntmps59
  go_wp2_with (refine wpList_load_part rfl 78 _ rfl m 0 rfl d.cells _ HA.out Tryz.underlying78 rfl (d.size Hv.out) ?_)
  refine (putHeader_yes S.out (by omega) d Hv.out Hok.out).mono ?_
  rintro e w2 ⟨rfl, k1, k2⟩
  go_wp2_with fail
  go_end0
  exact ⟨rfl, by simpa using k1.isW, k2⟩
set_option maxHeartbeats 400000 in
theorem EncodeHeaderBody_no (d : HeaderD) (hv : d.wf) (h : okHeader d = false) (m B0 : Nat) (w : World) (hm : m < B0) (hA : RowAt w m 0 d.cells) :
    Throws 59 #[.pointer (some ⟨m, 0, none⟩)] B0 w := by
  intro w1 b hW hbel hB0
  have HA := Lib.hid (hA.below hbel hm)
  have S := Lib.hid (St.start hW); have Hv := Lib.hid hv; have Hok := Lib.hid h
  clear hA hv hW hbel h hm hB0
  go_enter Tryz.func59, Tryz.ntmps59
  go_wp2_with (refine wpList_load_part rfl 78 _ rfl m 0 rfl d.cells _ HA.out Tryz.underlying78 rfl (d.size Hv.out) ?_)
  refine (putHeader_no S.out d Hv.out Hok.out).mono ?_
  rintro e w2 ⟨rfl, k2⟩
  exact ⟨rfl, rfl, k2⟩
set_option maxHeartbeats 400000 in
theorem EncodeHeader_any (d : HeaderD) (w : World) (hv : d.wf) : Calls Tryz.prog 29 #[.agg d.cells.toArray] w (Enc (okHeader d) (encHeader d) w) := by
  have hmf : ∀ (fn : Fn) (first cap : Array Value) (w : World), (Instr.makeFunc fn first cap).run Tryz.prog w = .ok (.func fn first cap) w := fun _ _ _ _ => rfl
  cases h : okHeader d with
  | true =>
    have C := Lib.hid (encode_yes 59 #[.pointer (some ⟨w.heap.size, 0, none⟩)] (encHeader d) (w.alloc (.cells d.cells.toArray 78)) (enters Tryz.func59 (by kernel_rfl) rfl)
      (EncodeHeaderBody_yes d hv h w.heap.size _ _ (by simp) (RowAt_box w d.cells _)) (encHeader_pos d) (by have := encHeader_len d hv h; omega))
    clear hv h
    go_enter Tryz.func29, Tryz.ntmps29
    go_wp2_with (go_at_call 39; refine C.out.mono ?_; rintro e w1 ⟨sl, rfl, k1, k2⟩)
    go_ret2
    obtain ⟨a, n, c, rfl⟩ := k1.shape
    exact Enc.y rfl ⟨a, n, c, rfl, k1.mono (by simp), (below_box w _).trans (k2.mono (by simp))⟩
  | false =>
    have C := Lib.hid (encode_no 59 #[.pointer (some ⟨w.heap.size, 0, none⟩)] (w.alloc (.cells d.cells.toArray 78)) (enters Tryz.func59 (by kernel_rfl) rfl)
      (EncodeHeaderBody_no d hv h w.heap.size _ _ (by simp) (RowAt_box w d.cells _)))
    clear hv h
    go_enter Tryz.func29, Tryz.ntmps29
    go_wp2_with (go_at_call 39; refine C.out.mono ?_; rintro e w1 ⟨rfl, k2⟩)
    go_ret2
    exact Enc.n rfl ⟨rfl, (below_box w _).trans (k2.mono (by simp))⟩

theorem LightD.parts {B : Nat} {w : World} {l : LightD} {cs : List Value} (h : l.rep B w cs) (hl : l.wf) : cs.take 163 = l.header.cells ∧ (∃ cc, l.commit.rep B w cc ∧ (cs.drop 163).take 35 = cc) ∧
    (∃ sv, RdS B w sv l.set.length 2 (setCells l.set) ∧ cs[198]? = some sv) ∧ (∃ nv, RdS B w nv l.next.length 2 (setCells l.next) ∧ cs[199]? = some nv) := by
  obtain ⟨cc, sv, nv, h1, h2, h3, rfl⟩ := h
  have e1 := l.header.cells_length hl.header
  have e2 := h1.length hl.commit
  refine ⟨?_, ⟨cc, h1, ?_⟩, ⟨sv, h2, ?_⟩, ⟨nv, h3, ?_⟩⟩
  · rw [List.append_assoc, List.take_left' e1]
  · rw [List.append_assoc, List.drop_left' e1, List.take_left' e2]
  · rw [List.getElem?_append_right (by simp [e1, e2])]; simp [e1, e2]
  · rw [List.getElem?_append_right (by simp [e1, e2])]; simp [e1, e2]

theorem okLight_open {l : LightD} (h : okLight l = true) : okHeader l.header = true ∧ okCommit l.commit = true ∧ l.commit.seals.length ≤ 64 ∧ l.set.length ≤ 64 ∧ l.next.length ≤ 64 := by
  simp only [okLight, okCommitN, okSet, Bool.and_eq_true, decide_eq_true_eq] at h
  exact ⟨h.1, h.2.1.1, h.2.1.2, h.2.2.1, h.2.2.2⟩
theorem encLight_pos (l : LightD) : 0 < (encLight l).length := by simp [encLight, be64_length]; omega
theorem encLight_len (l : LightD) (hl : l.wf) (h : okLight l = true) : (encLight l).length ≤ 10000 := by
  obtain ⟨h1, h2, h3, h4, h5⟩ := okLight_open h
  have := encHeader_len _ hl.header h1
  have := encCommit_length _ hl.commit
  have := encSet_length l.set
  have := encSet_length l.next
  simp only [encLight, List.length_append, be64_length]; omega

end Go.Proofs.YtcbkehnlgpcelaaGreatDoor
