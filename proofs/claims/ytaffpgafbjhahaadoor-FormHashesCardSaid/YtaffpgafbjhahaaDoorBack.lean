/- Plain laws: what is encoded is decoded as it was. No program's text is walked here. -/
import Derived.Test.YtaffpgafbjhahaaDoorDec2Light
import Derived.Test.YtaffpgafbjhahaaDoorPlain6
import Derived.Test.YtaffpgafbjhahaaDoorSame
namespace Go.Proofs.YtaffpgafbjhahaaDoor
open Go.RowKit
set_option maxRecDepth 100000

theorem rdWord_be (n : Int) (hn : u64R n) (r : List UInt8) : rdWord (some (be64 n ++ r)) = (n.toNat, some r) := by
  unfold rdWord
  have h8 : (be64 n).length = 8 := be64_length n
  dsimp only
  rw [if_pos (by rw [List.length_append, h8]; omega), List.take_left' h8, List.drop_left' h8]
  have := u64_be64 n hn
  rw [show ofBe (be64 n) = n.toNat by omega]
theorem rdNum_be (n : Int) (hn : i64R n) (r : List UInt8) : rdNum (some (be64 n ++ r)) = (n, some r) := by
  have h8 : (be64 n).length = 8 := be64_length n
  unfold rdNum rdWord
  simp only []
  rw [if_pos (by rw [List.length_append, h8]; omega)]
  simp only [List.take_left' h8, List.drop_left' h8]
  rw [wrap64_be64 n hn]
theorem rdText_be (s : ByteArray) (hs : s.size ≤ 4096) (r : List UInt8) : rdText (some (textL s ++ r)) = (s.data.toList, some r) := by
  have h2 : (be16 s.size).length = 2 := be16_length _
  have hl : s.data.toList.length = s.size := by simp
  unfold rdText textL
  simp only [List.append_assoc]
  rw [List.take_left' h2, List.drop_left' h2, ofBe_be16 s.size (by omega)]
  rw [if_pos ⟨by rw [List.length_append, h2]; omega, by omega, by rw [List.length_append, hl]; omega⟩]
  rw [List.take_left' hl, List.drop_left' hl]
theorem rdHash_be (h r : List UInt8) (hh : h.length = 32) : rdHash (some (h ++ r)) = (h, some r) := by
  unfold rdHash
  simp only []
  rw [if_pos (by rw [List.length_append, hh]; omega), List.take_left' hh, List.drop_left' hh]
theorem rdCount_be (n most : Int) (h0 : 0 ≤ n) (h1 : n ≤ most) (h2 : i64R n) (r : List UInt8) : rdCount most (some (be64 n ++ r)) = (n, some r) := by
  have h8 : (be64 n).length = 8 := be64_length n
  unfold rdCount
  simp only []
  rw [List.take_left' h8, List.drop_left' h8, wrap64_be64 n h2]
  rw [if_pos ⟨by rw [List.length_append, h8]; omega, h0, h1⟩]
theorem u64_nat {n : Int} (h : u64R n) : ((n.toNat : Nat) : Int) = n := by unfold u64R at h; omega
theorem str_back (s : ByteArray) : (⟨s.data.toList.toArray⟩ : ByteArray) = s := by
  obtain ⟨⟨l⟩⟩ := s; rfl

theorem rdVote_back (v : VoteD) (hv : v.wf) (ok : okVote v = true) (r : List UInt8) :
    rdVote (some (textL v.chain ++ (be64 v.height ++ (be64 v.round ++ (be64 v.type ++ (v.block ++ (be64 v.key ++ (be64 v.r ++ (be64 v.s ++ r))))))))) = (v, some r) := by
  have hc := okVote_len ok
  have e1 := rdText_be v.chain (by omega)
  simp only [rdVote, voteS0, voteS1, voteS2, voteS3, voteS4, voteS5, voteS6, voteS7, rdSig, e1, rdNum_be _ hv.height, rdNum_be _ hv.round, rdNum_be _ hv.type, rdHash_be _ _ hv.block, rdWord_be _ hv.key, rdWord_be _ hv.r, rdWord_be _ hv.s, u64_nat hv.key, u64_nat hv.r, u64_nat hv.s, str_back]
theorem decVote_back (v : VoteD) (hv : v.wf) (ok : okVote v = true) : decVote (encVote v) = some v := by
  have e0 : encVote v = be64 1 ++ (textL v.chain ++ (be64 v.height ++ (be64 v.round ++ (be64 v.type ++ (v.block ++ (be64 v.key ++ (be64 v.r ++ (be64 v.s ++ [])))))))) := by simp [encVote]
  rw [e0]
  unfold decVote
  rw [rdNum_be 1 (by unfold i64R; omega)]
  simp only [rdVote_back v hv ok]
  rw [if_pos ⟨trivial, trivial, ok⟩]

theorem decPacket_back (p : PacketD) (hp : p.wf) (ok : okPacket p = true) : decPacket (encPacket p) = some p := by
  obtain ⟨h1, h2⟩ := okPacket_len ok
  have e0 : encPacket p = be64 6 ++ (be64 p.seq ++ (textL p.from_ ++ (textL p.data ++ (be64 p.timeout ++ [])))) := by simp [encPacket]
  have e1 := rdText_be p.from_ (by omega)
  have e2 := rdText_be p.data (by omega)
  rw [e0]
  unfold decPacket
  rw [rdNum_be 6 (by unfold i64R; omega)]
  simp only [rdPacket, rdNum_be _ hp.seq, rdNum_be _ hp.timeout, e1, e2, str_back]
  rw [if_pos ⟨trivial, trivial, ok⟩]

theorem rdHeader_back (d : HeaderD) (hd : d.wf) (ok : okHeader d = true) (r : List UInt8) :
    rdHeader (some (textL d.chain ++ (be64 d.height ++ (be64 d.time ++ (d.last ++ (d.set ++ (d.next ++ (d.data ++ (d.app ++ r))))))))) = (d, some r) := by
  have hc := okHeader_len ok
  have e1 := rdText_be d.chain (by omega)
  simp only [rdHeader, headerS0, headerS1, headerS2, headerS3, headerS4, headerS5, headerS6, headerS7, headerS8, e1, rdNum_be _ hd.height, rdNum_be _ hd.time, rdHash_be _ _ hd.last, rdHash_be _ _ hd.set, rdHash_be _ _ hd.next, rdHash_be _ _ hd.data, rdHash_be _ _ hd.app, str_back]

theorem rdVals_back (l : List ValD) (hl : ∀ v ∈ l, v.wf) (r : List UInt8) : ∀ k, k ≤ l.length → rdVals k (some (encVals l ++ r)) = (l.take k, some (encVals (l.drop k) ++ r)) := by
  intro k
  induction k with
  | zero => intro _; rfl
  | succ k ih =>
    intro hk
    have hk' : k < l.length := by omega
    have hw := hl l[k] (List.getElem_mem _)
    have e1 : encVals (l.drop k) ++ r = be64 l[k].key ++ (be64 l[k].power ++ (encVals (l.drop (k + 1)) ++ r)) := by
      rw [List.drop_eq_getElem_cons hk', show ∀ (x : ValD) (xs : List ValD), encVals (x :: xs) = encVal x ++ encVals xs from fun _ _ => rfl, encVal]; simp only [List.append_assoc]
    rw [rdVals, ih (by omega), e1]
    simp only [rdWord_be _ hw.1, rdNum_be _ hw.2, u64_nat hw.1]
    rw [List.take_succ_eq_append_getElem hk']
theorem rdSet_back (l : List ValD) (hl : ∀ v ∈ l, v.wf) (hn : l.length ≤ 64) (r : List UInt8) : rdSet (some (be64 l.length ++ (encVals l ++ r))) = (l, some r) := by
  unfold rdSet
  rw [rdCount_be _ 64 (by omega) (by omega) (by unfold i64R; omega)]
  simp only [Int.toNat_natCast]
  rw [rdVals_back l hl r l.length (Nat.le_refl _), List.take_of_length_le (Nat.le_refl _), List.drop_of_length_le (Nat.le_refl _)]
  rfl
theorem rdSeals_back (l : List SealD) (hl : ∀ v ∈ l, v.wf) (r : List UInt8) : ∀ k, k ≤ l.length → rdSeals k (some (encSeals l ++ r)) = (l.take k, some (encSeals (l.drop k) ++ r)) := by
  intro k
  induction k with
  | zero => intro _; rfl
  | succ k ih =>
    intro hk
    have hk' : k < l.length := by omega
    have hw := hl l[k] (List.getElem_mem _)
    have e1 : encSeals (l.drop k) ++ r = be64 l[k].key ++ (be64 l[k].r ++ (be64 l[k].s ++ (encSeals (l.drop (k + 1)) ++ r))) := by
      rw [List.drop_eq_getElem_cons hk', show ∀ (x : SealD) (xs : List SealD), encSeals (x :: xs) = encSeal x ++ encSeals xs from fun _ _ => rfl, encSeal]; simp only [List.append_assoc]
    rw [rdSeals, ih (by omega), e1]
    simp only [rdSig, rdWord_be _ hw.1, rdWord_be _ hw.2.1, rdWord_be _ hw.2.2, u64_nat hw.1, u64_nat hw.2.1, u64_nat hw.2.2]
    rw [List.take_succ_eq_append_getElem hk']
theorem rdCommit_back (c : CommitD) (hc : c.wf) (hn : c.seals.length ≤ 64) (r : List UInt8) :
    rdCommit (some (be64 c.height ++ (be64 c.round ++ (c.block ++ (be64 c.seals.length ++ (encSeals c.seals ++ r)))))) = (c, some r) := by
  have e : (rdSeals c.seals.length (some (encSeals c.seals ++ r))) = (c.seals, some r) := by
    rw [rdSeals_back c.seals hc.seals r _ (Nat.le_refl _), List.take_of_length_le (Nat.le_refl _), List.drop_of_length_le (Nat.le_refl _)]
    rfl
  simp only [rdCommit, cT1, cT2, cT3, rdNum_be _ hc.height, rdNum_be _ hc.round, rdHash_be _ _ hc.block]
  rw [rdCount_be _ 64 (by omega) (by omega) (by unfold i64R; omega)]
  simp only [Int.toNat_natCast, e]

theorem decLight_back (l : LightD) (hl : l.wf) (ok : okLight l = true) : decLight (encLight l) = some l := by
  obtain ⟨h1, h2, h3, h4, h5⟩ := okLight_open ok
  have e0 : encLight l = be64 5 ++ (be64 2 ++ (textL l.header.chain ++ (be64 l.header.height ++ (be64 l.header.time ++ (l.header.last ++ (l.header.set ++ (l.header.next ++ (l.header.data ++ (l.header.app ++
      (be64 4 ++ (be64 l.commit.height ++ (be64 l.commit.round ++ (l.commit.block ++ (be64 l.commit.seals.length ++ (encSeals l.commit.seals ++
      (be64 3 ++ (be64 l.set.length ++ (encVals l.set ++ (be64 3 ++ (be64 l.next.length ++ (encVals l.next ++ []))))))))))))))))))))) := by simp [encLight, encHeader, encCommit, encSet]
  rw [e0]
  unfold decLight
  have r5 := rdNum_be 5 (by unfold i64R; omega)
  have r4 := rdNum_be 4 (by unfold i64R; omega)
  have r3 := rdNum_be 3 (by unfold i64R; omega)
  have r2 := rdNum_be 2 (by unfold i64R; omega)
  have a1 := rdHeader_back l.header hl.header h1
  have a2 := rdCommit_back l.commit hl.commit h3
  have a3 := rdSet_back l.set hl.set h4
  have a4 := rdSet_back l.next hl.next h5
  rw [r5]
  simp only [lKinds, rdLight, lS2, lS3, lS4, lS5, r2, r3, r4, a1, a2, a3, a4]
  rw [if_pos ⟨trivial, by simp, trivial, by rw [h1, h2]; rfl⟩]

/-- the law's equalities -/
theorem sameL_refl_val (l : List ValD) : sameL ValD.cells l l = true := by
  have : ∀ xs : List ValD, VEq (xs.flatMap ValD.cells) (xs.flatMap ValD.cells) = true := by
    intro xs; induction xs with
    | nil => rfl
    | cons x xs ih => rw [List.flatMap_cons, VEq.append rfl, ih]; simp [ValD.cells, VEq, KEq]
  unfold sameL; rw [this]; simp
theorem sameL_refl_seal (l : List SealD) : sameL SealD.cells l l = true := by
  have : ∀ xs : List SealD, VEq (xs.flatMap SealD.cells) (xs.flatMap SealD.cells) = true := by
    intro xs; induction xs with
    | nil => rfl
    | cons x xs ih => rw [List.flatMap_cons, VEq.append rfl, ih]; simp [SealD.cells, VEq, KEq]
  unfold sameL; rw [this]; simp
theorem VEq_header (d : HeaderD) : VEq d.cells d.cells = true := by
  unfold HeaderD.cells
  rw [VEq.append rfl, VEq.append rfl, VEq.append rfl, VEq.append rfl, VEq.append rfl]
  simp [VEq.bytes, VEq, KEq]
theorem sameLight_refl (l : LightD) : sameLight l l = true := by
  unfold sameLight sameCommit
  rw [VEq_header, sameL_refl_val, sameL_refl_val, sameL_refl_seal, VEq.bytes]; simp

def kPacket : List Value := [.int .i64 0, .string ⟨#[]⟩, .string ⟨#[]⟩, .int .i64 0]
theorem packet_flat : flat Tryd.prog 20 38 = some kPacket := by kernel_rfl
theorem PacketD.fits (p : PacketD) : Fits kPacket p.cells = true := rfl
theorem PacketD_one (p : PacketD) : ∀ x ∈ p.cells, x.oneCell' = true := by simp [PacketD.cells, Value.oneCell']
theorem VEq_packet (p : PacketD) : VEq p.cells p.cells = true := by simp [PacketD.cells, VEq, KEq]
theorem VEq_vote (v : VoteD) : VEq v.cells v.cells = true := by
  unfold VoteD.cells
  rw [VEq.append rfl, VEq.append rfl]; simp [VEq.bytes, VEq, KEq]

end Go.Proofs.YtaffpgafbjhahaaDoor
