/- Walk: nunciolaw06.FormReads. -/
import Derived.Test.YtaffpgafbjhahaaDoorQProof
import Derived.Test.YtaffpgafbjhahaaDoorSameP
import Derived.Test.YtaffpgafbjhahaaDoorQVote
import Derived.Test.YtaffpgafbjhahaaDoorBack
import Derived.Test.YtaffpgafbjhahaaDoorLaw
namespace Go.Proofs.YtaffpgafbjhahaaDoor
open Go.RowKit
set_option maxRecDepth 100000

theorem Decodes.u {r : Option (List Value)} {Z : List Value} {w w' : World} {e : Ending} (h : Decodes r Z w e w') : w.grownBy w' none ∧ e = .returned (.tuple #[.agg (r.getD Z).toArray, .int .i64 (errOf r)]) := by
  cases r with
  | none => exact ⟨below_grown h.1, h.2⟩
  | some cs => exact ⟨below_grown h.1, h.2⟩
def zVoteD : VoteD := { chain := ⟨#[]⟩, height := 0, round := 0, type := 0, block := List.replicate 32 0, key := 0, r := 0, s := 0 }
theorem zVoteD_wf : zVoteD.wf := ⟨by unfold maxLen zVoteD; exact Nat.zero_le _, by unfold i64R; decide, by unfold i64R; decide, by unfold i64R; decide, rfl, by unfold u64R; decide, by unfold u64R; decide, by unfold u64R; decide⟩
def zPacketD : PacketD := { seq := 0, from_ := ⟨#[]⟩, data := ⟨#[]⟩, timeout := 0 }
theorem zPacketD_wf : zPacketD.wf := ⟨by unfold i64R; decide, by unfold maxLen zPacketD; exact Nat.zero_le _, by unfold maxLen zPacketD; exact Nat.zero_le _, by unfold i64R; decide⟩
theorem getD_map {D : Type} (f : D → List Value) (r : Option D) (z : D) (Z : List Value) (h : f z = Z) : (r.map f).getD Z = f (r.getD z) := by
  cases r with
  | none => exact h.symm
  | some d => rfl
theorem errOf_map {D E : Type} (f : D → E) (r : Option D) : errOf (r.map f) = errOf r := by cases r <;> rfl
theorem decVote_wf2 (l : List UInt8) : ((decVote l).getD zVoteD).wf := by
  unfold decVote
  split
  · exact rdVote_wf _
  · exact zVoteD_wf
theorem decHeader_wf2 (l : List UInt8) : ((decHeader l).getD zHeader).wf := by
  unfold decHeader
  split
  · exact rdHeader_wf _
  · exact zHeader_wf
theorem decPacket_wf2 (l : List UInt8) : ((decPacket l).getD zPacketD).wf := by
  unfold decPacket
  split
  · exact rdPacket_wf _
  · exact zPacketD_wf

set_option maxHeartbeats 8000000 in
theorem FormReads_any (v : Value) (b : List UInt8) (w : World) (hv : RdB w v b) :
    Calls Tryd.prog 5 #[v] w (LawTrue w) := by
  have Hv := Lib.hid hv
  obtain ⟨ao, c, rfl, hle, hcm, hrow⟩ := hv
  have hcm' : c ≤ 9223372036854775807 := hcm
  clear hrow
  by_cases hbig : b.length ≤ 20000
  case neg =>
    have d1 : decide ((20000 : Int) < (b.length : Int)) = true := by simp; omega
    go_enter Tryd.func5, Tryd.ntmps5
    go_wp2_with fail
    refine (alive_any _).mono ?_
    rintro e w' ⟨rfl, hb⟩
    go_wp2_with fail
    go_ret
    exact ⟨rfl, hb⟩
  have d1 : decide ((20000 : Int) < (b.length : Int)) = false := by simp; omega
  have hb2 : b.length ≤ 100000000000 := by omega
  have G := Lib.hid (World.grownBy.refl w none)
  go_enter Tryd.func5, Tryd.ntmps5
  go_upto_region 3 with (fail)
  clear d1
  go_wp2_with fail
  refine (DecodeVote_any _ b _ (Hv.out.grown G.out) hb2).mono ?_
  intro e w1 hd
  obtain ⟨k, rfl⟩ := hd.u
  clear hd
  rw [getD_map VoteD.cells (decVote b) zVoteD ZVote rfl, errOf_map]
  obtain ⟨dVote, hdVote⟩ : ∃ x, (decVote b).getD zVoteD = x := ⟨_, rfl⟩
  obtain ⟨eVote, heVote⟩ : ∃ x, errOf (decVote b) = x := ⟨_, rfl⟩
  rw [hdVote, heVote]
  have WVote := Lib.hid (show dVote.wf from hdVote ▸ decVote_wf2 b)
  have LVote := Lib.hid (dVote.cells_length WVote.out)
  have HdVote := Lib.hid hdVote; have HeVote := Lib.hid heVote; clear hdVote heVote
  replace G := Lib.hid (Lib.grownBy_trans G.out k)
  clear k
  go_wp2_with (refine wpList_alloc_as rfl 29 rfl ZVote ZVote_info ?_)
  intro w2 b9 g9 s9
  have B9 := Lib.hid b9; have K9 := Lib.hid g9; clear b9 g9 s9
  go_wp2_with (refine wpList_store_whole rfl 29 _ _ rfl w1.heap.size rfl dVote.cells ZVote 29 rfl B9.out (by rw [LVote.out]; rfl) (VoteD_one dVote) (sizeVote _ LVote.out) ?_)
  intro w3 g8 s8 b8
  have MVote1 := Lib.hid b8
  have k := grown_new K9.out g8 (Nat.le_refl _)
  replace G := Lib.hid (Lib.grownBy_trans G.out k)
  clear k b8 g8 s8 K9 B9
  go_wp2_with fail
  refine (ReadVote_any _ b _ (Hv.out.grown G.out)).mono ?_
  intro e w4 hd
  obtain ⟨k, rfl⟩ := hd.u
  clear hd
  rw [getD_map VoteD.cells (decVote b) zVoteD ZVote rfl, errOf_map, HdVote.out, HeVote.out]
  replace G := Lib.hid (Lib.grownBy_trans G.out k); replace MVote1 := Lib.hid (MVote1.out.grown k (by simp))
  clear k
  go_wp2_with (refine wpList_alloc_as rfl 29 rfl ZVote ZVote_info ?_)
  intro w5 b9 g9 s9
  have B9 := Lib.hid b9; have K9 := Lib.hid g9; clear b9 g9 s9
  go_wp2_with (refine wpList_store_whole rfl 29 _ _ rfl w4.heap.size rfl dVote.cells ZVote 29 rfl B9.out (by rw [LVote.out]; rfl) (VoteD_one dVote) (sizeVote _ LVote.out) ?_)
  intro w6 g8 s8 b8
  have MVote2 := Lib.hid b8
  have k := grown_new K9.out g8 (Nat.le_refl _)
  replace G := Lib.hid (Lib.grownBy_trans G.out k); replace MVote1 := Lib.hid (MVote1.out.grown k (by simp))
  clear k b8 g8 s8 K9 B9
  go_wp2_with fail
  refine (DecodeHeader_any _ b _ (Hv.out.grown G.out) hb2).mono ?_
  intro e w7 hd
  obtain ⟨k, rfl⟩ := hd.u
  clear hd
  rw [getD_map HeaderD.cells (decHeader b) zHeader ZHeader rfl, errOf_map]
  obtain ⟨dHeader, hdHeader⟩ : ∃ x, (decHeader b).getD zHeader = x := ⟨_, rfl⟩
  obtain ⟨eHeader, heHeader⟩ : ∃ x, errOf (decHeader b) = x := ⟨_, rfl⟩
  rw [hdHeader, heHeader]
  have WHeader := Lib.hid (show dHeader.wf from hdHeader ▸ decHeader_wf2 b)
  have LHeader := Lib.hid (dHeader.cells_length WHeader.out)
  have HdHeader := Lib.hid hdHeader; have HeHeader := Lib.hid heHeader; clear hdHeader heHeader
  replace G := Lib.hid (Lib.grownBy_trans G.out k); replace MVote1 := Lib.hid (MVote1.out.grown k (by simp)); replace MVote2 := Lib.hid (MVote2.out.grown k (by simp))
  clear k
  go_wp2_with (refine wpList_alloc_as rfl 57 rfl ZHeader ZHeader_info ?_)
  intro w8 b9 g9 s9
  have B9 := Lib.hid b9; have K9 := Lib.hid g9; clear b9 g9 s9
  go_wp2_with (refine wpList_store_whole rfl 57 _ _ rfl w7.heap.size rfl dHeader.cells ZHeader 57 rfl B9.out (by rw [LHeader.out]; rfl) (HeaderD_one dHeader) (sizeHeader _ LHeader.out) ?_)
  intro w9 g8 s8 b8
  have MHeader1 := Lib.hid b8
  have k := grown_new K9.out g8 (Nat.le_refl _)
  replace G := Lib.hid (Lib.grownBy_trans G.out k); replace MVote1 := Lib.hid (MVote1.out.grown k (by simp)); replace MVote2 := Lib.hid (MVote2.out.grown k (by simp))
  clear k b8 g8 s8 K9 B9
  go_wp2_with fail
  refine (ReadHeader_any _ b _ (Hv.out.grown G.out)).mono ?_
  intro e w10 hd
  obtain ⟨k, rfl⟩ := hd.u
  clear hd
  rw [getD_map HeaderD.cells (decHeader b) zHeader ZHeader rfl, errOf_map, HdHeader.out, HeHeader.out]
  replace G := Lib.hid (Lib.grownBy_trans G.out k); replace MVote1 := Lib.hid (MVote1.out.grown k (by simp)); replace MVote2 := Lib.hid (MVote2.out.grown k (by simp)); replace MHeader1 := Lib.hid (MHeader1.out.grown k (by simp))
  clear k
  go_wp2_with (refine wpList_alloc_as rfl 57 rfl ZHeader ZHeader_info ?_)
  intro w11 b9 g9 s9
  have B9 := Lib.hid b9; have K9 := Lib.hid g9; clear b9 g9 s9
  go_wp2_with (refine wpList_store_whole rfl 57 _ _ rfl w10.heap.size rfl dHeader.cells ZHeader 57 rfl B9.out (by rw [LHeader.out]; rfl) (HeaderD_one dHeader) (sizeHeader _ LHeader.out) ?_)
  intro w12 g8 s8 b8
  have MHeader2 := Lib.hid b8
  have k := grown_new K9.out g8 (Nat.le_refl _)
  replace G := Lib.hid (Lib.grownBy_trans G.out k); replace MVote1 := Lib.hid (MVote1.out.grown k (by simp)); replace MVote2 := Lib.hid (MVote2.out.grown k (by simp)); replace MHeader1 := Lib.hid (MHeader1.out.grown k (by simp))
  clear k b8 g8 s8 K9 B9
  go_wp2_with fail
  refine (DecodePacket_any _ b _ (Hv.out.grown G.out) hb2).mono ?_
  intro e w13 hd
  obtain ⟨k, rfl⟩ := hd.u
  clear hd
  rw [getD_map PacketD.cells (decPacket b) zPacketD ZPacket rfl, errOf_map]
  obtain ⟨dPacket, hdPacket⟩ : ∃ x, (decPacket b).getD zPacketD = x := ⟨_, rfl⟩
  obtain ⟨ePacket, hePacket⟩ : ∃ x, errOf (decPacket b) = x := ⟨_, rfl⟩
  rw [hdPacket, hePacket]
  have WPacket := Lib.hid (show dPacket.wf from hdPacket ▸ decPacket_wf2 b)
  have LPacket := Lib.hid (dPacket.cells_length WPacket.out)
  have HdPacket := Lib.hid hdPacket; have HePacket := Lib.hid hePacket; clear hdPacket hePacket
  replace G := Lib.hid (Lib.grownBy_trans G.out k); replace MVote1 := Lib.hid (MVote1.out.grown k (by simp)); replace MVote2 := Lib.hid (MVote2.out.grown k (by simp)); replace MHeader1 := Lib.hid (MHeader1.out.grown k (by simp)); replace MHeader2 := Lib.hid (MHeader2.out.grown k (by simp))
  clear k
  go_wp2_with (refine wpList_alloc_as rfl 38 rfl ZPacket ZPacket_info ?_)
  intro w14 b9 g9 s9
  have B9 := Lib.hid b9; have K9 := Lib.hid g9; clear b9 g9 s9
  go_wp2_with (refine wpList_store_whole rfl 38 _ _ rfl w13.heap.size rfl dPacket.cells ZPacket 38 rfl B9.out (by rw [LPacket.out]; rfl) (PacketD_one dPacket) (sizePacket _ LPacket.out) ?_)
  intro w15 g8 s8 b8
  have MPacket1 := Lib.hid b8
  have k := grown_new K9.out g8 (Nat.le_refl _)
  replace G := Lib.hid (Lib.grownBy_trans G.out k); replace MVote1 := Lib.hid (MVote1.out.grown k (by simp)); replace MVote2 := Lib.hid (MVote2.out.grown k (by simp)); replace MHeader1 := Lib.hid (MHeader1.out.grown k (by simp)); replace MHeader2 := Lib.hid (MHeader2.out.grown k (by simp))
  clear k b8 g8 s8 K9 B9
  go_wp2_with fail
  refine (ReadPacket_any _ b _ (Hv.out.grown G.out)).mono ?_
  intro e w16 hd
  obtain ⟨k, rfl⟩ := hd.u
  clear hd
  rw [getD_map PacketD.cells (decPacket b) zPacketD ZPacket rfl, errOf_map, HdPacket.out, HePacket.out]
  replace G := Lib.hid (Lib.grownBy_trans G.out k); replace MVote1 := Lib.hid (MVote1.out.grown k (by simp)); replace MVote2 := Lib.hid (MVote2.out.grown k (by simp)); replace MHeader1 := Lib.hid (MHeader1.out.grown k (by simp)); replace MHeader2 := Lib.hid (MHeader2.out.grown k (by simp)); replace MPacket1 := Lib.hid (MPacket1.out.grown k (by simp))
  clear k
  go_wp2_with (refine wpList_alloc_as rfl 38 rfl ZPacket ZPacket_info ?_)
  intro w17 b9 g9 s9
  have B9 := Lib.hid b9; have K9 := Lib.hid g9; clear b9 g9 s9
  go_wp2_with (refine wpList_store_whole rfl 38 _ _ rfl w16.heap.size rfl dPacket.cells ZPacket 38 rfl B9.out (by rw [LPacket.out]; rfl) (PacketD_one dPacket) (sizePacket _ LPacket.out) ?_)
  intro w18 g8 s8 b8
  have MPacket2 := Lib.hid b8
  have k := grown_new K9.out g8 (Nat.le_refl _)
  replace G := Lib.hid (Lib.grownBy_trans G.out k); replace MVote1 := Lib.hid (MVote1.out.grown k (by simp)); replace MVote2 := Lib.hid (MVote2.out.grown k (by simp)); replace MHeader1 := Lib.hid (MHeader1.out.grown k (by simp)); replace MHeader2 := Lib.hid (MHeader2.out.grown k (by simp)); replace MPacket1 := Lib.hid (MPacket1.out.grown k (by simp))
  clear k b8 g8 s8 K9 B9
  go_wp2_with fail
  refine (DecodeProof_any _ b _ (Hv.out.grown G.out) hb2).mono ?_
  rintro e w19 ⟨hb, cs1, rfl, o1⟩
  have k := below_grown hb
  obtain ⟨dp, hdp⟩ : ∃ x, (decProof b).getD zProof = x := ⟨_, rfl⟩
  obtain ⟨ep, hep⟩ : ∃ x, errOf (decProof b) = x := ⟨_, rfl⟩
  have wp := decProof_wf b
  rw [hdp] at o1 wp; rw [hep]
  have Wp := Lib.hid wp; have Hdp := Lib.hid hdp; have Hep := Lib.hid hep; clear hdp hep wp
  have L1 := Lib.hid o1.length; have N1 := Lib.hid o1.one; 
  replace G := Lib.hid (Lib.grownBy_trans G.out k); replace MVote1 := Lib.hid (MVote1.out.grown k (by simp)); replace MVote2 := Lib.hid (MVote2.out.grown k (by simp)); replace MHeader1 := Lib.hid (MHeader1.out.grown k (by simp)); replace MHeader2 := Lib.hid (MHeader2.out.grown k (by simp)); replace MPacket1 := Lib.hid (MPacket1.out.grown k (by simp)); replace MPacket2 := Lib.hid (MPacket2.out.grown k (by simp))
  have R1 := Lib.hid o1.rep
  clear k hb o1
  go_wp2_with (refine wpList_alloc_as rfl 41 rfl ZProof ZProof_info ?_)
  intro w20 b9 g9 s9
  have B9 := Lib.hid b9; have K9 := Lib.hid g9; clear b9 g9 s9
  go_wp2_with (refine wpList_store_whole rfl 41 _ _ rfl w19.heap.size rfl cs1 ZProof 41 rfl B9.out (by rw [L1.out]; rfl) N1.out (by rw [L1.out]; exact sizeProof) ?_)
  intro w21 g8 s8 b8
  have MP1 := Lib.hid b8
  have k := grown_new K9.out g8 (Nat.le_refl _)
  replace G := Lib.hid (Lib.grownBy_trans G.out k); replace MVote1 := Lib.hid (MVote1.out.grown k (by simp)); replace MVote2 := Lib.hid (MVote2.out.grown k (by simp)); replace MHeader1 := Lib.hid (MHeader1.out.grown k (by simp)); replace MHeader2 := Lib.hid (MHeader2.out.grown k (by simp)); replace MPacket1 := Lib.hid (MPacket1.out.grown k (by simp)); replace MPacket2 := Lib.hid (MPacket2.out.grown k (by simp)); replace R1 := Lib.hid ((R1.out.gr k).mono k.size)
  clear k b8 g8 s8 K9 B9
  go_wp2_with fail
  refine (ReadProof_any _ b _ (Hv.out.grown G.out)).mono ?_
  rintro e w22 ⟨hb, cs2, rfl, o2⟩
  have k := below_grown hb
  rw [Hdp.out] at o2; rw [Hep.out]
  have L2 := Lib.hid o2.length; have N2 := Lib.hid o2.one; 
  replace G := Lib.hid (Lib.grownBy_trans G.out k); replace MVote1 := Lib.hid (MVote1.out.grown k (by simp)); replace MVote2 := Lib.hid (MVote2.out.grown k (by simp)); replace MHeader1 := Lib.hid (MHeader1.out.grown k (by simp)); replace MHeader2 := Lib.hid (MHeader2.out.grown k (by simp)); replace MPacket1 := Lib.hid (MPacket1.out.grown k (by simp)); replace MPacket2 := Lib.hid (MPacket2.out.grown k (by simp)); replace MP1 := Lib.hid (MP1.out.grown k (by simp)); replace R1 := Lib.hid ((R1.out.gr k).mono k.size)
  have R2 := Lib.hid o2.rep
  clear k hb o2
  go_wp2_with (refine wpList_alloc_as rfl 41 rfl ZProof ZProof_info ?_)
  intro w23 b9 g9 s9
  have B9 := Lib.hid b9; have K9 := Lib.hid g9; clear b9 g9 s9
  go_wp2_with (refine wpList_store_whole rfl 41 _ _ rfl w22.heap.size rfl cs2 ZProof 41 rfl B9.out (by rw [L2.out]; rfl) N2.out (by rw [L2.out]; exact sizeProof) ?_)
  intro w24 g8 s8 b8
  have MP2 := Lib.hid b8
  have k := grown_new K9.out g8 (Nat.le_refl _)
  replace G := Lib.hid (Lib.grownBy_trans G.out k); replace MVote1 := Lib.hid (MVote1.out.grown k (by simp)); replace MVote2 := Lib.hid (MVote2.out.grown k (by simp)); replace MHeader1 := Lib.hid (MHeader1.out.grown k (by simp)); replace MHeader2 := Lib.hid (MHeader2.out.grown k (by simp)); replace MPacket1 := Lib.hid (MPacket1.out.grown k (by simp)); replace MPacket2 := Lib.hid (MPacket2.out.grown k (by simp)); replace MP1 := Lib.hid (MP1.out.grown k (by simp)); replace R1 := Lib.hid ((R1.out.gr k).mono k.size); replace R2 := Lib.hid ((R2.out.gr k).mono k.size)
  clear k b8 g8 s8 K9 B9
  go_wp2_with (first | (refine wpList_load_part rfl 41 _ rfl w19.heap.size 0 rfl cs1 _ MP1.out.row Tryd.underlying41 rfl (by rw [L1.out]; exact sizeProof) ?_) | (refine wpList_load_part rfl 41 _ rfl w22.heap.size 0 rfl cs2 _ MP2.out.row Tryd.underlying41 rfl (by rw [L2.out]; exact sizeProof) ?_))
  refine (SameP_refl dp cs1 cs2 _ R1.out R2.out (Nat.le_refl _) Wp.out).mono ?_
  rintro e wz ⟨rfl, k⟩
  replace G := Lib.hid (Lib.grownBy_trans G.out k); replace MVote1 := Lib.hid (MVote1.out.grown k (by simp)); replace MVote2 := Lib.hid (MVote2.out.grown k (by simp)); replace MHeader1 := Lib.hid (MHeader1.out.grown k (by simp)); replace MHeader2 := Lib.hid (MHeader2.out.grown k (by simp)); replace MPacket1 := Lib.hid (MPacket1.out.grown k (by simp)); replace MPacket2 := Lib.hid (MPacket2.out.grown k (by simp))
  clear k R1 R2 MP1 MP2 L1 L2 N1 N2
  go_wp2_with fail
  refine (alive_any _).mono ?_
  rintro e wq ⟨rfl, hb⟩
  have k := below_grown hb
  replace G := Lib.hid (Lib.grownBy_trans G.out k); replace MVote1 := Lib.hid (MVote1.out.grown k (by simp)); replace MVote2 := Lib.hid (MVote2.out.grown k (by simp)); replace MHeader1 := Lib.hid (MHeader1.out.grown k (by simp)); replace MHeader2 := Lib.hid (MHeader2.out.grown k (by simp)); replace MPacket1 := Lib.hid (MPacket1.out.grown k (by simp)); replace MPacket2 := Lib.hid (MPacket2.out.grown k (by simp))
  clear k hb
  have v1 := VEq_vote dVote; have v2 := VEq_header dHeader; have v3 := VEq_packet dPacket
  go_wp2_with (first
    | (refine wpList_load_part rfl 29 _ rfl w1.heap.size 0 rfl dVote.cells _ MVote1.out.row Tryd.underlying29 rfl (sizeVote _ LVote.out) ?_)
    | (refine wpList_load_part rfl 29 _ rfl w4.heap.size 0 rfl dVote.cells _ MVote2.out.row Tryd.underlying29 rfl (sizeVote _ LVote.out) ?_)
    | (refine wpList_eql_flat rfl 29 _ _ _ rfl dVote.cells dVote.cells voteK rfl rfl vote_flat (dVote.fits WVote.out) (dVote.fits WVote.out) rfl (by kernel_rfl) ?_; rw [v1])
    | (refine wpList_load_part rfl 57 _ rfl w7.heap.size 0 rfl dHeader.cells _ MHeader1.out.row Tryd.underlying57 rfl (sizeHeader _ LHeader.out) ?_)
    | (refine wpList_load_part rfl 57 _ rfl w10.heap.size 0 rfl dHeader.cells _ MHeader2.out.row Tryd.underlying57 rfl (sizeHeader _ LHeader.out) ?_)
    | (refine wpList_eql_flat rfl 57 _ _ _ rfl dHeader.cells dHeader.cells kHeader rfl rfl header_flat (dHeader.fits WHeader.out) (dHeader.fits WHeader.out) rfl (by kernel_rfl) ?_; rw [v2])
    | (refine wpList_load_part rfl 38 _ rfl w13.heap.size 0 rfl dPacket.cells _ MPacket1.out.row Tryd.underlying38 rfl (sizePacket _ LPacket.out) ?_)
    | (refine wpList_load_part rfl 38 _ rfl w16.heap.size 0 rfl dPacket.cells _ MPacket2.out.row Tryd.underlying38 rfl (sizePacket _ LPacket.out) ?_)
    | (refine wpList_eql_flat rfl 38 _ _ _ rfl dPacket.cells dPacket.cells kPacket rfl rfl packet_flat dPacket.fits dPacket.fits rfl (by kernel_rfl) ?_; rw [v3]))
  go_ret
  exact ⟨rfl, below_of_grown G.out⟩

end Go.Proofs.YtaffpgafbjhahaaDoor
