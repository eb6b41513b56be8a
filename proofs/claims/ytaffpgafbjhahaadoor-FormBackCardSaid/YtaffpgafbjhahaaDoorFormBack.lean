/- Walk: nunciolaw06.FormBack. -/
import Derived.Test.YtaffpgafbjhahaaDoorBack
import Derived.Test.YtaffpgafbjhahaaDoorLaw
import Derived.Deep.CutRange
namespace Go.Proofs.YtaffpgafbjhahaaDoor
open Go.RowKit
set_option maxRecDepth 100000

theorem belowG {w w' : World} (h : w.grownBy w' none) : Below w.heap.size w w' := ⟨h.os, h.tape, h.output, h.size, fun k hk => h.block k hk (by simp)⟩
/-- what an encoding left: bytes, or the error -/
def EncR (ok : Bool) (l : List UInt8) (s : Value) (c : Int) (w : World) : Prop := (ok = true ∧ c = 0 ∧ RdB w s l) ∨ (ok = false ∧ c = 61)
def EncS (ok : Bool) (l : List UInt8) (s7 s8 : Value) (W w' : World) : Prop := ∃ (a : Option Addr) (n k : Nat) (c : Int), s7 = .slice a n k ∧ s8 = .int .i64 c ∧ EncR ok l (.slice a n k) c w' ∧ W.grownBy w' none
theorem EncS.of {ok : Bool} {l : List UInt8} {W w w' : World} {e : Ending} (h : Enc ok l w e w') (hg : W.grownBy w none) : ∃ s7 s8, e = .returned (.tuple #[s7, s8]) ∧ EncS ok l s7 s8 W w' := by
  cases ok with
  | true =>
    obtain ⟨a, n, k, rfl, h1, h2⟩ := h
    exact ⟨_, _, rfl, a, n, k, 0, rfl, rfl, Or.inl ⟨rfl, rfl, h1.rd⟩, Lib.grownBy_trans hg (below_grown h2)⟩
  | false =>
    obtain ⟨rfl, h2⟩ := h
    exact ⟨_, _, rfl, none, 0, 0, 61, rfl, rfl, Or.inr ⟨rfl, rfl⟩, Lib.grownBy_trans hg (below_grown h2)⟩
theorem EncodeVote_enc (v : VoteD) (w : World) (hv : v.wf) : Calls Tryd.prog 28 #[.agg v.cells.toArray] w (Enc (okVote v) (encVote v) w) := by
  cases h : okVote v with
  | true => exact EncodeVote_yes v w hv h
  | false => exact EncodeVote_no v w hv h
theorem EncodePacket_enc (v : PacketD) (w : World) (hv : v.wf) : Calls Tryd.prog 14 #[.agg v.cells.toArray] w (Enc (okPacket v) (encPacket v) w) := by
  cases h : okPacket v with
  | true => exact EncodePacket_yes v w hv h
  | false => exact EncodePacket_no v w hv h

theorem three_boxes (w : World) (xs ys zs : List Value) (T U V : TypeId) : ∃ W, ((w.alloc (.cells xs.toArray T)).alloc (.cells ys.toArray U)).alloc (.cells zs.toArray V) = W ∧ Blk W w.heap.size xs T ∧ Blk W (w.heap.size + 1) ys U ∧ Blk W (w.heap.size + 2) zs V ∧ w.grownBy W none ∧ W.heap.size = w.heap.size + 3 := by
  obtain ⟨W2, h1, h2, h3, h4, h5⟩ := two_boxes w xs ys T U
  refine ⟨_, by rw [h1], h2.grown (World.grownBy_alloc _ _ none) (by simp), h3.grown (World.grownBy_alloc _ _ none) (by simp), ?_, Lib.grownBy_trans h4 (World.grownBy_alloc _ _ none), by simp [h5]⟩
  have := Blk.new W2 zs V
  rwa [h5] at this
theorem light_seals {B : Nat} {w : World} {l : LightD} {cs : List Value} (h : l.rep B w cs) (hl : l.wf) : ∃ sl, RdS B w sl l.commit.seals.length 3 (sealCells l.commit.seals) ∧ cs[197]? = some sl := by
  obtain ⟨cc, sv, nv, h1, h2, h3, rfl⟩ := h
  have e1 := l.header.cells_length hl.header
  have e2 := h1.length hl.commit
  obtain ⟨sl, h4, h5⟩ := commit_seals h1 hl.commit
  refine ⟨sl, h4, ?_⟩
  rw [List.append_assoc, List.getElem?_append_right (by omega), e1, List.getElem?_append_left (by omega)]
  exact h5
theorem packet_eq (p : PacketD) (w : World) : (binOp .neq 38 (.agg p.cells.toArray) (.agg p.cells.toArray)).run Tryd.prog w = .ok (.bool false) w := by
  have := (run_eql_flat (P := Tryd.prog) (t := 38) (ks := [.int .i64 0, .string ⟨#[]⟩, .string ⟨#[]⟩, .int .i64 0]) (by kernel_rfl) p.cells p.cells w rfl rfl (by kernel_rfl)).2
  rw [this]
  simp [PacketD.cells, VEq, KEq]
def kPacket : List Value := [.int .i64 0, .string ⟨#[]⟩, .string ⟨#[]⟩, .int .i64 0]
theorem packet_flat : flat Tryd.prog 20 38 = some kPacket := by kernel_rfl
theorem PacketD.fits (p : PacketD) : Fits kPacket p.cells = true := rfl
theorem PacketD_one (p : PacketD) : ∀ x ∈ p.cells, x.oneCell' = true := by simp [PacketD.cells, Value.oneCell']
theorem VEq_packet (p : PacketD) : VEq p.cells p.cells = true := by simp [PacketD.cells, VEq, KEq]
theorem VEq_vote (v : VoteD) : VEq v.cells v.cells = true := by
  unfold VoteD.cells
  rw [VEq.append rfl, VEq.append rfl]; simp [VEq.bytes, VEq, KEq]

theorem lrep_grown {B : Nat} {w w' : World} {c : LightD} {cs : List Value} (h : c.rep B w cs) (hg : w.grownBy w' none) : c.rep B w' cs := by
  obtain ⟨a, b, d, h1, h2, h3, h4⟩ := h; exact ⟨a, b, d, rep_grown h1 hg, h2.grown hg, h3.grown hg, h4⟩

set_option maxHeartbeats 4000000 in
theorem FormBack_any {B : Nat} (v : VoteD) (l : LightD) (p : PacketD) (lcs : List Value) (w : World) (hv : v.wf) (hl : l.wf) (hp : p.wf) (hr : l.rep B w lcs) (hB : B ≤ w.heap.size) :
    Calls Tryd.prog 6 #[v.val, .agg lcs.toArray, p.val] w (LawTrue w) := by
  unfold VoteD.val PacketD.val
  obtain ⟨W, hW, B1, B2, B3, hg, hs⟩ := three_boxes w v.cells lcs p.cells 29 71 38
  obtain ⟨_, _, ⟨sv, s1, s2⟩, ⟨nv, n1, n2⟩⟩ := LightD.parts hr hl
  obtain ⟨qv, q1, q2⟩ := light_seals hr hl
  obtain ⟨sa, sk, rfl, hsk, hsl, _⟩ := s1.slice
  obtain ⟨na, nk, rfl, hnk, hnl, _⟩ := n1.slice
  obtain ⟨qa, qk, rfl, hqk, hql, _⟩ := q1.slice
  have c198 := B2.row 198 _ s2; rw [Nat.zero_add] at c198
  have c199 := B2.row 199 _ n2; rw [Nat.zero_add] at c199
  have c197 := B2.row 197 _ q2; rw [Nat.zero_add] at c197
  have HW := Lib.hid hW; have H1 := Lib.hid B1; have H2 := Lib.hid B2; have H3 := Lib.hid B3; have Hg := Lib.hid hg; have Hr := Lib.hid (hr.mono hB)
  have Hv := Lib.hid hv; have Hl := Lib.hid hl; have Hp := Lib.hid hp; have HlL := Lib.hid (hr.length hl)
  clear hW B1 B2 B3 hg hs hr hv hl hp s1 n1 q1 s2 n2 q2 hB
  by_cases hbig : l.set.length ≤ 70 ∧ l.next.length ≤ 70 ∧ l.commit.seals.length ≤ 70
  case neg =>
    by_cases z1 : l.set.length ≤ 70
    · have d1 : decide ((70 : Int) < (l.set.length : Int)) = false := by simp; omega
      by_cases z2 : l.next.length ≤ 70
      · have d2 : decide ((70 : Int) < (l.next.length : Int)) = false := by simp; omega
        have d3 : decide ((70 : Int) < (l.commit.seals.length : Int)) = true := by simp; omega
        clear hbig
        go_enter Tryd.func6, Tryd.ntmps6
        go_upto_region 1 with (fail)
        rw [HW.out]
        go_wp2_with fail
        refine (alive_any _).mono ?_
        rintro e w' ⟨rfl, hb⟩
        go_wp2_with fail
        go_ret
        exact ⟨rfl, belowG (Lib.grownBy_trans Hg.out (below_grown hb))⟩
      · have d2 : decide ((70 : Int) < (l.next.length : Int)) = true := by simp; omega
        clear hbig
        go_enter Tryd.func6, Tryd.ntmps6
        go_upto_region 1 with (fail)
        rw [HW.out]
        go_wp2_with fail
        refine (alive_any _).mono ?_
        rintro e w' ⟨rfl, hb⟩
        go_wp2_with fail
        go_ret
        exact ⟨rfl, belowG (Lib.grownBy_trans Hg.out (below_grown hb))⟩
    · have d1 : decide ((70 : Int) < (l.set.length : Int)) = true := by simp; omega
      clear hbig
      go_enter Tryd.func6, Tryd.ntmps6
      go_upto_region 1 with (fail)
      rw [HW.out]
      go_wp2_with fail
      refine (alive_any _).mono ?_
      rintro e w' ⟨rfl, hb⟩
      go_wp2_with fail
      go_ret
      exact ⟨rfl, belowG (Lib.grownBy_trans Hg.out (below_grown hb))⟩
  obtain ⟨z1, z2, z3⟩ := hbig
  have d1 : decide ((70 : Int) < (l.set.length : Int)) = false := by simp; omega
  have d2 : decide ((70 : Int) < (l.next.length : Int)) = false := by simp; omega
  have d3 : decide ((70 : Int) < (l.commit.seals.length : Int)) = false := by simp; omega
  go_enter Tryd.func6, Tryd.ntmps6
  go_upto_region 1 with (fail)
  rw [HW.out]
  go_upto_region 3 with (fail)
  clear c197 c198 c199 d1 d2 d3 z1 z2 z3
  go_cut [7, 8] from 36 (fun s7 s8 w' => EncS (okVote v) (encVote v) s7 s8 W w')
  case first =>
    go_wp2_with (refine wpList_load_part rfl 29 _ rfl w.heap.size 0 rfl v.cells _ H1.out.row Tryd.underlying29 rfl (v.size Hv.out) ?_)
    refine (EncodeVote_enc v _ Hv.out).mono ?_
    intro e w2 he
    obtain ⟨s7, s8, rfl, hs⟩ := EncS.of he (World.grownBy.refl W none)
    go_wp2_with fail
    go_meet
    case rel => exact hs
  case rest =>
  obtain ⟨a7, n7, k7, c8, rfl, rfl, he, hgr⟩ := hcut
  have He := Lib.hid he; have G := Lib.hid hgr; clear he hgr
  go_upto_if 42 with (fail)
  go_cut [7, 8, 9, 10] from 42 (fun _ _ _ _ w' => W.grownBy w' none)
  case first =>
    rcases He.out with ⟨ok, rfl, hrd⟩ | ⟨ok, rfl⟩
    · have Hrd := Lib.hid hrd
      have Hd := Lib.hid (show (decVote (encVote v)).map VoteD.cells = some v.cells by rw [decVote_back v Hv.out ok]; rfl)
      have Hlen := Lib.hid (encVote_len v Hv.out ok)
      have Hc := Lib.hid (v.cells_length Hv.out)
      have hvv := VEq_vote v
      clear hrd ok
      go_wp2_with fail
      refine (DecodeVote_any _ _ _ Hrd.out (by have := Hlen.out; omega)).mono ?_
      intro e w3 hd
      obtain ⟨hb, rfl⟩ := hd.y Hd.out
      have G3 := Lib.hid (Lib.grownBy_trans G.out (below_grown hb)); clear hb hd
      go_wp2_with (refine wpList_alloc_as rfl 29 rfl ZVote ZVote_info ?_)
      intro w4 b4 g4 s4
      have B4 := Lib.hid b4; have G4 := Lib.hid (Lib.grownBy_trans G3.out g4); clear b4 g4 s4
      go_wp2_with (refine wpList_store_whole rfl 29 _ _ rfl w3.heap.size rfl v.cells ZVote 29 rfl B4.out (by rw [Hc.out]; rfl) (VoteD_one v) (sizeVote _ Hc.out) ?_)
      intro w5 g5 s5 b5
      have B5 := Lib.hid b5; have G5 := Lib.hid (grown_new G4.out g5 G3.out.size)
      have R := Lib.hid (H1.out.grown G5.out (by simp)); clear b5 g5 s5
      go_wp2_with (first
        | (refine wpList_load_part rfl 29 _ rfl w3.heap.size 0 rfl v.cells _ B5.out.row Tryd.underlying29 rfl (v.size Hv.out) ?_)
        | (refine wpList_load_part rfl 29 _ rfl w.heap.size 0 rfl v.cells _ R.out.row Tryd.underlying29 rfl (v.size Hv.out) ?_)
        | (refine wpList_neq_flat rfl 29 _ _ _ rfl v.cells v.cells voteK rfl rfl vote_flat (v.fits Hv.out) (v.fits Hv.out) rfl (by kernel_rfl) ?_))
      go_meet
      case rel => exact G5.out
    · go_wp2
      go_meet
      case rel => exact G.out
  case rest =>
  have G := Lib.hid hcut; clear hcut
  clear He
  go_upto_region 8 with (fail)
  go_cut [8, 11] from 55 (fun s8 s11 w' => EncS (okLight l) (encLight l) s11 s8 W w')
  case first =>
    have R := Lib.hid (H2.out.grown G.out (by simp))
    go_wp2_with (refine wpList_load_part rfl 71 _ rfl (w.heap.size + 1) 0 rfl lcs _ R.out.row Tryd.underlying71 rfl (sizeLight _ HlL.out) ?_)
    refine (EncodeLight_any l lcs _ Hl.out ((lrep_grown Hr.out (Lib.grownBy_trans Hg.out G.out)).mono (Lib.grownBy_trans Hg.out G.out).size)).mono ?_
    intro e w2 he
    obtain ⟨s7, s8, rfl, hs⟩ := EncS.of he G.out
    go_wp2_with fail
    go_meet
    case rel => exact hs
  case rest =>
  clear G
  obtain ⟨a11, n11, k11, c9, rfl, rfl, he, hgr⟩ := hcut
  have He := Lib.hid he; have G := Lib.hid hgr; clear he hgr
  go_upto_if 61 with (fail)
  go_cut [8, 11, 12, 13, 14] from 60 (fun _ _ _ _ _ w' => W.grownBy w' none)
  case first =>
    rcases He.out with ⟨ok, rfl, hrd⟩ | ⟨ok, rfl⟩
    · have Hrd := Lib.hid hrd
      have Hd := Lib.hid (decLight_back l Hl.out ok)
      have Hlen := Lib.hid (encLight_len l Hl.out ok)
      clear hrd ok
      go_wp2_with fail
      refine (DecodeLight_any _ _ _ Hrd.out (by have := Hlen.out; omega)).mono ?_
      intro e w3 hd
      rw [Hd.out] at hd
      obtain ⟨hb, cs, rfl, ho⟩ := hd
      have G3 := Lib.hid (Lib.grownBy_trans G.out (below_grown hb))
      have Hc := Lib.hid (ho.rep.length Hl.out); have Hone := Lib.hid ho.one; have Hrep := Lib.hid ho.rep; clear hb ho
      go_wp2_with (refine wpList_alloc_as rfl 71 rfl ZLight ZLight_info ?_)
      intro w4 b4 g4 s4
      have B4 := Lib.hid b4; have G4 := Lib.hid (Lib.grownBy_trans G3.out g4); have L4 := Lib.hid g4; clear b4 g4 s4
      go_wp2_with (refine wpList_store_whole rfl 71 _ _ rfl w3.heap.size rfl cs ZLight 71 rfl B4.out (by rw [Hc.out]; rfl) Hone.out (sizeLight _ Hc.out) ?_)
      intro w5 g5 s5 b5
      have B5 := Lib.hid b5; have G5 := Lib.hid (grown_new G4.out g5 G3.out.size); have L5 := Lib.hid (grown_new L4.out g5 (Nat.le_refl _))
      have R := Lib.hid (H2.out.grown G5.out (by simp)); clear b5 g5 s5
      go_wp2_with (first
        | (refine wpList_load_part rfl 71 _ rfl w3.heap.size 0 rfl cs _ B5.out.row Tryd.underlying71 rfl (sizeLight _ Hc.out) ?_)
        | (refine wpList_load_part rfl 71 _ rfl (w.heap.size + 1) 0 rfl lcs _ R.out.row Tryd.underlying71 rfl (sizeLight _ HlL.out) ?_))
      refine (SameLight_any (B := w5.heap.size) l l cs lcs w5 ((lrep_grown Hrep.out L5.out).mono L5.out.size) ((lrep_grown Hr.out (Lib.grownBy_trans Hg.out G5.out)).mono (Lib.grownBy_trans Hg.out G5.out).size) Hl.out Hl.out (Nat.le_refl _)).mono ?_
      rintro e w6 ⟨rfl, g6⟩
      rw [sameLight_refl]
      have G6 := Lib.hid (Lib.grownBy_trans G5.out g6); clear g6
      go_wp2_with fail
      go_meet
      case rel => exact G6.out
    · go_wp2
      go_meet
      case rel => exact G.out
  case rest =>
  clear G He
  have G := Lib.hid hcut; clear hcut
  go_upto_region 14 with (fail)
  go_cut [8, 15] from 76 (fun s8 s15 w' => EncS (okPacket p) (encPacket p) s15 s8 W w')
  case first =>
    have R := Lib.hid (show Blk _ (w.heap.size + 1 + 1) _ _ from H3.out.grown G.out (by simp))
    go_wp2_with (refine wpList_load_part rfl 38 _ rfl (w.heap.size + 1 + 1) 0 rfl p.cells _ R.out.row Tryd.underlying38 rfl (p.size Hp.out) ?_)
    refine (EncodePacket_enc p _ Hp.out).mono ?_
    intro e w2 he
    obtain ⟨s7, s8, rfl, hs⟩ := EncS.of he G.out
    go_wp2_with fail
    go_meet
    case rel => exact hs
  case rest =>
  clear G
  obtain ⟨a11, n11, k11, c9, rfl, rfl, he, hgr⟩ := hcut
  have He := Lib.hid he; have G := Lib.hid hgr; clear he hgr
  go_upto_if 82 with (fail)
  go_cut [8, 15, 16, 17] from 81 (fun _ _ _ _ w' => W.grownBy w' none)
  case first =>
    rcases He.out with ⟨ok, rfl, hrd⟩ | ⟨ok, rfl⟩
    · have Hrd := Lib.hid hrd
      have Hd := Lib.hid (show (decPacket (encPacket p)).map PacketD.cells = some p.cells by rw [decPacket_back p Hp.out ok]; rfl)
      have Hlen := Lib.hid (encPacket_len p Hp.out ok)
      have hvv := VEq_packet p
      clear hrd ok
      go_wp2_with fail
      refine (DecodePacket_any _ _ _ Hrd.out (by have := Hlen.out; omega)).mono ?_
      intro e w3 hd
      obtain ⟨hb, rfl⟩ := hd.y Hd.out
      have G3 := Lib.hid (Lib.grownBy_trans G.out (below_grown hb)); clear hb hd
      go_wp2_with (refine wpList_alloc_as rfl 38 rfl ZPacket ZPacket_info ?_)
      intro w4 b4 g4 s4
      have B4 := Lib.hid b4; have G4 := Lib.hid (Lib.grownBy_trans G3.out g4); clear b4 g4 s4
      go_wp2_with (refine wpList_store_whole rfl 38 _ _ rfl w3.heap.size rfl p.cells ZPacket 38 rfl B4.out rfl (PacketD_one p) (sizePacket _ rfl) ?_)
      intro w5 g5 s5 b5
      have B5 := Lib.hid b5; have G5 := Lib.hid (grown_new G4.out g5 G3.out.size)
      have R := Lib.hid (show Blk _ (w.heap.size + 1 + 1) _ _ from H3.out.grown G5.out (by simp)); clear b5 g5 s5
      go_wp2_with (first
        | (refine wpList_load_part rfl 38 _ rfl w3.heap.size 0 rfl p.cells _ B5.out.row Tryd.underlying38 rfl (p.size Hp.out) ?_)
        | (refine wpList_load_part rfl 38 _ rfl (w.heap.size + 1 + 1) 0 rfl p.cells _ R.out.row Tryd.underlying38 rfl (p.size Hp.out) ?_)
        | (refine wpList_neq_flat rfl 38 _ _ _ rfl p.cells p.cells kPacket rfl rfl packet_flat p.fits p.fits rfl (by kernel_rfl) ?_))
      go_meet
      case rel => exact G5.out
    · go_wp2
      go_meet
      case rel => exact G.out
  case rest =>
  clear G He
  have G := Lib.hid hcut; clear hcut
  go_wp2_with fail
  refine (alive_any _).mono ?_
  rintro e w' ⟨rfl, hb⟩
  go_wp2_with fail
  go_ret
  exact ⟨rfl, belowG (Lib.grownBy_trans Hg.out (Lib.grownBy_trans G.out (below_grown hb)))⟩

end Go.Proofs.YtaffpgafbjhahaaDoor
