/- Walks: nuncioref06.readSet, readCommit. Plain law: what the document's readers of lists answer is what decode answers. Walks: nuncioref06.ReadSet, ReadCommit. -/
import Derived.Test.YtaffpgafbjhahaaGreatDoorRefD
import Derived.Test.YtaffpgafbjhahaaGreatDoorDecL
import Derived.Deep.CutRange
import Derived.Test.YtaffpgafbjhahaaGreatDoorDecs
import Derived.Test.YtaffpgafbjhahaaGreatDoorQVote
import Derived.Test.YtaffpgafbjhahaaGreatDoorRefSet
namespace Go.Proofs.YtaffpgafbjhahaaGreatDoor
open Go.RowKit
set_option maxRecDepth 100000

set_option maxHeartbeats 1000000 in
theorem QSet (p : Nat) (st : RS) (w : World) (h : IsR w p st) :
    Calls Tryz.prog 20 #[.pointer (some ⟨p, 0, none⟩)] w fun e w' => ∃ v, e = .returned v ∧ w'.ownsRow w.heap.size 78 2 v (rdSet (kst 3 st)).1.length (setCells (rdSet (kst 3 st)).1) ∧ IsR w' p (rdSet (kst 3 st)).2 ∧ w.grownBy w' (some p) := by
  have H := Lib.hid h
  have hlt := H.out.lt
  clear h
  go_enter Tryz.func20, Tryz.ntmps20
  go_upto_region 1 with (fail)
  go_cut [] from 7 (fun w' => IsR w' p (kst 3 st) ∧ w.grownBy w' (some p))
  case first =>
    go_wp2_with fail
    refine (QNumber p st _ H.out).mono ?_
    rintro e w2 ⟨rfl, h1, h2⟩
    have R := Lib.hid h1; have G := Lib.hid h2
    obtain ⟨n, hn⟩ : ∃ n, (rdNum st).1 = n := ⟨_, rfl⟩
    rw [hn]
    obtain ⟨s1, hs1⟩ : ∃ s1, (rdNum st).2 = s1 := ⟨_, rfl⟩
    rw [hs1] at R h1
    by_cases hk : n = 3
    · subst hk
      have Hk := Lib.hid ((kst_eq hn).trans hs1)
      obtain ⟨f0, f1, hst⟩ := h1
      clear hn h2 hs1
      cases s1 with
      | none =>
        obtain ⟨_, c1⟩ := hst
        go_wp2
        go_meet
        case rel => exact ⟨by rw [Hk.out]; exact R.out.again, Lib.grownBy_trans G.out (Lib.grownBy_setCell w2 p 1 _)⟩
      | some l =>
        obtain ⟨c1, _⟩ := hst
        go_wp2
        go_meet
        case rel => exact ⟨by rw [Hk.out]; exact R.out.same, Lib.grownBy_trans G.out (Lib.grownBy_setCell w2 p 1 _)⟩
    · have Hk := Lib.hid (kst_ne hn hk)
      have d : (n != 3) = true := by simpa using hk
      have hb : ∃ b, w2.cell? ⟨p, 1, none⟩ = some (.bool b) := by
        obtain ⟨_, _, hst⟩ := h1
        cases s1 with
        | none => exact ⟨_, hst.2⟩
        | some l => exact ⟨_, hst.1⟩
      obtain ⟨b, hb⟩ := hb
      obtain ⟨f0, f1, _⟩ := h1
      clear hn h2 hs1 hk
      go_wp2
      go_meet
      case rel =>
        refine ⟨?_, Lib.grownBy_trans G.out (Lib.grownBy_setCell w2 p 1 _)⟩
        rw [Hk.out]
        cases s1 with
        | none => exact R.out.again
        | some l => exact R.out.breaks
  case rest =>
  obtain ⟨h1, h2⟩ := hcut
  obtain ⟨s0, hs0⟩ : ∃ s0, kst 3 st = s0 := ⟨_, rfl⟩
  rw [hs0] at h1
  have Hs0 := Lib.hid hs0
  have R := Lib.hid h1; have G := Lib.hid h2; clear h1 h2 hs0
  go_wp2_with fail
  refine (QCount p 64 _ _ R.out (by omega)).mono ?_
  rintro e w3 ⟨rfl, h1, h2⟩
  have hc := rdCount_R 64 s0 (by omega)
  obtain ⟨N, hN⟩ := Int.eq_ofNat_of_zero_le hc.1
  have hd : rdSet s0 = rdVals N (rdCount 64 s0).2 := by unfold rdSet; rw [hN]; rfl
  rw [hN] at hc ⊢
  obtain ⟨s2, hs2⟩ : ∃ s2, (rdCount 64 s0).2 = s2 := ⟨_, rfl⟩
  rw [hs2] at h1 hd
  replace R := Lib.hid h1; replace G := Lib.hid (Lib.grownBy_trans G.out h2); have Hd := Lib.hid hd
  have hN64 : N ≤ 64 := by omega
  clear h1 h2 hs2 hN hd hc
  go_wp2_with fail
  go_loopw [4, 5, 6] (fun v i _ wr => ∃ k : Nat, k ≤ N ∧ i = .int .i64 k ∧ wr.ownsRow w.heap.size 78 2 v k (setCells (rdVals k s2).1) ∧ IsR wr p (rdVals k s2).2 ∧ w.grownBy wr (some p)) (fun _ i _ _ => N - (intOf i).toNat)
  case atStart => exact ⟨0, Nat.zero_le _, rfl, World.ownsRow_nil _ _ _ _, R.out, G.out⟩
  case round =>
    obtain ⟨k, hk, rfl, ho, hr, hg⟩ := hrel
    obtain ⟨va, vn, vc, rfl⟩ := own_shape ho
    have Ho := Lib.hid ho; have Hr := Lib.hid hr; have Hg := Lib.hid hg; clear ho hr hg
    by_cases hlt2 : k < N
    · go_wp2_with fail
      refine (QWord p _ _ Hr.out).mono ?_
      rintro e w4 ⟨rfl, h1, h2⟩
      have R4 := Lib.hid h1; have G4 := Lib.hid h2; clear h1 h2
      go_wp2_with fail
      refine (QNumber p _ _ R4.out).mono ?_
      rintro e w5 ⟨rfl, h1, h2⟩
      have R5 := Lib.hid h1; have G5 := Lib.hid (Lib.grownBy_trans G4.out h2); clear h1 h2
      have Ho5 := Lib.hid (World.ownsRow.kept Ho.out G5.out (own_ne Ho.out (by omega)))
      go_wp2_with (refine wpList_app_new _ rfl _ _ 24 rfl w.heap.size 78 _ 2 16 Tryz.underlying24 val_info rfl _ k _ rfl Ho5.out rfl [_, _] rfl (by simp [Value.oneCell']) (by omega) (by omega) (Nat.le_trans Hg.out.size G5.out.size) ?_; intro v' w6 o6 b6 _)
      have Z := Lib.hid (show w6.ownsRow w.heap.size 78 2 v' (k + 1) (setCells (rdVals (k + 1) s2).1) by rw [setCells_snoc]; exact o6)
      have Y := Lib.hid (show IsR w6 p (rdVals (k + 1) s2).2 from R5.out.below b6 hlt)
      refine ⟨⟨k + 1, by omega, by go_num, Z.out, Y.out, grown_below (Lib.grownBy_trans Hg.out G5.out) b6⟩, by simp [intOf]; omega⟩
    · obtain rfl : k = N := by omega
      go_wp2_with fail
      go_ret
      rw [Hs0.out, Hd.out, rdVals_len]
      exact ⟨_, rfl, Ho.out, Hr.out, Hg.out⟩

theorem bCommit1 (h : Int) : Tryz.prog.built 32 [(0, .int .i64 h)] = some (commitV h 0 (List.replicate 32 0) (.slice none 0 0)).toArray := by kernel_rfl
theorem commitV_set1 (h r r' : Int) (l : List UInt8) (v : Value) : (commitV h r l v).set 1 (.int .i64 r') = commitV h r' l v := rfl
theorem commitV_block (h r : Int) (l l' : List UInt8) (v : Value) (hl : l.length = 32) (hl' : l'.length = 32) : (commitV h r l v).take 2 ++ Lib.byteCells l' ++ (commitV h r l v).drop (2 + (Lib.byteCells l').length) = commitV h r l' v := by
  simp [commitV, List.drop_append, Lib.byteCells_length, hl, hl', List.drop_eq_nil_of_le]
theorem one_seals : (Tryz.prog.info? 30).map (·.size) = some 1 := by kernel_rfl

set_option maxHeartbeats 2000000 in
theorem QCommit (p : Nat) (st : RS) (w : World) (h : IsR w p st) :
    Calls Tryz.prog 25 #[.pointer (some ⟨p, 0, none⟩)] w fun e w' => ∃ cs, e = .returned (.agg cs.toArray) ∧ (rdCommit (kst 4 st)).1.own w.heap.size w' cs ∧ IsR w' p (rdCommit (kst 4 st)).2 ∧ w.grownBy w' (some p) := by
  have H := Lib.hid h
  have hlt := H.out.lt
  clear h
  go_enter Tryz.func25, Tryz.ntmps25
  go_wp2_with (refine wpList_alloc_as rfl 32 rfl ZCommit ZCommit_info ?_)
  intro W1 b1 g1 s1
  have B1 := Lib.hid b1; have G1 := Lib.hid g1
  have H1 := Lib.hid (H.out.grown g1)
  have hrb : w.heap.size < W1.heap.size := b1.lt
  clear b1 g1 s1
  go_upto_region 1 with (fail)
  go_cut [] from 7 (fun w' => IsR w' p (kst 4 st) ∧ W1.grownBy w' (some p))
  case first =>
    go_wp2_with fail
    refine (QNumber p st _ H1.out).mono ?_
    rintro e w2 ⟨rfl, h1, h2⟩
    have R := Lib.hid h1; have G := Lib.hid h2
    obtain ⟨n, hn⟩ : ∃ n, (rdNum st).1 = n := ⟨_, rfl⟩
    rw [hn]
    obtain ⟨s1, hs1⟩ : ∃ s1, (rdNum st).2 = s1 := ⟨_, rfl⟩
    rw [hs1] at R h1
    by_cases hk : n = 4
    · subst hk
      have Hk := Lib.hid ((kst_eq hn).trans hs1)
      obtain ⟨f0, f1, hst⟩ := h1
      clear hn h2 hs1
      cases s1 with
      | none =>
        obtain ⟨_, c1⟩ := hst
        go_wp2
        go_meet
        case rel => exact ⟨by rw [Hk.out]; exact R.out.again, Lib.grownBy_trans G.out (Lib.grownBy_setCell w2 p 1 _)⟩
      | some l =>
        obtain ⟨c1, _⟩ := hst
        go_wp2
        go_meet
        case rel => exact ⟨by rw [Hk.out]; exact R.out.same, Lib.grownBy_trans G.out (Lib.grownBy_setCell w2 p 1 _)⟩
    · have Hk := Lib.hid (kst_ne hn hk)
      have d : (n != 4) = true := by simpa using hk
      have hb : ∃ b, w2.cell? ⟨p, 1, none⟩ = some (.bool b) := by
        obtain ⟨_, _, hst⟩ := h1
        cases s1 with
        | none => exact ⟨_, hst.2⟩
        | some l => exact ⟨_, hst.1⟩
      obtain ⟨b, hb⟩ := hb
      obtain ⟨f0, f1, _⟩ := h1
      clear hn h2 hs1 hk
      go_wp2
      go_meet
      case rel =>
        refine ⟨?_, Lib.grownBy_trans G.out (Lib.grownBy_setCell w2 p 1 _)⟩
        rw [Hk.out]
        cases s1 with
        | none => exact R.out.again
        | some l => exact R.out.breaks
  case rest =>
  obtain ⟨h1, h2⟩ := hcut
  obtain ⟨s0, hs0⟩ : ∃ s0, kst 4 st = s0 := ⟨_, rfl⟩
  rw [hs0] at h1
  have Hs0 := Lib.hid hs0
  have R := Lib.hid h1; have G := Lib.hid h2; clear h1 h2 hs0
  go_wp2_with fail
  refine (QNumber p s0 _ R.out).mono ?_
  rintro e wm ⟨rfl, h1, h2⟩
  replace R := Lib.hid (show IsR wm p (cT1 s0) from h1); replace G := Lib.hid (Lib.grownBy_trans G.out h2); clear h1 h2
  have hm : p < wm.heap.size := R.out.lt
  have hm0 : W1.heap.size ≤ wm.heap.size := G.out.size
  have Hmp := Lib.hid (show some wm.heap.size ≠ some p by simp; omega)
  obtain ⟨hh, ehh⟩ : ∃ x, (rdNum s0).1 = x := ⟨_, rfl⟩
  rw [ehh]
  have E1 := Lib.hid ehh; clear ehh
  go_wp2_with (first | (refine wpList_build_eq rfl 32 _ rfl _ rfl _ (bCommit1 hh) ?_) | (refine wpList_alloc_as rfl 32 rfl ZCommit ZCommit_info ?_))
  intro w3 b3 g3 s3
  replace R := Lib.hid (R.out.grown g3); replace G := Lib.hid (Lib.grownBy_trans G.out (grown_none g3)); have L := Lib.hid b3; clear b3 g3 s3
  go_wp2_with (refine wpList_store_whole rfl 32 _ _ rfl wm.heap.size rfl (commitV hh 0 (List.replicate 32 0) (.slice none 0 0)) ZCommit 32 rfl L.out rfl (commitV_one _ _ _ _ rfl) (by rw [commitV_len _ _ _ _ (by rfl)]; exact sizeCommit) ?_)
  intro w4 g4 s4 b4
  replace R := Lib.hid (R.out.grownAt g4 hm); replace G := Lib.hid (grown_new G.out g4 hm0); replace L := Lib.hid b4; clear b4 g4 s4
  go_wp2_with fail
  refine (QNumber p (cT1 s0) _ R.out).mono ?_
  rintro e w5 ⟨rfl, h1, h2⟩
  replace R := Lib.hid (show IsR w5 p (cT2 s0) from h1); replace G := Lib.hid (Lib.grownBy_trans G.out h2); replace L := Lib.hid (L.out.grown h2 Hmp.out); clear h1 h2
  obtain ⟨rr, err⟩ : ∃ x, (rdNum (cT1 s0)).1 = x := ⟨_, rfl⟩
  rw [err]
  have E2 := Lib.hid err; clear err
  go_wp2_with (refine wpList_store_cell rfl 3 _ _ rfl wm.heap.size 1 rfl _ rfl rfl (commitV hh 0 (List.replicate 32 0) (.slice none 0 0)) 32 L.out (by rw [commitV_len _ _ _ _ (by rfl)]; omega) one_int ?_)
  intro w6 g6 s6 b6
  rw [commitV_set1] at b6
  replace R := Lib.hid (R.out.grownAt g6 hm); replace G := Lib.hid (grown_new G.out g6 hm0); replace L := Lib.hid b6; clear b6 g6 s6
  go_wp2_with fail
  refine (QHash' p (cT2 s0) _ R.out).mono ?_
  rintro e w7 ⟨rfl, h1, h2⟩
  replace R := Lib.hid (show IsR w7 p (cT3 s0) from h1); replace G := Lib.hid (Lib.grownBy_trans G.out h2); replace L := Lib.hid (L.out.grown h2 Hmp.out); clear h1 h2
  obtain ⟨bb, ebb⟩ : ∃ x, (rdHash (cT2 s0)).1 = x := ⟨_, rfl⟩
  have Hbb := Lib.hid (show bb.length = 32 from ebb ▸ rdHash_len _)
  rw [ebb]
  have E3 := Lib.hid ebb; clear ebb
  go_wp2_with (refine wpList_store_part rfl 29 _ _ rfl wm.heap.size 2 rfl (Lib.byteCells bb) (commitV hh rr (List.replicate 32 0) (.slice none 0 0)) 32 rfl L.out (by rw [commitV_len _ _ _ _ (by rfl), Lib.byteCells_length, Hbb.out]; omega) (oneCell_bytes _) (hash_size _ Hbb.out) ?_)
  intro w8 g8 s8 b8
  replace b8 : Blk w8 wm.heap.size (commitV hh rr bb (.slice none 0 0)) 32 := by
    rw [← commitV_block hh rr (List.replicate 32 0) bb (.slice none 0 0) (by rfl) Hbb.out]
    first | exact b8 | (rw [List.append_assoc]; exact b8)
  replace R := Lib.hid (R.out.grownAt g8 hm); replace G := Lib.hid (grown_new G.out g8 hm0); replace L := Lib.hid b8; clear b8 g8 s8
  go_wp2_with fail
  refine (QCount p 64 _ _ R.out (by omega)).mono ?_
  rintro e w9 ⟨rfl, h1, h2⟩
  have hc := rdCount_R 64 (cT3 s0) (by omega)
  obtain ⟨N, hN⟩ := Int.eq_ofNat_of_zero_le hc.1
  have hd : (rdCommit s0) = ({ height := (rdNum s0).1, round := (rdNum (cT1 s0)).1, block := (rdHash (cT2 s0)).1, seals := (rdSeals N (rdCount 64 (cT3 s0)).2).1 }, (rdSeals N (rdCount 64 (cT3 s0)).2).2) := by unfold rdCommit; rw [hN]; rfl
  rw [hN] at hc ⊢
  obtain ⟨s2, hs2⟩ : ∃ s2, (rdCount 64 (cT3 s0)).2 = s2 := ⟨_, rfl⟩
  rw [hs2] at h1 hd
  rw [E1.out, E2.out, E3.out] at hd
  replace R := Lib.hid h1; replace G := Lib.hid (Lib.grownBy_trans G.out h2); replace L := Lib.hid (L.out.grown h2 Hmp.out); have Hd := Lib.hid hd
  have hN64 : N ≤ 64 := by omega
  clear h1 h2 hs2 hN hd hc
  go_wp2_with fail
  go_loopw [5, 6] (fun i _ wr => ∃ k : Nat, k ≤ N ∧ i = .int .i64 k ∧ (∃ v, wr.ownsRow (wm.heap.size + 1) 82 3 v k (sealCells (rdSeals k s2).1) ∧ Blk wr wm.heap.size (commitV hh rr bb v) 32) ∧ IsR wr p (rdSeals k s2).2 ∧ W1.grownBy wr (some p)) (fun i _ _ => N - (intOf i).toNat)
  case atStart => exact ⟨0, Nat.zero_le _, rfl, ⟨_, World.ownsRow_nil _ _ _ _, L.out⟩, R.out, G.out⟩
  case round =>
    obtain ⟨k, hk, rfl, ⟨v, ho, hl⟩, hr, hg⟩ := hrel
    obtain ⟨va, vn, vc, rfl⟩ := own_shape ho
    have Ho := Lib.hid ho; have Hl := Lib.hid hl; have Hr := Lib.hid hr; have Hg := Lib.hid hg; clear ho hl hr hg
    have hbase : wm.heap.size + 1 ≤ wr.heap.size := Hl.out.lt
    by_cases hlt2 : k < N
    · go_wp2_with fail
      refine (QWord p _ _ Hr.out).mono ?_
      rintro e wn ⟨rfl, h1, h2⟩
      have R4 := Lib.hid h1; have G4 := Lib.hid h2
      have hwn : wr.heap.size ≤ wn.heap.size := h2.size
      have hn : wm.heap.size + 1 ≤ wn.heap.size := Nat.le_trans hbase h2.size
      have hpn : p < wn.heap.size := by omega
      clear h1 h2
      go_wp2_with (refine wpList_alloc_as rfl 82 rfl ZSeal ZSeal_info ?_)
      intro w11 b3 g3 s3
      replace R4 := Lib.hid (R4.out.grown g3); replace G4 := Lib.hid (Lib.grownBy_trans G4.out (grown_none g3)); have SB := Lib.hid b3; clear b3 g3 s3
      obtain ⟨x0, hx0⟩ : ∃ x, (rdWord (rdSeals k s2).2).1 = x := ⟨_, rfl⟩
      rw [hx0]
      have X0 := Lib.hid hx0; clear hx0
      go_wp2_with (refine wpList_store_whole rfl 82 _ _ rfl wn.heap.size rfl [.int .u64 (x0 : Nat), .int .u64 0, .int .u64 0] ZSeal 82 rfl SB.out rfl (by simp [Value.oneCell']) sizeSeal ?_)
      intro w12 g4 s4 b4
      replace R4 := Lib.hid (R4.out.grownAt g4 hpn); replace G4 := Lib.hid (grown_new G4.out g4 (by omega)); replace SB := Lib.hid b4; clear b4 g4 s4
      go_wp2_with fail
      refine (QWord p _ _ R4.out).mono ?_
      rintro e w13 ⟨rfl, h1, h2⟩
      replace R4 := Lib.hid h1; replace G4 := Lib.hid (Lib.grownBy_trans G4.out h2); replace SB := Lib.hid (SB.out.grown h2 (by simp; omega)); clear h1 h2
      go_wp2_with (refine wpList_store_cell rfl 76 _ _ rfl wn.heap.size 1 rfl _ rfl rfl [.int .u64 (x0 : Nat), .int .u64 0, .int .u64 0] 82 SB.out (by simp) one_u64 ?_)
      intro w14 g6 s6 b6
      replace R4 := Lib.hid (R4.out.grownAt g6 hpn); replace G4 := Lib.hid (grown_new G4.out g6 (by omega)); replace SB := Lib.hid b6; clear b6 g6 s6
      go_wp2_with fail
      refine (QWord p _ _ R4.out).mono ?_
      rintro e w15 ⟨rfl, h1, h2⟩
      replace R4 := Lib.hid h1; replace G4 := Lib.hid (Lib.grownBy_trans G4.out h2); replace SB := Lib.hid (SB.out.grown h2 (by simp; omega)); clear h1 h2
      go_wp2_with (refine wpList_store_cell rfl 76 _ _ rfl wn.heap.size 2 rfl _ rfl rfl _ 82 SB.out (by simp) one_u64 ?_)
      intro w16 g6 s6 b6
      replace R4 := Lib.hid (R4.out.grownAt g6 hpn); replace G4 := Lib.hid (grown_new G4.out g6 (by omega)); clear s6 g6
      replace SB := Lib.hid (show Blk w16 wn.heap.size [.int .u64 (x0 : Nat), .int .u64 ((rdSig (rdWord (rdSeals k s2).2).2).1.1 : Nat), .int .u64 ((rdSig (rdWord (rdSeals k s2).2).2).1.2 : Nat)] 82 from b6); clear b6
      have L16 := Lib.hid (Hl.out.grown G4.out Hmp.out)
      have O16 := Lib.hid (World.ownsRow.kept Ho.out G4.out (own_ne Ho.out (by omega)))
      have c34 := L16.out.row 34 _ (commitV_get _ _ _ _ Hbb.out); rw [Nat.zero_add] at c34
      have z16 : wm.heap.size + 1 ≤ w16.heap.size := Nat.le_trans hbase G4.out.size
      go_wp2_with (first | (refine wpList_load_part rfl 82 _ rfl wn.heap.size 0 rfl _ _ SB.out.row Tryz.underlying82 rfl sizeSeal ?_) | (refine wpList_app_new _ rfl _ _ 30 rfl (wm.heap.size + 1) 82 _ 3 24 Tryz.underlying30 seal_info rfl _ k _ rfl O16.out rfl [_, _, _] rfl (by simp [Value.oneCell']) (by omega) (by omega) z16 ?_; intro v' w17 o17 b17 _; obtain ⟨a17, n17, k17, rfl⟩ := own_shape o17; have L17 := Lib.hid ((b17.block wm.heap.size (Nat.lt_succ_self _)).trans L16.out)) | (refine wpList_store_cell rfl 30 _ _ rfl wm.heap.size 34 rfl _ rfl rfl (commitV hh rr bb (.slice va vn vc)) 32 L17.out (by rw [commitV_len _ _ _ _ Hbb.out]; omega) one_seals ?_; intro w18 g18 s18 b18; rw [commitV_set _ _ _ _ _ Hbb.out] at b18))
      have R17 := Lib.hid (R4.out.below b17 (by omega))
      refine ⟨⟨k + 1, by omega, by go_num, ⟨.slice a17 n17 k17, ?_, b18⟩, R17.out.grownAt g18 hm, ?_⟩, by simp [intOf]; omega⟩
      · have o18 := World.ownsRow.kept o17 g18 (own_ne o17 (by omega))
        rw [sealCells_snoc, X0.out]; exact o18
      · exact grown_new (grown_below (Lib.grownBy_trans Hg.out G4.out) (b17.mono (by omega))) g18 hm0
    · obtain rfl : k = N := by omega
      have RB := Lib.hid (B1.out.grown Hg.out (by simp; omega))
      have Hc := Lib.hid (commitV_len hh rr bb (.slice va vn vc) Hbb.out)
      go_wp2_with (first | (refine wpList_load_part rfl 32 _ rfl wm.heap.size 0 rfl (commitV hh rr bb (.slice va vn vc)) _ Hl.out.row Tryz.underlying32 rfl (by rw [Hc.out]; exact sizeCommit) ?_) | (refine wpList_store_whole rfl 32 _ _ rfl w.heap.size rfl (commitV hh rr bb (.slice va vn vc)) ZCommit 32 rfl RB.out (by rw [Hc.out]; rfl) (commitV_one _ _ _ _ rfl) (by rw [Hc.out]; exact sizeCommit) ?_))
      intro w20 g20 s20 b20
      have B20 := Lib.hid b20; have G20 := Lib.hid g20; clear b20 g20 s20
      go_wp2_with fail
      refine bodyPost_ret (results_cell_one rfl _ _ ⟨w.heap.size, 0, none⟩ _ rfl (run_loadVar_part _ _ _ 32 (commitV hh rr bb (.slice va vn vc)) _ B20.out.row Tryz.underlying32 rfl (by rw [Hc.out]; exact sizeCommit))) rfl ?_
      rw [Hs0.out, Hd.out]
      refine ⟨_, rfl, ⟨.slice va vn vc, ?_, rfl⟩, Hr.out.grownAt G20.out hlt, grown_new (Lib.grownBy_trans (grown_none G1.out) Hg.out) G20.out (Nat.le_refl _)⟩
      show World.ownsRow _ _ _ _ _ (rdSeals k s2).1.length _
      rw [rdSeals_len]
      exact own_mono (World.ownsRow.kept Ho.out G20.out (own_ne Ho.out (by omega))) (by omega)

theorem kst_none (k : Int) : kst k none = none := by unfold kst; split <;> rfl
theorem rdSet_wf (s : RS) : ∀ v ∈ (rdSet s).1, v.wf := rdVals_wf (rdCount 64 s).1.toNat (rdCount 64 s).2
theorem rdSet_none : (rdSet none).2 = none := rfl
theorem rdCommit_none : (rdCommit none).2 = none := rfl
theorem decQSet (l : List UInt8) : decSet l = if (rdSet (kst 3 (some l))).2 = some [] then some (rdSet (kst 3 (some l))).1 else none := by
  by_cases hk : (rdNum (some l)).1 = 3
  · rw [kst_eq hk]; unfold decSet
    by_cases h : (rdSet (rdNum (some l)).2).2 = some []
    · rw [if_pos ⟨hk, h⟩, if_pos h]
    · rw [if_neg (fun x => h x.2), if_neg h]
  · rw [kst_ne rfl hk, rdSet_none, if_neg (by simp)]
    exact if_neg (fun h => hk h.1)
theorem okN_rd (s : RS) : okCommitN (rdCommit s).1 = okCommit (rdCommit s).1 := by
  unfold okCommitN; rw [decide_eq_true (rdCommit_n s), Bool.and_true]
theorem decQCommit (l : List UInt8) : decCommit l = if (decide ((rdCommit (kst 4 (some l))).2 = some []) && okCommitN (rdCommit (kst 4 (some l))).1) = true then some (rdCommit (kst 4 (some l))).1 else none := by
  by_cases hk : (rdNum (some l)).1 = 4
  · rw [kst_eq hk, okN_rd]; unfold decCommit
    by_cases h : (rdCommit (rdNum (some l)).2).2 = some []
    · by_cases ho : okCommit (rdCommit (rdNum (some l)).2).1 = true
      · rw [if_pos ⟨hk, h, ho⟩, if_pos (by rw [decide_eq_true h, ho]; rfl)]
      · rw [if_neg (fun x => ho x.2.2), if_neg (by rw [decide_eq_true h, Bool.true_and]; exact ho)]
    · rw [if_neg (fun x => h x.2.1), if_neg (by rw [decide_eq_false h, Bool.false_and]; simp)]
  · rw [kst_ne rfl hk, rdCommit_none, if_neg (by simp)]
    exact if_neg (fun h => hk h.1)
/-- a light block, read by the document's reader behind its kind -/
def QL (s : RS) (L : LightD) (s5 : RS) : Prop :=
  ∃ s2 s3 s4, rdHeader (kst 2 s) = (L.header, s2) ∧ rdCommit (kst 4 s2) = (L.commit, s3) ∧ rdSet (kst 3 s3) = (L.set, s4) ∧ rdSet (kst 3 s4) = (L.next, s5)
theorem fst_wf_header {s s2 : RS} {d : HeaderD} (h : rdHeader s = (d, s2)) : d.wf := by have := rdHeader_wf s; rw [h] at this; exact this
theorem fst_wf_commit {s s2 : RS} {d : CommitD} (h : rdCommit s = (d, s2)) : d.wf := by have := rdCommit_wf s; rw [h] at this; exact this
theorem fst_wf_set {s s2 : RS} {d : List ValD} (h : rdSet s = (d, s2)) : ∀ v ∈ d, v.wf := by have := rdSet_wf s; rw [h] at this; exact this
theorem fst_len_set {s s2 : RS} {d : List ValD} (h : rdSet s = (d, s2)) : d.length ≤ 64 := by have := rdSet_len s; rw [h] at this; exact this
theorem fst_ok_commit {s s2 : RS} {d : CommitD} (h : rdCommit s = (d, s2)) : okCommitN d = okCommit d := by have := okN_rd s; rw [h] at this; exact this
theorem snd_header {s2 : RS} {d : HeaderD} (h : rdHeader none = (d, s2)) : s2 = none := by have := rdHeader_none; rw [h] at this; exact this
theorem snd_commit {s2 : RS} {d : CommitD} (h : rdCommit none = (d, s2)) : s2 = none := by have := rdCommit_none; rw [h] at this; exact this
theorem snd_set {s2 : RS} {d : List ValD} (h : rdSet none = (d, s2)) : s2 = none := by have := rdSet_none; rw [h] at this; exact this
theorem QL.wf {s s5 : RS} {L : LightD} (h : QL s L s5) : L.wf := by
  obtain ⟨s2, s3, s4, h1, h2, h3, h4⟩ := h
  exact ⟨fst_wf_header h1, fst_wf_commit h2, fst_wf_set h3, fst_wf_set h4⟩
theorem QL.ok {s s5 : RS} {L : LightD} (h : QL s L s5) : okLight L = (okHeader L.header && okCommit L.commit) := by
  obtain ⟨s2, s3, s4, h1, h2, h3, h4⟩ := h
  unfold okLight okSet
  rw [fst_ok_commit h2, decide_eq_true (fst_len_set h3), decide_eq_true (fst_len_set h4)]
  simp
theorem lS2_of {s s2 : RS} {d : HeaderD} (h : rdHeader (rdNum s).2 = (d, s2)) : lS2 s = s2 := by unfold lS2; rw [h]
theorem lS3_of {s s2 s3 : RS} {d : CommitD} (f : lS2 s = s2) (h : rdCommit (rdNum s2).2 = (d, s3)) : lS3 s = s3 := by unfold lS3; rw [f, h]
theorem lS4_of {s s3 s4 : RS} {d : List ValD} (f : lS3 s = s3) (h : rdSet (rdNum s3).2 = (d, s4)) : lS4 s = s4 := by unfold lS4; rw [f, h]
theorem lS5_of {s s4 s5 : RS} {d : List ValD} (f : lS4 s = s4) (h : rdSet (rdNum s4).2 = (d, s5)) : lS5 s = s5 := by unfold lS5; rw [f, h]
theorem QL.yes {s s5 : RS} {L : LightD} (h : QL s L s5) (hk : lKinds s = true) : L = rdLight s ∧ s5 = lS5 s := by
  obtain ⟨s2, s3, s4, h1, h2, h3, h4⟩ := h
  simp only [lKinds, Bool.and_eq_true, decide_eq_true_eq] at hk
  obtain ⟨k1, k2, k3, k4⟩ := hk
  rw [kst_eq k1] at h1
  have f2 := lS2_of h1
  rw [f2] at k2; rw [kst_eq k2] at h2
  have f3 := lS3_of f2 h2
  rw [f3] at k3; rw [kst_eq k3] at h3
  have f4 := lS4_of f3 h3
  rw [f4] at k4; rw [kst_eq k4] at h4
  have f5 := lS5_of f4 h4
  refine ⟨?_, f5.symm⟩
  unfold rdLight
  rw [f2, f3, f4, h1, h2, h3, h4]
theorem QL.no {s s5 : RS} {L : LightD} (h : QL s L s5) (hk : lKinds s = false) : s5 = none := by
  obtain ⟨s2, s3, s4, h1, h2, h3, h4⟩ := h
  by_cases k1 : (rdNum s).1 = 2
  case neg =>
    rw [kst_ne rfl k1] at h1; obtain rfl := snd_header h1
    rw [kst_none] at h2; obtain rfl := snd_commit h2
    rw [kst_none] at h3; obtain rfl := snd_set h3
    rw [kst_none] at h4; exact snd_set h4
  rw [kst_eq k1] at h1
  have f2 := lS2_of h1
  by_cases k2 : (rdNum s2).1 = 4
  case neg =>
    rw [kst_ne rfl k2] at h2; obtain rfl := snd_commit h2
    rw [kst_none] at h3; obtain rfl := snd_set h3
    rw [kst_none] at h4; exact snd_set h4
  rw [kst_eq k2] at h2
  have f3 := lS3_of f2 h2
  by_cases k3 : (rdNum s3).1 = 3
  case neg =>
    rw [kst_ne rfl k3] at h3; obtain rfl := snd_set h3
    rw [kst_none] at h4; exact snd_set h4
  rw [kst_eq k3] at h3
  have f4 := lS4_of f3 h3
  by_cases k4 : (rdNum s4).1 = 3
  case neg => rw [kst_ne rfl k4] at h4; exact snd_set h4
  exfalso
  unfold lKinds at hk
  rw [f2, f3, f4, decide_eq_true k1, decide_eq_true k2, decide_eq_true k3, decide_eq_true k4] at hk
  cases hk
theorem QL.none_ {s5 : RS} {L : LightD} (h : QL none L s5) : s5 = none := by
  obtain ⟨s2, s3, s4, h1, h2, h3, h4⟩ := h
  rw [kst_none] at h1; obtain rfl := snd_header h1
  rw [kst_none] at h2; obtain rfl := snd_commit h2
  rw [kst_none] at h3; obtain rfl := snd_set h3
  rw [kst_none] at h4; exact snd_set h4
theorem decQL {l : List UInt8} {s5 : RS} {L : LightD} (h : QL (kst 5 (some l)) L s5) : decLight l = if (decide (s5 = some []) && okLight L) = true then some L else none := by
  rw [h.ok]
  by_cases hk : (rdNum (some l)).1 = 5
  · rw [kst_eq hk] at h
    unfold decLight
    generalize (rdNum (some l)).2 = s at *
    cases hks : lKinds s with
    | true =>
      obtain ⟨e1, e2⟩ := h.yes hks
      rw [← e1, ← e2]
      by_cases h5 : s5 = some []
      · by_cases ho : (okHeader L.header && okCommit L.commit) = true
        · rw [if_pos ⟨hk, rfl, h5, ho⟩, if_pos (by rw [decide_eq_true h5, ho]; rfl)]
        · rw [if_neg (fun x => ho x.2.2.2), if_neg (by rw [decide_eq_true h5, Bool.true_and]; exact ho)]
      · rw [if_neg (fun x => h5 x.2.2.1), if_neg (by rw [decide_eq_false h5, Bool.false_and]; simp)]
    | false =>
      rw [h.no hks, if_neg (by simp), if_neg (by simp)]
  · rw [kst_ne rfl hk] at h
    rw [h.none_, if_neg (by simp)]
    exact if_neg (fun h => hk h.1)

theorem endsN_yes {st : RS} {ok : Bool} (h : (decide (st = some []) && ok) = true) : endsN st ok = 0 := by unfold endsN; rw [h]; rfl
theorem endsN_no {st : RS} {ok : Bool} (h : (decide (st = some []) && ok) = false) : endsN st ok = 61 := by unfold endsN; rw [h]; rfl

set_option maxHeartbeats 1000000 in
theorem ReadSet_any (v : Value) (l : List UInt8) (w : World) (hv : RdB w v l) :
    Calls Tryz.prog 6 #[v] w (DecodesS (decSet l) w) := by
  obtain ⟨ao, c, rfl, hle, hcm, hrow⟩ := hv
  rw [decQSet]
  have hq := fun p w h => QSet p (some l) w h
  generalize rdSet (kst 3 (some l)) = X at *
  obtain ⟨d, st⟩ := X
  dsimp only at hq ⊢
  obtain ⟨r, hr⟩ : ∃ r, (if st = some [] then some d else none) = r := ⟨_, rfl⟩
  rw [hr]
  have Hr := Lib.hid hr; clear hr
  have Hq := Lib.hid hq; have Hcm := Lib.hid hcm; have Hle := Lib.hid hle; have Hrow := Lib.hid hrow
  clear hq hcm hle hrow
  go_enter Tryz.func6, Tryz.ntmps6
  go_wp2_with (first | (refine wpList_build_eq rfl 57 _ rfl _ rfl [.slice ao l.length c, .bool false] (bReader _ _ _) ?_) | (refine wpList_box_agg rfl 57 _ rfl [.slice ao l.length c, .bool false] rfl ?_))
  intro W2 b2 g2 s2
  have R := Lib.hid (newReader b2 (Hle.out) Hcm.out (by
    rcases Hrow.out with h | ⟨g, o, e, h1, h2⟩
    · exact Or.inl h
    · exact Or.inr ⟨g, o, e, h1, h2.grown g2 (by simp)⟩))
  have G := Lib.hid g2
  clear b2 g2 s2
  go_wp2_with fail
  refine (Hq.out _ _ R.out).mono ?_
  rintro e w3 ⟨v, rfl, ho, h1, h2⟩
  obtain ⟨a, n, k, rfl⟩ := own_shape ho
  have Ho := Lib.hid (own_mono ho G.out.size)
  replace R := Lib.hid h1; replace G := Lib.hid (below_of_grown_new G.out h2 (Nat.le_refl _))
  clear ho h1 h2
  go_wp2_with fail
  refine (ends_any _ st true _ R.out).mono ?_; rintro e w' ⟨rfl, rfl⟩
  by_cases hb : st = some []
  · rw [endsN_yes (by rw [decide_eq_true hb]; rfl)]
    have Hr := Lib.hid (Hr.out.symm.trans (if_pos hb))
    clear hb
    go_wp2_with fail
    go_ret2
    rw [Hr.out]
    exact ⟨G.out, a, n, k, rfl, Ho.out⟩
  · rw [endsN_no (by rw [decide_eq_false hb]; rfl)]
    have Hr := Lib.hid (Hr.out.symm.trans (if_neg hb))
    clear hb
    go_wp2_with fail
    go_ret2
    rw [Hr.out]
    exact ⟨G.out, _, _, _, rfl, World.ownsRow_nil _ _ _ _⟩

theorem bCommit0 : Tryz.prog.built 32 [] = some ZCommit.toArray := by kernel_rfl

set_option maxHeartbeats 1000000 in
theorem ReadCommit_any (v : Value) (l : List UInt8) (w : World) (hv : RdB w v l) :
    Calls Tryz.prog 8 #[v] w (DecodesC (decCommit l) w) := by
  obtain ⟨ao, c, rfl, hle, hcm, hrow⟩ := hv
  rw [decQCommit]
  have hq := fun p w h => QCommit p (some l) w h
  have wfd := rdCommit_wf (kst 4 (some l))
  generalize rdCommit (kst 4 (some l)) = X at *
  obtain ⟨d, st⟩ := X
  dsimp only at hq wfd ⊢
  obtain ⟨r, hr⟩ : ∃ r, (if (decide (st = some []) && okCommitN d) = true then some d else none) = r := ⟨_, rfl⟩
  rw [hr]
  have Hr := Lib.hid hr; clear hr
  have Hq := Lib.hid hq; have Wf := Lib.hid wfd
  have Hcm := Lib.hid hcm; have Hle := Lib.hid hle; have Hrow := Lib.hid hrow
  clear hq wfd hcm hle hrow
  go_enter Tryz.func8, Tryz.ntmps8
  go_wp2_with (refine wpList_alloc_as rfl 32 rfl ZCommit ZCommit_info ?_)
  intro W1 b1 g1 s1
  have B1 := Lib.hid b1; have G1 := Lib.hid g1; have S1 := Lib.hid b1.lt; clear b1 g1 s1
  go_wp2_with (first | (refine wpList_build_eq rfl 57 _ rfl _ rfl [.slice ao l.length c, .bool false] (bReader _ _ _) ?_) | (refine wpList_box_agg rfl 57 _ rfl [.slice ao l.length c, .bool false] rfl ?_))
  intro W2 b2 g2 s2
  have hp : w.heap.size ≤ W1.heap.size := G1.out.size
  have R := Lib.hid (newReader b2 (Hle.out) Hcm.out (by
    rcases Hrow.out with h | ⟨g, o, e, h1, h2⟩
    · exact Or.inl h
    · exact Or.inr ⟨g, o, e, by omega, (h2.grown G1.out (by simp)).grown g2 (by simp)⟩))
  have G := Lib.hid (Lib.grownBy_trans G1.out g2)
  replace B1 := Lib.hid (B1.out.grown g2 (by simp))
  have Hp := Lib.hid hp; have Hrb := Lib.hid (show w.heap.size < W1.heap.size from S1.out)
  have Hrb2 := Lib.hid (show w.heap.size < W2.heap.size from Nat.lt_of_lt_of_le S1.out g2.size)
  clear b2 g2 s2 hp
  go_wp2_with fail
  refine (Hq.out _ _ R.out).mono ?_
  rintro e w3 ⟨cs, rfl, ho, h1, h2⟩
  have O := Lib.hid ho
  replace R := Lib.hid h1; replace G := Lib.hid (grown_new G.out h2 Hp.out)
  replace B1 := Lib.hid (B1.out.grown h2 (by have := Hrb.out; simp; omega))
  have Hm := Lib.hid (show W1.heap.size < w3.heap.size from R.out.lt)
  have Hc := Lib.hid (ho.rep.length Wf.out)
  clear h1 h2 ho
  go_wp2_with (refine wpList_alloc_as rfl 32 rfl ZCommit ZCommit_info ?_)
  intro w4 b4 g4 s4
  replace R := Lib.hid (R.out.grown g4); have K := Lib.hid g4; replace B1 := Lib.hid (B1.out.grown g4 (by simp)); have L := Lib.hid b4
  clear b4 g4 s4
  go_wp2_with (first | (refine wpList_store_whole rfl 32 _ _ rfl w3.heap.size rfl cs ZCommit 32 rfl L.out (by rw [Hc.out]; rfl) O.out.one (by rw [Hc.out]; exact sizeCommit) ?_))
  intro w5 g5 s5 b5
  replace R := Lib.hid (R.out.grownAt g5 Hm.out); replace K := Lib.hid (grown_new K.out g5 (Nat.le_refl _)); replace B1 := Lib.hid (B1.out.grown g5 (by have := Hm.out; have := Hrb.out; simp; omega)); replace L := Lib.hid b5
  clear b5 g5 s5
  replace O := Lib.hid (O.out.stays fun b _ hlt => K.out.block b hlt (by simp))
  go_wp2_with (refine wpList_load_part rfl 32 _ rfl w3.heap.size 0 rfl cs _ L.out.row Tryz.underlying32 rfl (by rw [Hc.out]; exact sizeCommit) ?_)
  refine (RCommit d cs _ O.out.rep (Nat.le_refl _) Wf.out).mono ?_
  rintro e w6 ⟨a6, n6, c6, rfl, -, b6⟩
  have g6 := below_grown b6
  replace R := Lib.hid (R.out.grown g6); replace G := Lib.hid (Lib.grownBy_trans (Lib.grownBy_trans G.out K.out) g6); replace B1 := Lib.hid (B1.out.grown g6 (by simp)); replace L := Lib.hid (L.out.grown g6 (by simp))
  replace O := Lib.hid (O.out.stays fun b _ hlt => g6.block b hlt (by simp))
  clear b6 g6 K
  go_wp2_with fail
  refine (ends_any _ st _ _ R.out).mono ?_; rintro e w' ⟨rfl, rfl⟩
  cases hb : (decide (st = some []) && okCommitN d)
  · rw [endsN_no hb]
    have Hr := Lib.hid (Hr.out.symm.trans (if_neg (by rw [hb]; simp)))
    clear hb
    go_wp2_with (first | (refine wpList_build_eq rfl 32 _ rfl _ rfl _ bCommit0 ?_) | (refine wpList_store_whole rfl 32 _ _ rfl w.heap.size rfl ZCommit ZCommit 32 rfl B1.out rfl ZCommit_one sizeCommit ?_))
    intro w7 g7 s7 b7
    have B7 := Lib.hid b7; have G7 := Lib.hid (grown_new G.out g7 (Nat.le_refl _)); clear b7 g7 s7
    go_wp2_with fail
    refine bodyPost_ret (results_cell_tmp rfl _ _ ⟨w.heap.size, 0, none⟩ _ _ rfl rfl (run_loadVar_part _ _ _ 32 ZCommit _ B7.out.row Tryz.underlying32 rfl sizeCommit)) rfl ?_
    rw [Hr.out]
    exact ⟨below_of_grown G7.out, _, rfl, zCommit_own _ _⟩
  · rw [endsN_yes hb]
    have Hr := Lib.hid (Hr.out.symm.trans (if_pos hb))
    clear hb
    go_wp2_with (first | (refine wpList_load_part rfl 32 _ rfl w3.heap.size 0 rfl cs _ L.out.row Tryz.underlying32 rfl (by rw [Hc.out]; exact sizeCommit) ?_) | (refine wpList_store_whole rfl 32 _ _ rfl w.heap.size rfl cs ZCommit 32 rfl B1.out (by rw [Hc.out]; rfl) O.out.one (by rw [Hc.out]; exact sizeCommit) ?_))
    intro w7 g7 s7 b7
    have B7 := Lib.hid b7; have G7 := Lib.hid (grown_new G.out g7 (Nat.le_refl _))
    replace O := Lib.hid (O.out.stays fun b hb hlt => g7.block b hlt (by have := Hrb2.out; simp; omega)); clear b7 g7 s7
    go_wp2_with fail
    refine bodyPost_ret (results_cell_tmp rfl _ _ ⟨w.heap.size, 0, none⟩ _ _ rfl rfl (run_loadVar_part _ _ _ 32 cs _ B7.out.row Tryz.underlying32 rfl (by rw [Hc.out]; exact sizeCommit))) rfl ?_
    rw [Hr.out]
    exact ⟨below_of_grown G7.out, cs, rfl, O.out.mono (Nat.le_of_lt Hrb2.out)⟩


theorem built_prefix {P : Program} (t : TypeId) (fields : Array Field) (places : List (Nat × Nat)) (vs : List Value) (Z : List Value) (hu : P.underlying t = some (.struct fields))
    (hp : fields.toList.mapM (fun f => (P.info? f.type).map fun i => (f.offset, i.size)) = some places)
    (hz : (P.info? t).map (fun i => i.zero.map (fun v => v.cells)) = some (some Z.toArray)) (hn : (flatCells vs).length ≤ Z.length)
    (hl : Laid (places.toArray[·]?) 0 0 vs) : P.built t ((vs.zipIdx 0).map fun x => (x.2, x.1)) = some (flatCells vs ++ Z.drop (flatCells vs).length).toArray := by
  unfold Program.built
  cases hi : P.info? t with
  | none => simp [hi] at hz
  | some it =>
    cases hzz : it.zero with
    | none => simp [hi, hzz] at hz
    | some z =>
      have hs : z.cells = Z.toArray := by simpa [hi, hzz] using hz
      simp only [hu, hp, hzz]
      have := fill_laid (places.toArray[·]?) vs 0 [] (Z.take (flatCells vs).length) (Z.drop (flatCells vs).length) hl (by rw [List.length_take]; omega)
      rw [hs]
      simpa using this

def lightV (h c : List Value) (s n : Value) : List Value := h ++ c ++ [s, n]
theorem lightV_len (h c : List Value) (s n : Value) (hh : h.length = 163) (hc : c.length = 35) : (lightV h c s n).length = 200 := by simp [lightV, hh, hc]
theorem bLight1 (h : List Value) (hh : h.length = 163) : Tryz.prog.built 38 [(0, .agg h.toArray)] = some (lightV h ZCommit (.slice none 0 0) (.slice none 0 0)).toArray := by
  have e : flatCells [.agg h.toArray] = h := by simp [flatCells, Value.cells]
  have := built_prefix (P := Tryz.prog) 38 _ [(0, 163), (163, 35), (198, 1), (199, 1)] [.agg h.toArray] ZLight Tryz.underlying38 (by kernel_rfl) ZLight_info (by rw [e, hh, ZLight_length]; omega) ⟨by simp [Value.cells, hh], trivial⟩
  rw [e, hh, show ZLight.drop 163 = ZCommit ++ [.slice none 0 0, .slice none 0 0] from rfl] at this
  refine Eq.trans this ?_
  unfold lightV; rw [List.append_assoc]
theorem lightV_one {h c : List Value} {s n : Value} (hh : ∀ v ∈ h, v.oneCell' = true) (hc : ∀ v ∈ c, v.oneCell' = true) (hs : s.oneCell' = true) (hn : n.oneCell' = true) : ∀ v ∈ lightV h c s n, v.oneCell' = true := by
  intro v hv
  simp only [lightV, List.mem_append, List.mem_cons, List.not_mem_nil, or_false] at hv
  rcases hv with (hv | hv) | (rfl | rfl)
  · exact hh v hv
  · exact hc v hv
  · exact hs
  · exact hn
theorem lightV_part (h c c' : List Value) (s n : Value) (hh : h.length = 163) (hc : c.length = 35) (hc' : c'.length = 35) : (lightV h c s n).take 163 ++ c' ++ (lightV h c s n).drop (163 + c'.length) = lightV h c' s n := by
  unfold lightV
  rw [List.append_assoc h c, List.take_left' hh, hc', ← List.append_assoc h c, List.drop_left' (by simp [hh, hc])]
theorem lightV_set0 (h c : List Value) (s n v : Value) (hh : h.length = 163) (hc : c.length = 35) : (lightV h c s n).set 198 v = lightV h c v n := by
  unfold lightV; rw [List.set_append_right _ _ (by simp [hh, hc])]; simp [hh, hc]
theorem lightV_set1 (h c : List Value) (s n v : Value) (hh : h.length = 163) (hc : c.length = 35) : (lightV h c s n).set 199 v = lightV h c s v := by
  unfold lightV; rw [List.set_append_right _ _ (by simp [hh, hc])]; simp [hh, hc]
theorem rdHeader_chain (s : RS) : (rdHeader s).1.chain.size ≤ 140737488340000 := by
  show (rdText _).1.toArray.size ≤ _
  have := rdText_len (headerT0 s)
  rw [List.size_toArray]; exact Nat.le_trans this (by omega)
theorem bLight0 : Tryz.prog.built 38 [] = some ZLight.toArray := by kernel_rfl
theorem one_vals : (Tryz.prog.info? 24).map (·.size) = some 1 := by kernel_rfl

set_option maxHeartbeats 2000000 in
theorem ReadLight_any (v : Value) (l : List UInt8) (w : World) (hv : RdB w v l) :
    Calls Tryz.prog 10 #[v] w (DecodesU (decLight l) w) := by
  obtain ⟨ao, c, rfl, hle, hcm, hrow⟩ := hv
  have Hcm := Lib.hid hcm; have Hle := Lib.hid hle; have Hrow := Lib.hid hrow
  clear hcm hle hrow
  go_enter Tryz.func10, Tryz.ntmps10
  go_wp2_with (refine wpList_alloc_as rfl 38 rfl ZLight ZLight_info ?_)
  intro W1 b1 g1 s1
  have B1 := Lib.hid b1; have G1 := Lib.hid g1; have S1 := Lib.hid b1.lt; clear b1 g1 s1
  go_wp2_with (first | (refine wpList_build_eq rfl 57 _ rfl _ rfl [.slice ao l.length c, .bool false] (bReader _ _ _) ?_) | (refine wpList_box_agg rfl 57 _ rfl [.slice ao l.length c, .bool false] rfl ?_))
  intro W2 b2 g2 s2
  have hp : w.heap.size ≤ W1.heap.size := G1.out.size
  have R := Lib.hid (newReader b2 (Hle.out) Hcm.out (by
    rcases Hrow.out with h | ⟨g, o, e, h1, h2⟩
    · exact Or.inl h
    · exact Or.inr ⟨g, o, e, by omega, (h2.grown G1.out (by simp)).grown g2 (by simp)⟩))
  have G := Lib.hid (Lib.grownBy_trans G1.out g2)
  replace B1 := Lib.hid (B1.out.grown g2 (by simp))
  have Hp := Lib.hid hp; have Hrb := Lib.hid (show w.heap.size < W1.heap.size from S1.out)
  have Hrb2 := Lib.hid (show w.heap.size < W2.heap.size from Nat.lt_of_lt_of_le S1.out g2.size)
  clear b2 g2 s2 hp
  obtain ⟨p, hpp⟩ : ∃ p, W1.heap.size = p := ⟨_, rfl⟩
  rw [hpp] at R Hp Hrb ⊢
  have Hpp := Lib.hid hpp; clear hpp
  go_upto_region 2 with (fail)
  go_cut [] from 11 (fun w' => IsR w' p (kst 5 (some l)) ∧ W2.grownBy w' (some p))
  case first =>
    go_wp2_with fail
    refine (QNumber p (some l) _ R.out).mono ?_
    rintro e w2 ⟨rfl, h1, h2⟩
    have R := Lib.hid h1; have G := Lib.hid h2
    obtain ⟨n, hn⟩ : ∃ n, (rdNum (some l)).1 = n := ⟨_, rfl⟩
    rw [hn]
    obtain ⟨s1, hs1⟩ : ∃ s1, (rdNum (some l)).2 = s1 := ⟨_, rfl⟩
    rw [hs1] at R h1
    by_cases hk : n = 5
    · subst hk
      have Hk := Lib.hid ((kst_eq hn).trans hs1)
      obtain ⟨f0, f1, hst⟩ := h1
      clear hn h2 hs1
      cases s1 with
      | none =>
        obtain ⟨_, c1⟩ := hst
        go_wp2
        go_meet
        case rel => exact ⟨by rw [Hk.out]; exact R.out.again, Lib.grownBy_trans G.out (Lib.grownBy_setCell w2 p 1 _)⟩
      | some l =>
        obtain ⟨c1, _⟩ := hst
        go_wp2
        go_meet
        case rel => exact ⟨by rw [Hk.out]; exact R.out.same, Lib.grownBy_trans G.out (Lib.grownBy_setCell w2 p 1 _)⟩
    · have Hk := Lib.hid (kst_ne hn hk)
      have d : (n != 5) = true := by simpa using hk
      have hb : ∃ b, w2.cell? ⟨p, 1, none⟩ = some (.bool b) := by
        obtain ⟨_, _, hst⟩ := h1
        cases s1 with
        | none => exact ⟨_, hst.2⟩
        | some l => exact ⟨_, hst.1⟩
      obtain ⟨b, hb⟩ := hb
      obtain ⟨f0, f1, _⟩ := h1
      clear hn h2 hs1 hk
      go_wp2
      go_meet
      case rel =>
        refine ⟨?_, Lib.grownBy_trans G.out (Lib.grownBy_setCell w2 p 1 _)⟩
        rw [Hk.out]
        cases s1 with
        | none => exact R.out.again
        | some l => exact R.out.breaks
  case rest =>
  obtain ⟨h1, h2⟩ := hcut
  obtain ⟨s0, hs0⟩ : ∃ s0, kst 5 (some l) = s0 := ⟨_, rfl⟩
  rw [hs0] at h1
  have Hs0 := Lib.hid hs0
  replace R := Lib.hid h1; replace G := Lib.hid (grown_new G.out h2 Hp.out); replace B1 := Lib.hid (B1.out.grown h2 (by have := Hrb.out; simp; omega)); clear h1 h2 hs0
  go_wp2_with fail
  refine (QHeader p s0 _ R.out).mono ?_
  rintro e w3 ⟨rfl, h1, h2⟩
  obtain ⟨dh, hdh⟩ : ∃ x, (rdHeader (kst 2 s0)).1 = x := ⟨_, rfl⟩
  obtain ⟨s2, hs2⟩ : ∃ x, (rdHeader (kst 2 s0)).2 = x := ⟨_, rfl⟩
  have E1 := Lib.hid (show rdHeader (kst 2 s0) = (dh, s2) from Prod.ext hdh hs2)
  have hch := rdHeader_chain (kst 2 s0)
  rw [hdh] at hch ⊢
  rw [hs2] at h1
  have Hch := Lib.hid hch
  have Hh := Lib.hid (dh.cells_length (fst_wf_header E1.out))
  replace R := Lib.hid h1; replace G := Lib.hid (grown_new G.out h2 Hp.out); replace B1 := Lib.hid (B1.out.grown h2 (by have := Hrb.out; simp; omega))
  have Hm := Lib.hid (show p < w3.heap.size from R.out.lt)
  clear h1 h2 hdh hs2 hch
  go_wp2_with (first | (refine wpList_build_eq rfl 38 _ rfl [(0, .agg dh.cells.toArray)] (by kernel_rfl) _ (bLight1 dh.cells Hh.out) ?_) | (refine wpList_alloc_as rfl 38 rfl ZLight ZLight_info ?_))
  intro w4 b4 g4 s4
  replace R := Lib.hid (R.out.grown g4); replace G := Lib.hid (Lib.grownBy_trans G.out g4); replace B1 := Lib.hid (B1.out.grown g4 (by simp)); have L := Lib.hid b4
  clear b4 g4 s4
  have HV := Lib.hid (lightV_len dh.cells ZCommit (.slice none 0 0) (.slice none 0 0) Hh.out rfl)
  go_wp2_with (first | (refine wpList_store_whole rfl 38 _ _ rfl w3.heap.size rfl (lightV dh.cells ZCommit (.slice none 0 0) (.slice none 0 0)) ZLight 38 rfl L.out (by rw [HV.out]; rfl) (lightV_one (HeaderD_one _) ZCommit_one rfl rfl) (sizeLight _ HV.out) ?_))
  intro w5 g5 s5 b5
  replace R := Lib.hid (R.out.grownAt g5 Hm.out); replace G := Lib.hid (grown_new G.out g5 (by have := Hm.out; have := Hp.out; omega)); replace B1 := Lib.hid (B1.out.grown g5 (by have := Hm.out; have := Hrb.out; simp; omega)); replace L := Lib.hid b5
  clear b5 g5 s5 HV
  have Hl5 := Lib.hid (show w3.heap.size + 1 ≤ _ from L.out.lt)
  go_wp2_with fail
  refine (QCommit p s2 _ R.out).mono ?_
  rintro e w6 ⟨cc, rfl, o1, h1, h2⟩
  obtain ⟨dc, hdc⟩ : ∃ x, (rdCommit (kst 4 s2)).1 = x := ⟨_, rfl⟩
  obtain ⟨s3, hs3⟩ : ∃ x, (rdCommit (kst 4 s2)).2 = x := ⟨_, rfl⟩
  have E2 := Lib.hid (show rdCommit (kst 4 s2) = (dc, s3) from Prod.ext hdc hs3)
  rw [hdc] at o1
  rw [hs3] at h1
  have Hc := Lib.hid (o1.rep.length (fst_wf_commit E2.out))
  replace R := Lib.hid h1; replace L := Lib.hid (L.out.grown h2 (by have := Hm.out; simp; omega)); replace B1 := Lib.hid (B1.out.grown h2 (by have := Hrb.out; simp; omega))
  have O1 := Lib.hid (o1.mono (show w3.heap.size + 1 ≤ _ from Hl5.out)); replace G := Lib.hid (grown_new G.out h2 Hp.out)
  clear h1 h2 o1 hdc hs3
  have HV := Lib.hid (lightV_len dh.cells ZCommit (.slice none 0 0) (.slice none 0 0) Hh.out rfl)
  go_wp2_with (refine wpList_store_part rfl 32 _ _ rfl w3.heap.size 163 rfl cc (lightV dh.cells ZCommit (.slice none 0 0) (.slice none 0 0)) 38 rfl L.out (by rw [HV.out, Hc.out]; omega) O1.out.one (by rw [Hc.out]; exact sizeCommit) ?_)
  intro w7 g7 s7 b7
  replace b7 : Blk w7 w3.heap.size (lightV dh.cells cc (.slice none 0 0) (.slice none 0 0)) 38 := by
    rw [← lightV_part dh.cells ZCommit cc (.slice none 0 0) (.slice none 0 0) Hh.out rfl Hc.out]
    first | exact b7 | (rw [List.append_assoc]; exact b7)
  replace R := Lib.hid (R.out.grownAt g7 Hm.out); replace G := Lib.hid (grown_new G.out g7 (by have := Hm.out; have := Hp.out; omega)); replace B1 := Lib.hid (B1.out.grown g7 (by have := Hm.out; have := Hrb.out; simp; omega)); replace O1 := Lib.hid (O1.out.kept g7 (Nat.lt_succ_self _)); replace L := Lib.hid b7
  clear b7 g7 s7 HV
  go_wp2_with fail
  refine (QSet p s3 _ R.out).mono ?_
  rintro e w8 ⟨v8, rfl, o2, h1, h2⟩
  obtain ⟨a8, n8, k8, rfl⟩ := own_shape o2
  obtain ⟨ds, hds⟩ : ∃ x, (rdSet (kst 3 s3)).1 = x := ⟨_, rfl⟩
  obtain ⟨s4, hs4⟩ : ∃ x, (rdSet (kst 3 s3)).2 = x := ⟨_, rfl⟩
  have E3 := Lib.hid (show rdSet (kst 3 s3) = (ds, s4) from Prod.ext hds hs4)
  rw [hds] at o2
  rw [hs4] at h1
  have O2 := Lib.hid (own_mono o2 (show w3.heap.size + 1 ≤ _ from L.out.lt))
  replace R := Lib.hid h1; replace O1 := Lib.hid (O1.out.kept h2 (by have := Hm.out; omega)); replace L := Lib.hid (L.out.grown h2 (by have := Hm.out; simp; omega)); replace B1 := Lib.hid (B1.out.grown h2 (by have := Hrb.out; simp; omega)); replace G := Lib.hid (grown_new G.out h2 Hp.out)
  clear h1 h2 o2 hds hs4
  have HV := Lib.hid (lightV_len dh.cells cc (.slice none 0 0) (.slice none 0 0) Hh.out Hc.out)
  go_wp2_with (refine wpList_store_cell rfl 24 _ _ rfl w3.heap.size 198 rfl (.slice a8 n8 k8) rfl rfl (lightV dh.cells cc (.slice none 0 0) (.slice none 0 0)) 38 L.out (by rw [HV.out]; omega) one_vals ?_)
  intro w9 g9 s9 b9
  rw [lightV_set0 _ _ _ _ _ Hh.out Hc.out] at b9
  replace R := Lib.hid (R.out.grownAt g9 Hm.out); replace G := Lib.hid (grown_new G.out g9 (by have := Hm.out; have := Hp.out; omega)); replace B1 := Lib.hid (B1.out.grown g9 (by have := Hm.out; have := Hrb.out; simp; omega)); replace O1 := Lib.hid (O1.out.kept g9 (Nat.lt_succ_self _)); replace O2 := Lib.hid (World.ownsRow.kept O2.out g9 (own_ne O2.out (Nat.lt_succ_self _))); replace L := Lib.hid b9
  clear b9 g9 s9 HV
  go_wp2_with fail
  refine (QSet p s4 _ R.out).mono ?_
  rintro e w10 ⟨v10, rfl, o3, h1, h2⟩
  obtain ⟨a10, n10, k10, rfl⟩ := own_shape o3
  obtain ⟨dn, hdn⟩ : ∃ x, (rdSet (kst 3 s4)).1 = x := ⟨_, rfl⟩
  obtain ⟨s5, hs5⟩ : ∃ x, (rdSet (kst 3 s4)).2 = x := ⟨_, rfl⟩
  have E4 := Lib.hid (show rdSet (kst 3 s4) = (dn, s5) from Prod.ext hdn hs5)
  rw [hdn] at o3
  rw [hs5] at h1
  have O3 := Lib.hid (own_mono o3 (show w3.heap.size + 1 ≤ _ from L.out.lt))
  replace R := Lib.hid h1; replace O1 := Lib.hid (O1.out.kept h2 (by have := Hm.out; omega)); replace O2 := Lib.hid (World.ownsRow.kept O2.out h2 (own_ne O2.out (by have := Hm.out; omega))); replace L := Lib.hid (L.out.grown h2 (by have := Hm.out; simp; omega)); replace B1 := Lib.hid (B1.out.grown h2 (by have := Hrb.out; simp; omega)); replace G := Lib.hid (grown_new G.out h2 Hp.out)
  clear h1 h2 o3 hdn hs5
  have HV := Lib.hid (lightV_len dh.cells cc (.slice a8 n8 k8) (.slice none 0 0) Hh.out Hc.out)
  go_wp2_with (refine wpList_store_cell rfl 24 _ _ rfl w3.heap.size 199 rfl (.slice a10 n10 k10) rfl rfl (lightV dh.cells cc (.slice a8 n8 k8) (.slice none 0 0)) 38 L.out (by rw [HV.out]; omega) one_vals ?_)
  intro w11 g11 s11 b11
  rw [lightV_set1 _ _ _ _ _ Hh.out Hc.out] at b11
  replace R := Lib.hid (R.out.grownAt g11 Hm.out); replace G := Lib.hid (grown_new G.out g11 (by have := Hm.out; have := Hp.out; omega)); replace B1 := Lib.hid (B1.out.grown g11 (by have := Hm.out; have := Hrb.out; simp; omega)); replace O1 := Lib.hid (O1.out.kept g11 (Nat.lt_succ_self _)); replace O2 := Lib.hid (World.ownsRow.kept O2.out g11 (own_ne O2.out (Nat.lt_succ_self _))); replace O3 := Lib.hid (World.ownsRow.kept O3.out g11 (own_ne O3.out (Nat.lt_succ_self _))); replace L := Lib.hid b11
  clear b11 g11 s11 HV
  obtain ⟨L0, hL0⟩ : ∃ x : LightD, ({ header := dh, commit := dc, set := ds, next := dn } : LightD) = x := ⟨_, rfl⟩
  obtain ⟨CS, hCS⟩ : ∃ x, lightV dh.cells cc (.slice a8 n8 k8) (.slice a10 n10 k10) = x := ⟨_, rfl⟩
  have Q := Lib.hid (show QL s0 L0 s5 by subst hL0; exact ⟨s2, s3, s4, E1.out, E2.out, E3.out, E4.out⟩)
  have LO := Lib.hid (show L0.own (w3.heap.size + 1) w11 CS by subst hL0 hCS; exact ⟨cc, _, _, O1.out, O2.out, O3.out, rfl⟩)
  have Hch2 := Lib.hid (show L0.header.chain.size ≤ 140737488340000 by subst hL0; exact Hch.out)
  have HL := Lib.hid (show CS.length = 200 by subst hCS; exact lightV_len _ _ _ _ Hh.out Hc.out)
  rw [hCS] at L
  clear hL0 hCS O1 O2 O3 E1 E2 E3 E4 Hc Hh Hch
  have Hr0 := Lib.hid (show decLight l = if (decide (s5 = some []) && okLight L0) = true then some L0 else none from decQL (by rw [Hs0.out]; exact Q.out))
  go_wp2_with (refine wpList_load_part rfl 38 _ rfl w3.heap.size 0 rfl CS _ L.out.row Tryz.underlying38 rfl (sizeLight _ HL.out) ?_)
  refine (RLight L0 CS _ LO.out.rep (Nat.le_refl _) Q.out.wf Hch2.out).mono ?_
  rintro e w12 ⟨a6, n6, c6, rfl, -, b6⟩
  have g6 := below_grown b6
  replace R := Lib.hid (R.out.grown g6); replace G := Lib.hid (Lib.grownBy_trans G.out g6); replace B1 := Lib.hid (B1.out.grown g6 (by simp)); replace L := Lib.hid (L.out.grown g6 (by simp))
  replace LO := Lib.hid (LO.out.stays fun b _ hlt => g6.block b hlt (by simp))
  clear b6 g6
  have Hlast := Lib.hid (show w.heap.size ≤ w3.heap.size + 1 by have := Hm.out; have := Hp.out; omega)
  have Hlast2 := Lib.hid (show w.heap.size < w3.heap.size + 1 by have := Hm.out; have := Hp.out; omega)
  go_wp2_with fail
  refine (ends_any _ s5 _ _ R.out).mono ?_; rintro e w' ⟨rfl, rfl⟩
  cases hb : (decide (s5 = some []) && okLight L0)
  · rw [endsN_no hb]
    have Hr := Lib.hid (Hr0.out.trans (if_neg (by rw [hb]; simp)))
    clear hb
    go_wp2_with (first | (refine wpList_build_eq rfl 38 _ rfl _ rfl _ bLight0 ?_) | (refine wpList_store_whole rfl 38 _ _ rfl w.heap.size rfl ZLight ZLight 38 rfl B1.out rfl ZLight_one (sizeLight _ ZLight_length) ?_))
    intro w13 g13 s13 b13
    have B7 := Lib.hid b13; have G7 := Lib.hid (grown_new G.out g13 (Nat.le_refl _)); clear b13 g13 s13
    go_wp2_with fail
    refine bodyPost_ret (results_cell_tmp rfl _ _ ⟨w.heap.size, 0, none⟩ _ _ rfl rfl (run_loadVar_part _ _ _ 38 ZLight _ B7.out.row Tryz.underlying38 rfl (sizeLight _ ZLight_length))) rfl ?_
    rw [Hr.out]
    exact ⟨below_of_grown G7.out, _, rfl, zLight_own _ _⟩
  · rw [endsN_yes hb]
    have Hr := Lib.hid (Hr0.out.trans (if_pos hb))
    clear hb
    go_wp2_with (first | (refine wpList_load_part rfl 38 _ rfl w3.heap.size 0 rfl CS _ L.out.row Tryz.underlying38 rfl (sizeLight _ HL.out) ?_) | (refine wpList_store_whole rfl 38 _ _ rfl w.heap.size rfl CS ZLight 38 rfl B1.out (by rw [HL.out]; rfl) LO.out.one (sizeLight _ HL.out) ?_))
    intro w13 g13 s13 b13
    have B7 := Lib.hid b13; have G7 := Lib.hid (grown_new G.out g13 (Nat.le_refl _))
    replace LO := Lib.hid (LO.out.stays fun b hb hlt => g13.block b hlt (by have := Hlast2.out; simp; omega)); clear b13 g13 s13
    go_wp2_with fail
    refine bodyPost_ret (results_cell_tmp rfl _ _ ⟨w.heap.size, 0, none⟩ _ _ rfl rfl (run_loadVar_part _ _ _ 38 CS _ B7.out.row Tryz.underlying38 rfl (sizeLight _ HL.out))) rfl ?_
    rw [Hr.out]
    exact ⟨below_of_grown G7.out, CS, rfl, LO.out.mono Hlast.out⟩

end Go.Proofs.YtaffpgafbjhahaaGreatDoor
