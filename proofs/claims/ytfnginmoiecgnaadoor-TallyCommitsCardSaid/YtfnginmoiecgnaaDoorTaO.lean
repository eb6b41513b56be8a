/- Walk: nunciolaw09.TallySigns. Walk: nunciolaw09.TallyOne. -/
import Derived.Test.YtfnginmoiecgnaaDoorTl2
namespace Go.Proofs.YtfnginmoiecgnaaDoor
open Go.RowKit
open Go.Maps (Keyed)
set_option maxRecDepth 100000

theorem signL_wf (x : Nat) (v : VoteD) (hv : v.wf) : (signL x v).1.wf := by
  unfold signL
  split
  · split
    · exact sign_wf x v _ hv
    · exact zeroV_wf
  · exact zeroV_wf

set_option maxHeartbeats 8000000 in
theorem TallySigns_any (x : Nat) (v : VoteD) (n0 n1 : Int) (w : World) (hx : x < 18446744073709551616) (hv : v.wf) (hc : v.chain.size ≤ 140737488351232) (hR : RowAt w 0 0 (wCells rootsL)) :
    Calls Tryd.prog 3 #[.int .u64 (x : Int), .agg v.cells.toArray, .agg #[.int .i64 n0, .int .i64 n1]] w fun e w' => e = .returned (.bool true) ∧ Below w.heap.size w w' := by
  have HX := Lib.hid hx; have HV := Lib.hid hv; have HR := Lib.hid hR; have HCh := Lib.hid hc
  have ha := signL_wf x v hv
  obtain ⟨a, hqa⟩ : ∃ a, (signL x v).1 = a := ⟨_, rfl⟩
  obtain ⟨c, hqc⟩ : ∃ c, (signL x v).2 = c := ⟨_, rfl⟩
  have HS := Lib.hid (fun W (h : RowAt W 0 0 (wCells rootsL)) => TSign_ok x v W hx hv h)
  have HT := Lib.hid (fun W => RTSign_ok x v W hx hv hc)
  rw [hqa] at ha
  rw [hqa, hqc] at HS HT
  have HA := Lib.hid ha; have hal := Lib.hid (a.cells_length ha)
  clear hv hR hx hc ha hqa hqc
  go_enter Tryd.func3, Tryd.ntmps3
  go_wp2_with (first | (refine wpList_box_as rfl 29 _ rfl v.cells rfl ?_))
  intro w1 b1 g1 s1
  obtain ⟨b, hb⟩ : ∃ b, w.heap.size = b := ⟨_, rfl⟩
  rw [hb] at b1 s1 ⊢
  have HB := Lib.hid hb
  have B1 := Lib.hid b1; have G1 := Lib.hid g1; have S1 := Lib.hid s1
  clear b1 g1 s1 hb
  go_wp2_with (first | (refine wpList_box_as rfl 30 _ rfl [.int .i64 n0, .int .i64 n1] rfl ?_) | (refine wpList_load_part rfl 29 _ rfl b 0 rfl v.cells _ B1.out.row Tryd.underlying29 rfl (v.size HV.out) ?_))
  intro w2 b2 g2 s2
  rw [S1.out] at b2 s2 ⊢
  have N2 := Lib.hid b2; have B2 := Lib.hid (B1.out.grown g2 (by simp)); have G2 := Lib.hid (Lib.grownBy_trans G1.out g2); have S2 := Lib.hid s2
  clear b2 g2 s2 B1 G1 S1
  go_wp2_with (first | (refine wpList_load_part rfl 29 _ rfl b 0 rfl v.cells _ B2.out.row Tryd.underlying29 rfl (v.size HV.out) ?_))
  refine (HS.out w2 (HR.out.grown G2.out (by simp))).mono ?_
  rintro e w3 ⟨rfl, g3⟩
  have B3 := Lib.hid (B2.out.grown g3 (by simp)); have N3 := Lib.hid (N2.out.grown g3 (by simp)); have G3 := Lib.hid (Lib.grownBy_trans G2.out g3); have S3 := Lib.hid (show b + 2 ≤ w3.heap.size by have := S2.out; have := g3.size; omega)
  clear g3 B2 G2 N2 S2
  go_wp2_with (refine wpList_alloc_as rfl 29 rfl ZVote ZVote_info ?_)
  intro w4 b4 g4 s4
  obtain ⟨p, hp⟩ : ∃ b, w3.heap.size = b := ⟨_, rfl⟩
  rw [hp] at b4 s4 ⊢
  have HP := Lib.hid (show b + 2 ≤ p by rw [← hp]; exact S3.out)
  have P4 := Lib.hid b4; have B4 := Lib.hid (B3.out.grown g4 (by simp)); have N4 := Lib.hid (N3.out.grown g4 (by simp)); have G4 := Lib.hid (Lib.grownBy_trans G3.out g4); have S4 := Lib.hid s4
  clear b4 g4 s4 hp B3 N3 G3 S3
  go_wp2_with (refine wpList_store_whole rfl 29 _ _ rfl p rfl a.cells ZVote 29 rfl P4.out (by rw [hal.out]; rfl) (VoteD_one _) (sizeVote _ hal.out) ?_)
  intro w5 g5 s5 b5
  have P5 := Lib.hid b5; have B5 := Lib.hid (B4.out.grown g5 (by have := HP.out; simp; omega)); have N5 := Lib.hid (N4.out.grown g5 (by have := HP.out; simp; omega)); have G5 := Lib.hid (grown_new G4.out g5 (by have := HP.out; have := HB.out; omega)); have S5 := Lib.hid (s5.trans S4.out)
  clear b5 g5 s5 B4 N4 P4 G4 S4
  go_wp2_with (first | (refine wpList_load_part rfl 29 _ rfl b 0 rfl v.cells _ B5.out.row Tryd.underlying29 rfl (v.size HV.out) ?_))
  refine (HT.out w5).mono ?_
  rintro e w6 ⟨rfl, g6⟩
  have B6 := Lib.hid (B5.out.grown g6 (by simp)); have N6 := Lib.hid (N5.out.grown g6 (by simp)); have P6 := Lib.hid (P5.out.grown g6 (by simp)); have G6 := Lib.hid (Lib.grownBy_trans G5.out g6); have S6 := Lib.hid (show p + 1 ≤ w6.heap.size by have := S5.out; have := g6.size; omega)
  clear g6 B5 G5 N5 P5 S5
  go_wp2_with (refine wpList_alloc_as rfl 29 rfl ZVote ZVote_info ?_)
  intro w7 b7 g7 s7
  obtain ⟨q, hq⟩ : ∃ b, w6.heap.size = b := ⟨_, rfl⟩
  rw [hq] at b7 s7 ⊢
  have HQ := Lib.hid (show p + 1 ≤ q by rw [← hq]; exact S6.out)
  have Q7 := Lib.hid b7; have B7 := Lib.hid (B6.out.grown g7 (by simp)); have N7 := Lib.hid (N6.out.grown g7 (by simp)); have P7 := Lib.hid (P6.out.grown g7 (by simp)); have G7 := Lib.hid (Lib.grownBy_trans G6.out g7)
  clear b7 g7 s7 hq B6 N6 P6 G6 S6
  go_wp2_with (refine wpList_store_whole rfl 29 _ _ rfl q rfl a.cells ZVote 29 rfl Q7.out (by rw [hal.out]; rfl) (VoteD_one _) (sizeVote _ hal.out) ?_)
  intro w8 g8 s8 b8
  have Q8 := Lib.hid b8; have B8 := Lib.hid (B7.out.grown g8 (by have := HP.out; have := HQ.out; simp; omega)); have N8 := Lib.hid (N7.out.grown g8 (by have := HP.out; have := HQ.out; simp; omega)); have P8 := Lib.hid (P7.out.grown g8 (by have := HQ.out; simp; omega)); have G8 := Lib.hid (grown_new G7.out g8 (by have := HP.out; have := HB.out; have := HQ.out; omega))
  clear b8 g8 s8 B7 N7 P7 Q7 G7
  go_upto_region 3 with (fail)
  have KF := Lib.hid (show ∀ W, w8.grownBy W none → RowAt W p 0 a.cells ∧ RowAt W q 0 a.cells ∧ RowAt W b 0 v.cells ∧ W.cell? ⟨b + 1, 0, none⟩ = some (.int .i64 n0) ∧ W.cell? ⟨b + 1, 1, none⟩ = some (.int .i64 n1) from fun W g =>
    ⟨(P8.out.grown g (by simp)).row, (Q8.out.grown g (by simp)).row, (B8.out.grown g (by simp)).row, (N8.out.grown g (by simp)).row 0 _ rfl, (N8.out.grown g (by simp)).row 1 _ rfl⟩)
  have k0 := Lib.hid (dr_grown w8 1)
  have KR := Lib.hid (show ∀ W, w8.grownBy W none → RowAt W 0 0 (wCells rootsL) from fun W g => HR.out.grown (Lib.grownBy_trans G8.out g) (by simp))
  have hvv : VEq a.cells a.cells = true := (VoteD.eq_iff a a HA.out HA.out).2 rfl
  have HVV := Lib.hid hvv
  obtain ⟨sb, hsb⟩ : ∃ s, signedB v = s := ⟨_, rfl⟩
  obtain ⟨t2, ht2⟩ : ∃ s, twoB n0 n1 = s := ⟨_, rfl⟩
  obtain ⟨t1, ht1⟩ : ∃ s, oneB n0 n1 = s := ⟨_, rfl⟩
  have HSb := Lib.hid hsb; have HT2 := Lib.hid ht2; have HT1 := Lib.hid ht1
  clear hvv hsb ht2 ht1
  go_cut [6] from 23 (fun s6 w' => s6 = .bool true ∧ w8.grownBy w' none)
  case first =>
    refine wp_region_held_drew (S := fun W => RowAt W p 0 a.cells ∧ RowAt W q 0 a.cells ∧ RowAt W b 0 v.cells ∧ W.cell? ⟨b + 1, 0, none⟩ = some (.int .i64 n0) ∧ W.cell? ⟨b + 1, 1, none⟩ = some (.int .i64 n1)) (by kernel_rfl) (KF.out _ k0.out) (fun hH => ?_)
    refine wpAnyH_ready (rs := [0]) (by kernel_rfl) (by simp) ?_
    refine AllReadyH.cons rfl (fun K hK => ?_) AllReadyH.nil
    refine step_wantedG (by rfl) (wp_call 11 _ _ (by rfl) (enters Tryd.func11 (by kernel_rfl) rfl) (by rfl) (alive9_ok _ (KR.out _ k0.out)) ?_)
    rintro e u1 ⟨rfl, g1⟩
    refine ⟨_, rfl, ?_⟩
    have k1 := Lib.hid (Lib.grownBy_trans k0.out g1)
    clear g1
    simp only [Act.put, List.getElem_toArray, List.getElem_cons_zero, List.setIfInBounds_toArray, List.set_cons_zero, List.set_cons_succ]
    refine hK.out _ _ (KF.out _ k1.out) (fun hH => ?_)
    clear hK K
    refine wpAnyH_take (i := 1) (v := (.bool true)) rfl (by kernel_rfl) (by kernel_rfl) (by kernel_rfl) (fun _ _ _ h => h) (Or.inl ⟨by rfl, fun W hS => by go_simp⟩) hH ?_
    simp only [Act.put, List.getElem_toArray, List.getElem_cons_succ, List.getElem_cons_zero, List.setIfInBounds_toArray, List.set_cons_zero, List.set_cons_succ]
    refine wpAnyH_take (i := 2) (v := (.agg a.cells.toArray)) rfl (by kernel_rfl) (by kernel_rfl) (by kernel_rfl) (fun _ _ _ h => h) (yieldsIf_load_mid (by rfl) 29 _ rfl p 0 rfl a.cells _ (fun W h => h.1) Tryd.underlying29 rfl (a.size HA.out)) hH ?_
    simp only [Act.put, List.getElem_toArray, List.getElem_cons_succ, List.getElem_cons_zero, List.setIfInBounds_toArray, List.set_cons_zero, List.set_cons_succ]
    refine wpAnyH_take (i := 3) (v := (.agg a.cells.toArray)) rfl (by kernel_rfl) (by kernel_rfl) (by kernel_rfl) (fun _ _ _ h => h) (yieldsIf_load_mid (by rfl) 29 _ rfl q 0 rfl a.cells _ (fun W h => h.2.1) Tryd.underlying29 rfl (a.size HA.out)) hH ?_
    simp only [Act.put, List.getElem_toArray, List.getElem_cons_succ, List.getElem_cons_zero, List.setIfInBounds_toArray, List.set_cons_zero, List.set_cons_succ]
    refine wpAnyH_take (i := 4) (v := (.bool true)) rfl (by kernel_rfl) (by kernel_rfl) (by kernel_rfl) (fun _ _ _ h => h) (yieldsIf_eql_flat (by rfl) 29 _ _ _ (by rfl) a.cells a.cells voteK (by rfl) (by rfl) vote_flat (a.fits HA.out) (a.fits HA.out) rfl (by kernel_rfl) HVV.out) hH ?_
    simp only [Act.put, List.getElem_toArray, List.getElem_cons_succ, List.getElem_cons_zero, List.setIfInBounds_toArray, List.set_cons_zero, List.set_cons_succ]
    refine wpAnyH_take (i := 5) (v := (.bool true)) rfl (by kernel_rfl) (by kernel_rfl) (by kernel_rfl) (fun _ _ _ h => h) (Or.inl ⟨by rfl, fun W hS => by go_simp⟩) hH ?_
    simp only [Act.put, List.getElem_toArray, List.getElem_cons_succ, List.getElem_cons_zero, List.setIfInBounds_toArray, List.set_cons_zero, List.set_cons_succ]
    refine wpAnyH_take (i := 6) (v := (.bool true)) rfl (by kernel_rfl) (by kernel_rfl) (by kernel_rfl) (fun _ _ _ h => h) (Or.inl ⟨by rfl, fun W hS => by go_simp⟩) hH ?_
    simp only [Act.put, List.getElem_toArray, List.getElem_cons_succ, List.getElem_cons_zero, List.setIfInBounds_toArray, List.set_cons_zero, List.set_cons_succ]
    refine wpAnyH_take (i := 7) (v := (.int .i64 c)) rfl (by kernel_rfl) (by kernel_rfl) (by kernel_rfl) (fun _ _ _ h => h) (Or.inl ⟨by rfl, fun W hS => by go_simp⟩) hH ?_
    simp only [Act.put, List.getElem_toArray, List.getElem_cons_succ, List.getElem_cons_zero, List.setIfInBounds_toArray, List.set_cons_zero, List.set_cons_succ]
    refine wpAnyH_take (i := 8) (v := (.int .i64 c)) rfl (by kernel_rfl) (by kernel_rfl) (by kernel_rfl) (fun _ _ _ h => h) (Or.inl ⟨by rfl, fun W hS => by go_simp⟩) hH ?_
    simp only [Act.put, List.getElem_toArray, List.getElem_cons_succ, List.getElem_cons_zero, List.setIfInBounds_toArray, List.set_cons_zero, List.set_cons_succ]
    refine wpAnyH_take (i := 9) (v := (.bool true)) rfl (by kernel_rfl) (by kernel_rfl) (by kernel_rfl) (fun _ _ _ h => h) (Or.inl ⟨by rfl, fun W hS => by go_simp⟩) hH ?_
    simp only [Act.put, List.getElem_toArray, List.getElem_cons_succ, List.getElem_cons_zero, List.setIfInBounds_toArray, List.set_cons_zero, List.set_cons_succ]
    refine wpAnyH_take (i := 10) (v := (.bool true)) rfl (by kernel_rfl) (by kernel_rfl) (by kernel_rfl) (fun _ _ _ h => h) (Or.inl ⟨by rfl, fun W hS => by go_simp⟩) hH ?_
    simp only [Act.put, List.getElem_toArray, List.getElem_cons_succ, List.getElem_cons_zero, List.setIfInBounds_toArray, List.set_cons_zero, List.set_cons_succ]
    refine wpAnyH_take (i := 11) (v := (.bool true)) rfl (by kernel_rfl) (by kernel_rfl) (by kernel_rfl) (fun _ _ _ h => h) (Or.inl ⟨by rfl, fun W hS => by go_simp⟩) hH ?_
    simp only [Act.put, List.getElem_toArray, List.getElem_cons_succ, List.getElem_cons_zero, List.setIfInBounds_toArray, List.set_cons_zero, List.set_cons_succ]
    refine wpAnyH_take (i := 12) (v := (.agg v.cells.toArray)) rfl (by kernel_rfl) (by kernel_rfl) (by kernel_rfl) (fun _ _ _ h => h) (yieldsIf_load_mid (by rfl) 29 _ rfl b 0 rfl v.cells _ (fun W h => h.2.2.1) Tryd.underlying29 rfl (v.size HV.out)) hH ?_
    simp only [Act.put, List.getElem_toArray, List.getElem_cons_succ, List.getElem_cons_zero, List.setIfInBounds_toArray, List.set_cons_zero, List.set_cons_succ]
    have CS := Signed_ok v u1 HV.out (KR.out _ k1.out)
    rw [HSb.out] at CS
    have CS := Lib.hid CS
    refine wpAnyH_take (i := 14) (v := (.agg v.cells.toArray)) rfl (by kernel_rfl) (by kernel_rfl) (by kernel_rfl) (fun _ _ _ h => h) (yieldsIf_load_mid (by rfl) 29 _ rfl b 0 rfl v.cells _ (fun W h => h.2.2.1) Tryd.underlying29 rfl (v.size HV.out)) hH ?_
    simp only [Act.put, List.getElem_toArray, List.getElem_cons_succ, List.getElem_cons_zero, List.setIfInBounds_toArray, List.set_cons_zero, List.set_cons_succ]
    refine wpAnyH_ready (rs := [13]) (by kernel_rfl) (by simp) ?_
    refine AllReadyH.cons rfl (fun K hK => ?_) AllReadyH.nil
    refine step_wantedG (by rfl) (wp_call 12 _ _ (by rfl) (enters Tryd.func12 (by kernel_rfl) rfl) (by rfl) (CS.out) ?_)
    rintro e u2 ⟨rfl, g2⟩
    refine ⟨_, rfl, ?_⟩
    have k2 := Lib.hid (Lib.grownBy_trans k1.out g2)
    clear g2
    simp only [Act.put, List.getElem_toArray, List.getElem_cons_succ, List.getElem_cons_zero, List.setIfInBounds_toArray, List.set_cons_zero, List.set_cons_succ]
    refine hK.out _ _ (KF.out _ k2.out) (fun hH => ?_)
    clear hK K
    have CR := RSigned_ok v u2 HV.out HCh.out
    rw [HSb.out] at CR
    have CR := Lib.hid CR
    refine wpAnyH_ready (rs := [15]) (by kernel_rfl) (by simp) ?_
    refine AllReadyH.cons rfl (fun K hK => ?_) AllReadyH.nil
    refine step_wantedG (by rfl) (wp_call 13 _ _ (by rfl) (enters Tryd.func13 (by kernel_rfl) rfl) (by rfl) (CR.out) ?_)
    rintro e u3 ⟨rfl, g3⟩
    refine ⟨_, rfl, ?_⟩
    have k3 := Lib.hid (Lib.grownBy_trans k2.out g3)
    clear g3
    simp only [Act.put, List.getElem_toArray, List.getElem_cons_succ, List.getElem_cons_zero, List.setIfInBounds_toArray, List.set_cons_zero, List.set_cons_succ]
    refine hK.out _ _ (KF.out _ k3.out) (fun hH => ?_)
    clear hK K
    refine wpAnyH_take (i := 16) (v := (.bool true)) rfl (by kernel_rfl) (by kernel_rfl) (by kernel_rfl) (fun _ _ _ h => h) (Or.inl ⟨by rfl, fun W hS => by go_simp⟩) hH ?_
    simp only [Act.put, List.getElem_toArray, List.getElem_cons_succ, List.getElem_cons_zero, List.setIfInBounds_toArray, List.set_cons_zero, List.set_cons_succ]
    refine wpAnyH_take (i := 17) (v := (.bool true)) rfl (by kernel_rfl) (by kernel_rfl) (by kernel_rfl) (fun _ _ _ h => h) (Or.inl ⟨by rfl, fun W hS => by go_simp⟩) hH ?_
    simp only [Act.put, List.getElem_toArray, List.getElem_cons_succ, List.getElem_cons_zero, List.setIfInBounds_toArray, List.set_cons_zero, List.set_cons_succ]
    refine wpAnyH_take (i := 18) (v := (.bool true)) rfl (by kernel_rfl) (by kernel_rfl) (by kernel_rfl) (fun _ _ _ h => h) (Or.inl ⟨by rfl, fun W hS => by go_simp⟩) hH ?_
    simp only [Act.put, List.getElem_toArray, List.getElem_cons_succ, List.getElem_cons_zero, List.setIfInBounds_toArray, List.set_cons_zero, List.set_cons_succ]
    refine wpAnyH_take (i := 19) (v := (.pointer (some ⟨b + 1, 0, none⟩))) rfl (by kernel_rfl) (by kernel_rfl) (by kernel_rfl) (fun _ _ _ h => h) (Or.inl ⟨by rfl, fun W hS => by go_simp⟩) hH ?_
    simp only [Act.put, List.getElem_toArray, List.getElem_cons_succ, List.getElem_cons_zero, List.setIfInBounds_toArray, List.set_cons_zero, List.set_cons_succ]
    refine wpAnyH_take (i := 20) (v := (.int .i64 n0)) rfl (by kernel_rfl) (by kernel_rfl) (by kernel_rfl) (fun _ _ _ h => h) (Or.inl ⟨by rfl, fun W hS => by have c := hS.2.2.2.1; go_simp⟩) hH ?_
    simp only [Act.put, List.getElem_toArray, List.getElem_cons_succ, List.getElem_cons_zero, List.setIfInBounds_toArray, List.set_cons_zero, List.set_cons_succ]
    refine wpAnyH_take (i := 21) (v := (.pointer (some ⟨b + 1, 1, none⟩))) rfl (by kernel_rfl) (by kernel_rfl) (by kernel_rfl) (fun _ _ _ h => h) (Or.inl ⟨by rfl, fun W hS => by go_simp⟩) hH ?_
    simp only [Act.put, List.getElem_toArray, List.getElem_cons_succ, List.getElem_cons_zero, List.setIfInBounds_toArray, List.set_cons_zero, List.set_cons_succ]
    refine wpAnyH_take (i := 22) (v := (.int .i64 n1)) rfl (by kernel_rfl) (by kernel_rfl) (by kernel_rfl) (fun _ _ _ h => h) (Or.inl ⟨by rfl, fun W hS => by have c := hS.2.2.2.2; go_simp⟩) hH ?_
    simp only [Act.put, List.getElem_toArray, List.getElem_cons_succ, List.getElem_cons_zero, List.setIfInBounds_toArray, List.set_cons_zero, List.set_cons_succ]
    refine wpAnyH_take (i := 24) (v := (.pointer (some ⟨b + 1, 0, none⟩))) rfl (by kernel_rfl) (by kernel_rfl) (by kernel_rfl) (fun _ _ _ h => h) (Or.inl ⟨by rfl, fun W hS => by go_simp⟩) hH ?_
    simp only [Act.put, List.getElem_toArray, List.getElem_cons_succ, List.getElem_cons_zero, List.setIfInBounds_toArray, List.set_cons_zero, List.set_cons_succ]
    refine wpAnyH_take (i := 25) (v := (.int .i64 n0)) rfl (by kernel_rfl) (by kernel_rfl) (by kernel_rfl) (fun _ _ _ h => h) (Or.inl ⟨by rfl, fun W hS => by have c := hS.2.2.2.1; go_simp⟩) hH ?_
    simp only [Act.put, List.getElem_toArray, List.getElem_cons_succ, List.getElem_cons_zero, List.setIfInBounds_toArray, List.set_cons_zero, List.set_cons_succ]
    refine wpAnyH_take (i := 26) (v := (.pointer (some ⟨b + 1, 1, none⟩))) rfl (by kernel_rfl) (by kernel_rfl) (by kernel_rfl) (fun _ _ _ h => h) (Or.inl ⟨by rfl, fun W hS => by go_simp⟩) hH ?_
    simp only [Act.put, List.getElem_toArray, List.getElem_cons_succ, List.getElem_cons_zero, List.setIfInBounds_toArray, List.set_cons_zero, List.set_cons_succ]
    refine wpAnyH_take (i := 27) (v := (.int .i64 n1)) rfl (by kernel_rfl) (by kernel_rfl) (by kernel_rfl) (fun _ _ _ h => h) (Or.inl ⟨by rfl, fun W hS => by have c := hS.2.2.2.2; go_simp⟩) hH ?_
    simp only [Act.put, List.getElem_toArray, List.getElem_cons_succ, List.getElem_cons_zero, List.setIfInBounds_toArray, List.set_cons_zero, List.set_cons_succ]
    have CA4 := Two_ok n0 n1 u3
    have CB4 := RTwo_ok n0 n1 u3
    rw [HT2.out] at CA4 CB4
    have CA4 := Lib.hid CA4; have CB4 := Lib.hid CB4
    refine wpAnyH_ready (rs := [23]) (by kernel_rfl) (by simp) ?_
    refine AllReadyH.cons rfl (fun K hK => ?_) AllReadyH.nil
    refine step_wantedG (by rfl) (wp_call 14 _ _ (by rfl) (enters Tryd.func14 (by kernel_rfl) rfl) (by rfl) (CA4.out) ?_)
    rintro e u4 ⟨rfl, rfl⟩
    refine ⟨_, rfl, ?_⟩
    have k4 := k3
    simp only [Act.put, List.getElem_toArray, List.getElem_cons_succ, List.getElem_cons_zero, List.setIfInBounds_toArray, List.set_cons_zero, List.set_cons_succ]
    refine hK.out _ _ (KF.out _ k4.out) (fun hH => ?_)
    clear hK K
    refine wpAnyH_ready (rs := [28]) (by kernel_rfl) (by simp) ?_
    refine AllReadyH.cons rfl (fun K hK => ?_) AllReadyH.nil
    refine step_wantedG (by rfl) (wp_call 15 _ _ (by rfl) (enters Tryd.func15 (by kernel_rfl) rfl) (by rfl) (CB4.out) ?_)
    rintro e u5 ⟨rfl, rfl⟩
    refine ⟨_, rfl, ?_⟩
    have k5 := k4
    simp only [Act.put, List.getElem_toArray, List.getElem_cons_succ, List.getElem_cons_zero, List.setIfInBounds_toArray, List.set_cons_zero, List.set_cons_succ]
    refine hK.out _ _ (KF.out _ k5.out) (fun hH => ?_)
    clear hK K
    refine wpAnyH_take (i := 29) (v := (.bool true)) rfl (by kernel_rfl) (by kernel_rfl) (by kernel_rfl) (fun _ _ _ h => h) (Or.inl ⟨by rfl, fun W hS => by go_simp⟩) hH ?_
    simp only [Act.put, List.getElem_toArray, List.getElem_cons_succ, List.getElem_cons_zero, List.setIfInBounds_toArray, List.set_cons_zero, List.set_cons_succ]
    refine wpAnyH_take (i := 30) (v := (.bool true)) rfl (by kernel_rfl) (by kernel_rfl) (by kernel_rfl) (fun _ _ _ h => h) (Or.inl ⟨by rfl, fun W hS => by go_simp⟩) hH ?_
    simp only [Act.put, List.getElem_toArray, List.getElem_cons_succ, List.getElem_cons_zero, List.setIfInBounds_toArray, List.set_cons_zero, List.set_cons_succ]
    refine wpAnyH_take (i := 31) (v := (.bool true)) rfl (by kernel_rfl) (by kernel_rfl) (by kernel_rfl) (fun _ _ _ h => h) (Or.inl ⟨by rfl, fun W hS => by go_simp⟩) hH ?_
    simp only [Act.put, List.getElem_toArray, List.getElem_cons_succ, List.getElem_cons_zero, List.setIfInBounds_toArray, List.set_cons_zero, List.set_cons_succ]
    refine wpAnyH_take (i := 32) (v := (.pointer (some ⟨b + 1, 0, none⟩))) rfl (by kernel_rfl) (by kernel_rfl) (by kernel_rfl) (fun _ _ _ h => h) (Or.inl ⟨by rfl, fun W hS => by go_simp⟩) hH ?_
    simp only [Act.put, List.getElem_toArray, List.getElem_cons_succ, List.getElem_cons_zero, List.setIfInBounds_toArray, List.set_cons_zero, List.set_cons_succ]
    refine wpAnyH_take (i := 33) (v := (.int .i64 n0)) rfl (by kernel_rfl) (by kernel_rfl) (by kernel_rfl) (fun _ _ _ h => h) (Or.inl ⟨by rfl, fun W hS => by have c := hS.2.2.2.1; go_simp⟩) hH ?_
    simp only [Act.put, List.getElem_toArray, List.getElem_cons_succ, List.getElem_cons_zero, List.setIfInBounds_toArray, List.set_cons_zero, List.set_cons_succ]
    refine wpAnyH_take (i := 34) (v := (.pointer (some ⟨b + 1, 1, none⟩))) rfl (by kernel_rfl) (by kernel_rfl) (by kernel_rfl) (fun _ _ _ h => h) (Or.inl ⟨by rfl, fun W hS => by go_simp⟩) hH ?_
    simp only [Act.put, List.getElem_toArray, List.getElem_cons_succ, List.getElem_cons_zero, List.setIfInBounds_toArray, List.set_cons_zero, List.set_cons_succ]
    refine wpAnyH_take (i := 35) (v := (.int .i64 n1)) rfl (by kernel_rfl) (by kernel_rfl) (by kernel_rfl) (fun _ _ _ h => h) (Or.inl ⟨by rfl, fun W hS => by have c := hS.2.2.2.2; go_simp⟩) hH ?_
    simp only [Act.put, List.getElem_toArray, List.getElem_cons_succ, List.getElem_cons_zero, List.setIfInBounds_toArray, List.set_cons_zero, List.set_cons_succ]
    refine wpAnyH_take (i := 37) (v := (.pointer (some ⟨b + 1, 0, none⟩))) rfl (by kernel_rfl) (by kernel_rfl) (by kernel_rfl) (fun _ _ _ h => h) (Or.inl ⟨by rfl, fun W hS => by go_simp⟩) hH ?_
    simp only [Act.put, List.getElem_toArray, List.getElem_cons_succ, List.getElem_cons_zero, List.setIfInBounds_toArray, List.set_cons_zero, List.set_cons_succ]
    refine wpAnyH_take (i := 38) (v := (.int .i64 n0)) rfl (by kernel_rfl) (by kernel_rfl) (by kernel_rfl) (fun _ _ _ h => h) (Or.inl ⟨by rfl, fun W hS => by have c := hS.2.2.2.1; go_simp⟩) hH ?_
    simp only [Act.put, List.getElem_toArray, List.getElem_cons_succ, List.getElem_cons_zero, List.setIfInBounds_toArray, List.set_cons_zero, List.set_cons_succ]
    refine wpAnyH_take (i := 39) (v := (.pointer (some ⟨b + 1, 1, none⟩))) rfl (by kernel_rfl) (by kernel_rfl) (by kernel_rfl) (fun _ _ _ h => h) (Or.inl ⟨by rfl, fun W hS => by go_simp⟩) hH ?_
    simp only [Act.put, List.getElem_toArray, List.getElem_cons_succ, List.getElem_cons_zero, List.setIfInBounds_toArray, List.set_cons_zero, List.set_cons_succ]
    refine wpAnyH_take (i := 40) (v := (.int .i64 n1)) rfl (by kernel_rfl) (by kernel_rfl) (by kernel_rfl) (fun _ _ _ h => h) (Or.inl ⟨by rfl, fun W hS => by have c := hS.2.2.2.2; go_simp⟩) hH ?_
    simp only [Act.put, List.getElem_toArray, List.getElem_cons_succ, List.getElem_cons_zero, List.setIfInBounds_toArray, List.set_cons_zero, List.set_cons_succ]
    have CA6 := One_ok n0 n1 u3
    have CB6 := ROne_ok n0 n1 u3
    rw [HT1.out] at CA6 CB6
    have CA6 := Lib.hid CA6; have CB6 := Lib.hid CB6
    refine wpAnyH_ready (rs := [36]) (by kernel_rfl) (by simp) ?_
    refine AllReadyH.cons rfl (fun K hK => ?_) AllReadyH.nil
    refine step_wantedG (by rfl) (wp_call 16 _ _ (by rfl) (enters Tryd.func16 (by kernel_rfl) rfl) (by rfl) (CA6.out) ?_)
    rintro e u6 ⟨rfl, rfl⟩
    refine ⟨_, rfl, ?_⟩
    have k6 := k5
    simp only [Act.put, List.getElem_toArray, List.getElem_cons_succ, List.getElem_cons_zero, List.setIfInBounds_toArray, List.set_cons_zero, List.set_cons_succ]
    refine hK.out _ _ (KF.out _ k6.out) (fun hH => ?_)
    clear hK K
    refine wpAnyH_ready (rs := [41]) (by kernel_rfl) (by simp) ?_
    refine AllReadyH.cons rfl (fun K hK => ?_) AllReadyH.nil
    refine step_wantedG (by rfl) (wp_call 17 _ _ (by rfl) (enters Tryd.func17 (by kernel_rfl) rfl) (by rfl) (CB6.out) ?_)
    rintro e u7 ⟨rfl, rfl⟩
    refine ⟨_, rfl, ?_⟩
    have k7 := k6
    simp only [Act.put, List.getElem_toArray, List.getElem_cons_succ, List.getElem_cons_zero, List.setIfInBounds_toArray, List.set_cons_zero, List.set_cons_succ]
    refine hK.out _ _ (KF.out _ k7.out) (fun hH => ?_)
    clear hK K
    refine wpAnyH_take (i := 42) (v := (.bool true)) rfl (by kernel_rfl) (by kernel_rfl) (by kernel_rfl) (fun _ _ _ h => h) (Or.inl ⟨by rfl, fun W hS => by go_simp⟩) hH ?_
    simp only [Act.put, List.getElem_toArray, List.getElem_cons_succ, List.getElem_cons_zero, List.setIfInBounds_toArray, List.set_cons_zero, List.set_cons_succ]
    refine wpAnyH_take (i := 43) (v := (.bool true)) rfl (by kernel_rfl) (by kernel_rfl) (by kernel_rfl) (fun _ _ _ h => h) (Or.inl ⟨by rfl, fun W hS => by go_simp⟩) hH ?_
    simp only [Act.put, List.getElem_toArray, List.getElem_cons_succ, List.getElem_cons_zero, List.setIfInBounds_toArray, List.set_cons_zero, List.set_cons_succ]
    refine wpAnyH_take (i := 44) (v := (.bool true)) rfl (by kernel_rfl) (by kernel_rfl) (by kernel_rfl) (fun _ _ _ h => h) (Or.inl ⟨by rfl, fun W hS => by go_simp⟩) hH ?_
    simp only [Act.put, List.getElem_toArray, List.getElem_cons_succ, List.getElem_cons_zero, List.setIfInBounds_toArray, List.set_cons_zero, List.set_cons_succ]
    refine wpAnyH_done (by kernel_rfl) ?_ _
    go_wp2
    go_meet
    case rel => exact ⟨rfl, k7.out⟩
  obtain ⟨hu, g9⟩ := hcut
  subst hu
  have G9 := Lib.hid (Lib.grownBy_trans G8.out g9)
  clear g9
  go_wp2_with fail
  go_ret
  exact ⟨rfl, below_g G9.out⟩

set_option maxHeartbeats 8000000 in
theorem TallyOne_any (sv : Value) (ds : List ValD) (chain : ByteArray) (h r t : Int) (lv : Value) (l : List VoteD) (w : World) (hr : RdS w.heap.size w sv ds.length 2 (setCells ds)) (hch : chain.size ≤ maxLen) (hh : i64R h) (hrr : i64R r) (ht : i64R t)
    (hl : RdS w.heap.size w lv l.length 39 (voteCells l)) (hw : ∀ v ∈ l, v.wf) (hR : RowAt w 0 0 (wCells rootsL)) :
    Calls Tryd.prog 4 #[.agg #[sv, .string chain, .int .i64 h, .int .i64 r, .int .i64 t], lv] w fun e w' => e = .returned (.bool true) ∧ Below w.heap.size w w' := by
  have HRD := Lib.hid hr; have HR := Lib.hid hR; have HLw := Lib.hid hw; have HLR := Lib.hid hl
  have HFw := Lib.hid (forV_wf chain h r t hch hh hrr ht)
  obtain ⟨va, vc, rfl⟩ := hr.shape
  have hlen := hr.le; have hlen2 := hl.le
  obtain ⟨la, lc, rfl⟩ := hl.shape
  unfold maxLen at hlen hlen2
  have HM := Lib.hid hlen; have HM2 := Lib.hid hlen2
  clear hr hR hw hl hch hh hrr ht hlen hlen2
  go_enter Tryd.func4, Tryd.ntmps4
  go_wp2_with (first | (refine wpList_box_as rfl 40 _ rfl [.slice va ds.length vc, .string chain, .int .i64 h, .int .i64 r, .int .i64 t] rfl ?_))
  intro w1 b1 g1 s1
  obtain ⟨b, hb⟩ : ∃ b, w.heap.size = b := ⟨_, rfl⟩
  have HB := Lib.hid hb
  rw [hb] at b1 s1 ⊢
  have B1 := Lib.hid b1; have G1 := Lib.hid g1
  clear b1 g1 s1 hb
  have c0 := B1.out.row 0 _ rfl; have c1 := B1.out.row 1 _ rfl; have c2 := B1.out.row 2 _ rfl; have c3 := B1.out.row 3 _ rfl; have c4 := B1.out.row 4 _ rfl
  rw [Nat.zero_add] at c0 c1 c2 c3 c4
  have hl63 := HM.out
  cases h1 : decide ((30 : Int) < (ds.length : Int)) with
  | true =>
    go_wp2_with fail
    refine (alive9_ok w1 (HR.out.grown G1.out (by simp))).mono ?_
    rintro e w2 ⟨rfl, g2⟩
    have G2 := Lib.hid (Lib.grownBy_trans G1.out g2)
    clear g2
    go_wp2_with fail
    go_ret
    exact ⟨rfl, below_g G2.out⟩
  | false =>
    cases hri : rightL ds with
    | false =>
      have CN := Lib.hid (New_no (.slice va ds.length vc) ds chain h r t w1 (HRD.out.grown G1.out) hri)
      clear hri
      go_wp2_with fail
      refine CN.out.mono ?_
      rintro e w2 ⟨rfl, g2⟩
      have G2 := Lib.hid (Lib.grownBy_trans G1.out g2)
      clear g2 CN
      go_wp2_with fail
      refine (alive9_ok w2 (HR.out.grown G2.out (by simp))).mono ?_
      rintro e w3 ⟨rfl, g3⟩
      have G3 := Lib.hid (Lib.grownBy_trans G2.out g3)
      clear g3
      go_wp2_with fail
      go_ret
      exact ⟨rfl, below_g G3.out⟩
    | true =>
      cases hfo : okVote (forV chain h r t) with
      | false =>
        have CN := Lib.hid (New_form (.slice va ds.length vc) ds chain h r t w1 (HRD.out.grown G1.out) hri HFw.out hfo)
        clear hri hfo
        go_wp2_with fail
        refine CN.out.mono ?_
        rintro e w2 ⟨rfl, g2⟩
        have G2 := Lib.hid (Lib.grownBy_trans G1.out g2)
        clear g2 CN
        go_wp2_with fail
        refine (alive9_ok w2 (HR.out.grown G2.out (by simp))).mono ?_
        rintro e w3 ⟨rfl, g3⟩
        have G3 := Lib.hid (Lib.grownBy_trans G2.out g3)
        clear g3
        go_wp2_with fail
        go_ret
        exact ⟨rfl, below_g G3.out⟩
      | true =>
        have CN := Lib.hid (NewT (.slice va ds.length vc) ds chain h r t w1 (HRD.out.grown G1.out) hri HFw.out hfo)
        have HOK := Lib.hid (new_ok hri HFw.out)
        have htt : (sumL ds).getD (-1) = totalL ds := by
          have h := hri
          unfold rightL at h
          simp only [Bool.and_eq_true] at h
          obtain ⟨m, hm⟩ := Option.isSome_iff_exists.1 h.1.1.1
          unfold totalL; rw [if_pos hri, hm]; rfl
        have HTT := Lib.hid htt
        obtain ⟨T0, hT0⟩ : ∃ T, TD.new ds (forV chain h r t) = T := ⟨_, rfl⟩
        have HC0 := Lib.hid (show T0.cnt = [] ∧ T0.both = [] ∧ T0.set = ds by rw [← hT0]; exact ⟨rfl, rfl, rfl⟩)
        rw [hT0] at CN HOK
        clear hri hfo htt hT0
        go_wp2_with fail
        refine CN.out.mono ?_
        rintro e w2 ⟨p, bm, bs, sv', rfl, g2, t2, l1, l2, l3, _⟩
        have B2 := Lib.hid (B1.out.grown g2 (by simp)); have G2 := Lib.hid (Lib.grownBy_trans G1.out g2); have TL2 := Lib.hid t2
        have HLP := Lib.hid (show w.heap.size ≤ p ∧ w.heap.size ≤ bm ∧ w.heap.size ≤ bs from by have := G1.out.size; exact ⟨by omega, by omega, by omega⟩)
        clear g2 t2 l1 l2 l3 CN B1 G1 c0 c1 c2 c3 c4 h1
        have c0 := B2.out.row 0 _ rfl
        rw [Nat.zero_add] at c0
        have CS := Lib.hid (RSumV_ok (.slice va ds.length vc) ds w2 (HRD.out.grown G2.out))
        rw [HTT.out] at CS
        obtain ⟨tot, htot⟩ : ∃ x, totalL ds = x := ⟨_, rfl⟩
        have HTo := Lib.hid htot
        rw [htot] at CS
        clear htot
        go_wp2_with fail
        refine CS.out.mono ?_
        rintro e w3 ⟨rfl, rfl⟩
        clear CS c0
        go_wp2_with (refine wpList_alloc_as rfl 25 rfl ZH ZH_info ?_)
        intro w4 b4 g4 s4
        obtain ⟨c8, hc8⟩ : ∃ x, w2.heap.size = x := ⟨_, rfl⟩
        rw [hc8] at b4 s4 ⊢
        have HC8 := Lib.hid (show w.heap.size ≤ c8 ∧ p ≠ c8 ∧ bm ≠ c8 ∧ bs ≠ c8 ∧ (∀ g, sv'.ownBlock = some g → g ≠ c8) from by
          have hT := TL2.out
          obtain ⟨_, _, _, hD, _⟩ := hT.votes
          obtain ⟨_, _, _, hE, _⟩ := hT.sums
          have h1 := hT.blk.lt; have h2 := hD.lt; have h3 := hE.lt; have h4 := G2.out.size
          refine ⟨by omega, by omega, by omega, by omega, fun g hg => ?_⟩
          obtain ⟨ao, q, rfl, _, _, _, ⟨rfl, _⟩ | ⟨g', o, rfl, hlt, _⟩⟩ := hT.set
          · simp [Value.ownBlock] at hg
          · simp [Value.ownBlock] at hg; omega)
        have C4 := Lib.hid b4; have G4 := Lib.hid (Lib.grownBy_trans G2.out g4); have TL4 := Lib.hid (TL2.out.grown g4)
        clear b4 g4 s4 hc8 B2 G2 TL2
        have hm2 := HM2.out
        go_wp2_with fail
        go_loopw [9, 10] (fun hs i wr => ∃ (k : Nat) (tv : Value), k ≤ l.length ∧ k ≤ 30 ∧ i = .int .i64 k ∧ hs = .bool (addAll T0 (l.take k)).win.isSome ∧ w.grownBy wr none ∧ TlRep wr p bm bs sv' tv (addAll T0 (l.take k)) ∧ Blk wr c8 (winC (addAll T0 (l.take k)).win) 25 ∧ (∀ g, tv.ownBlock = some g → w.heap.size ≤ g ∧ g ≠ c8)) (fun _ i _ => l.length - (intOf i).toNat)
        case atStart =>
          refine ⟨0, .slice none 0 0, Nat.zero_le _, by omega, rfl, ?_, G4.out, TL4.out, ?_, fun g hg => by simp [Value.ownBlock] at hg⟩
          · have : (addAll T0 (l.take 0)).win = none := by
              have e : addAll T0 (l.take 0) = T0 := rfl
              rw [e]; exact win_none (by rw [HC0.out.1]; simp)
            rw [this]; rfl
          · have : (addAll T0 (l.take 0)).win = none := by
              have e : addAll T0 (l.take 0) = T0 := rfl
              rw [e]; exact win_none (by rw [HC0.out.1]; simp)
            rw [this]; exact C4.out
        case round =>
          obtain ⟨k, tv, hk, hk30, rfl, rfl, hg, htl, hc, htv⟩ := hrel
          have Hg := Lib.hid hg; have Ht := Lib.hid htl; have Hc := Lib.hid hc; have Htv := Lib.hid htv
          have HOKk := Lib.hid (addAll_ok HOK.out (l.take k) (fun v hv => HLw.out v (List.mem_of_mem_take hv)))
          have HSz := Lib.hid (addAll_size T0 (l.take k))
          have HSet := Lib.hid (addAll_set T0 (l.take k))
          clear hg htl hc htv C4 G4 TL4
          by_cases hlt : k < l.length
          · by_cases hlt30 : k < 30
            · have hb1 := HLR.out
              obtain ⟨gl, ol, cl, hsl, hle, hcm, hgl, hrow⟩ := hb1.at_ (by omega)
              injection hsl with e1 _ e3
              subst e1 e3
              unfold maxLen at hcm
              have HROW := Lib.hid (fun W (g : w.grownBy W none) => RowAt.vote (hrow.grown g (by simp)) HLw.out)
              have HBLK := Lib.hid (fun W (g : w.grownBy W none) => RowAt.voteBlk (hrow.grown g (by simp)) HLw.out)
              have HLe := Lib.hid hle; have HCm := Lib.hid hcm
              have Hvw := Lib.hid (HLw.out _ (List.getElem_mem hlt))
              have HTk := Lib.hid (addAll_take T0 l hlt)
              obtain ⟨v, hv⟩ : ∃ v, l[k] = v := ⟨_, rfl⟩
              have RV := HROW.out _ Hg.out k hlt
              rw [hv] at Hvw HTk RV
              have HRV := Lib.hid RV
              obtain ⟨T, hT⟩ : ∃ T, addAll T0 (l.take k) = T := ⟨_, rfl⟩
              obtain ⟨T', hT'⟩ : ∃ T, addAll T0 (l.take (k + 1)) = T := ⟨_, rfl⟩
              rw [hT] at Ht Hc HOKk HSz HSet HTk
              rw [hT]
              rw [hT'] at HTk
              have HOK' := Lib.hid (show T'.ok by rw [HTk.out]; exact TD.add_ok HOKk.out Hvw.out)
              have HSet' := Lib.hid (show T'.set = ds by rw [HTk.out, (add_set T v).1, HSet.out, HC0.out.2.2])
              have HWs := Lib.hid (show ∀ x, T.win = some x → T'.win = some x from fun x hx => by rw [HTk.out]; exact win_stays HOKk.out Hvw.out hx)
              have HCov := Lib.hid (show ∀ u ∈ T'.cnt, u.block ∈ dB l (k + 1) by rw [← hT']; exact cover HC0.out.1 l hlt)
              have HT' := Lib.hid hT'
              have CA := Lib.hid (Add_ok HOKk.out Hvw.out Ht.out (by
                have h1 := HSz.out
                rw [HC0.out.1, HC0.out.2.1, List.length_take] at h1
                simp at h1
                omega) (HR.out.grown Hg.out (by simp)))
              rw [← HTk.out] at CA
              obtain ⟨code, hcode⟩ : ∃ x, (T.add v).2 = x := ⟨_, rfl⟩
              rw [hcode] at CA
              clear hv RV hT hT' hrow hcode hb1 hgl
              go_wp2_with (refine wpList_load_part rfl 29 _ rfl gl (ol + k * 39) rfl v.cells _ HRV.out Tryd.underlying29 rfl (v.size Hvw.out) ?_)
              refine CA.out.mono ?_
              rintro e w5 ⟨rfl, k5, tv2, t5, htv5⟩
              have G5 := Lib.hid (Kp.grown (((Kp.still Hg.out).trans k5 (S := fun _ => False) (fun i hi hx => by
                have h1 := HLP.out
                rcases hx with hx | hx | hx | hx
                · omega
                · omega
                · omega
                · have := (Htv.out i hx).1; omega))) (fun _ _ => id))
              have C5 := Lib.hid (Hc.out.kp k5 (fun hx => by
                have h1 := HC8.out
                rcases hx with hx | hx | hx | hx
                · omega
                · omega
                · omega
                · exact (Htv.out _ hx).2 rfl))
              have Tv5 := Lib.hid (show ∀ g, tv2.ownBlock = some g → w.heap.size ≤ g ∧ g ≠ c8 from fun g hx => by
                rcases htv5 with e | e
                · rw [e] at hx; exact Htv.out g hx
                · have h1 := e g hx; have h2 := Hg.out.size; have h3 := Hc.out.lt; exact ⟨by omega, by omega⟩)
              have TL5 := Lib.hid t5
              clear k5 t5 htv5 CA HRV Hg Ht Hc Htv
              have CW := Lib.hid (WinnerT HOK'.out TL5.out)
              go_wp2_with fail
              refine CW.out.mono ?_
              rintro e w6 ⟨rfl, g6⟩
              have G6 := Lib.hid (Lib.grownBy_trans G5.out g6); have C6 := Lib.hid (C5.out.grown g6 (by simp)); have TL6 := Lib.hid (TL5.out.grown g6)
              clear g6 CW G5 C5 TL5
              go_wp2_with (refine wpList_alloc_as rfl 25 rfl ZH ZH_info ?_)
              intro w7 b7 g7 s7
              obtain ⟨e, he⟩ : ∃ x, w6.heap.size = x := ⟨_, rfl⟩
              rw [he] at b7 s7 ⊢
              have HEs := Lib.hid (show w.heap.size ≤ e ∧ c8 ≠ e ∧ p ≠ e ∧ bm ≠ e ∧ bs ≠ e ∧ (∀ g, sv'.ownBlock = some g → g ≠ e) ∧ (∀ g, tv2.ownBlock = some g → g ≠ e) from by
                have hT := TL6.out
                obtain ⟨_, _, _, hD, _⟩ := hT.votes
                obtain ⟨_, _, _, hE, _⟩ := hT.sums
                have h1 := hT.blk.lt; have h2 := hD.lt; have h3 := hE.lt; have h4 := G6.out.size; have h5 := C6.out.lt
                refine ⟨by omega, by omega, by omega, by omega, by omega, fun g hg => ?_, fun g hg => by have := ownsRow.lt hT.twice hg; omega⟩
                obtain ⟨ao, q, rfl, _, _, _, ⟨rfl, _⟩ | ⟨g', o, rfl, hlt, _⟩⟩ := hT.set
                · simp [Value.ownBlock] at hg
                · simp [Value.ownBlock] at hg; omega)
              have E7 := Lib.hid b7; have G7 := Lib.hid (Lib.grownBy_trans G6.out g7); have C7 := Lib.hid (C6.out.grown g7 (by simp)); have TL7 := Lib.hid (TL6.out.grown g7)
              clear b7 g7 s7 he G6 C6 TL6
              have hwl := Lib.hid (winC_len HOK'.out); have hwl0 := Lib.hid (winC_len HOKk.out)
              go_wp2_with (refine wpList_store_whole rfl 25 _ _ rfl e rfl (winC T'.win) ZH 25 rfl E7.out (by rw [hwl.out]; rfl) (winC_one _) (by rw [hwl.out]; kernel_rfl) ?_)
              intro w8 g8 s8 b8
              have E8 := Lib.hid b8; have G8 := Lib.hid (grown_new G7.out g8 HEs.out.1); have C8 := Lib.hid (C7.out.grown g8 (by have := HEs.out.2.1; simp; omega))
              have TL8 := Lib.hid (TL7.out.kp (S := fun i => i = e) (Kp.of g8 (fun i x _ => by cases x; rfl)) HEs.out.2.2.1 HEs.out.2.2.2.1 HEs.out.2.2.2.2.1 (fun g h => HEs.out.2.2.2.2.2.1 g h) (fun g h => HEs.out.2.2.2.2.2.2 g h))
              clear b8 g8 s8 G7 C7 TL7 E7
              -- the winner stays
              go_upto_region 14 with (fail)
              go_cut [9, 12, 85] from 71 to 149 (fun s9 s12 s85 w' => s9 = .bool T.win.isSome ∧ s12 = .bool T'.win.isSome ∧ s85 = .bool false ∧ w8 = w')
              case first =>
                cases hwo : T.win with
                | none =>
                  go_wp2_with fail
                  go_meet
                  case rel => exact ⟨by rw [hwo]; rfl, rfl, rfl, rfl⟩
                | some x =>
                  have hx := HWs.out x hwo
                  have e1 : winC T.win = Lib.byteCells x := by rw [hwo]; rfl
                  have e2 : winC T'.win = Lib.byteCells x := by rw [hx]; rfl
                  have hxl := Lib.hid (win_len HOK'.out hx)
                  have CX := Lib.hid (show Blk w8 c8 (Lib.byteCells x) 25 by rw [← e1]; exact C8.out)
                  have EX := Lib.hid (show Blk w8 e (Lib.byteCells x) 25 by rw [← e2]; exact E8.out)
                  have hvv : VEq (Lib.byteCells x) (Lib.byteCells x) = true := by rw [VEq.bytes]; simp
                  have HVV := Lib.hid hvv
                  rw [hx]
                  have HX := Lib.hid hx; have HWo := Lib.hid hwo
                  clear e1 e2 hx hvv hwo
                  go_wp2_with (first | (refine wpList_load_part rfl 25 _ rfl e 0 rfl (Lib.byteCells x) _ EX.out.row Tryd.underlying25 rfl (sizeH _ (by rw [Lib.byteCells_length, hxl.out])) ?_) | (refine wpList_load_part rfl 25 _ rfl c8 0 rfl (Lib.byteCells x) _ CX.out.row Tryd.underlying25 rfl (sizeH _ (by rw [Lib.byteCells_length, hxl.out])) ?_) | (refine wpList_neq_flat rfl 25 _ _ _ rfl (Lib.byteCells x) (Lib.byteCells x) kHash rfl rfl hash_flat (hash_fits _ hxl.out) (hash_fits _ hxl.out) rfl (by kernel_rfl) ?_; rw [HVV.out]))
                  go_meet
                  case rel => exact ⟨by rw [HWo.out]; rfl, by rw [HX.out]; rfl, rfl, rfl⟩
              obtain ⟨hu9, hu12, hu85, hw8⟩ := hcut
              subst hu9 hu12 hu85 hw8
              go_wp2_with (first | (refine wpList_load_part rfl 25 _ rfl e 0 rfl (winC T'.win) _ E8.out.row Tryd.underlying25 rfl (by rw [hwl.out]; kernel_rfl) ?_) | (refine wpList_store_whole rfl 25 _ _ rfl c8 rfl (winC T'.win) (winC T.win) 25 rfl C8.out (by rw [hwl.out, hwl0.out]) (winC_one _) (by rw [hwl.out]; kernel_rfl) ?_))
              intro w9 g9 s9 b9
              have C9 := Lib.hid b9; have E9 := Lib.hid (E8.out.grown g9 (by have := HEs.out.2.1; simp; omega)); have G9 := Lib.hid (grown_new G8.out g9 HC8.out.1)
              have TL9 := Lib.hid (TL8.out.kp (S := fun i => i = c8) (Kp.of g9 (fun i x _ => by cases x; rfl)) HC8.out.2.1 HC8.out.2.2.1 HC8.out.2.2.2.1 (fun g h => HC8.out.2.2.2.2 g h) (fun g h => (Tv5.out g h).2))
              clear b9 g9 s9 E8 G8 TL8 C8 hwl0
              obtain ⟨ok, hok⟩ : ∃ x, T'.win.isSome = x := ⟨_, rfl⟩
              have HOkw := Lib.hid hok
              rw [hok]
              clear hok
              go_wp2_with fail
              go_loopw [13, 14] (fun sm j wr => ∃ kk : Nat, kk ≤ k + 1 ∧ j = .int .i64 kk ∧ sm = .int .i64 (sumB T' (dB l kk)) ∧ w9.grownBy wr none) (fun _ j _ => k + 1 - (intOf j).toNat)
              case atStart => exact ⟨0, Nat.zero_le _, rfl, rfl, gb_refl _⟩
              case round =>
                obtain ⟨kk, hkk, rfl, rfl, hgi⟩ := hrel
                have Hgi := Lib.hid hgi
                clear hgi
                by_cases hle2 : kk ≤ k
                · have hkl : kk < l.length := by omega
                  go_wp2_with fail
                  go_loopw [15, 16] (fun f j wr => ∃ jj : Nat, jj ≤ kk ∧ j = .int .i64 jj ∧ f = .bool (fstB l kk jj) ∧ w9.grownBy wr none) (fun _ j _ => kk - (intOf j).toNat)
                  case atStart => exact ⟨0, Nat.zero_le _, rfl, rfl, Hgi.out⟩
                  case round =>
                    obtain ⟨jj, hjj, rfl, rfl, hgj⟩ := hrel
                    have Hgj := Lib.hid hgj
                    clear hgj
                    obtain ⟨ff, hff⟩ : ∃ x, fstB l kk jj = x := ⟨_, rfl⟩
                    have HFf := Lib.hid hff
                    rw [hff]
                    clear hff
                    by_cases hjlt : jj < kk
                    · have hjl : jj < l.length := by omega
                      have hcm := HCm.out; have hle := HLe.out
                      have HX1 := Lib.hid (HBLK.out _ (Lib.grownBy_trans G9.out (Lib.grownBy_trans Hgj.out (dr_grown _ 1))) jj hjl)
                      have HX2 := Lib.hid (HBLK.out _ (Lib.grownBy_trans G9.out (Lib.grownBy_trans Hgj.out (dr_grown _ 1))) kk hkl)
                      have L1 := Lib.hid (blkAt_len HLw.out hjl); have L2 := Lib.hid (blkAt_len HLw.out hkl)
                      obtain ⟨ne, hne⟩ : ∃ x, (!VEq (Lib.byteCells (blkAt l jj)) (Lib.byteCells (blkAt l kk))) = x := ⟨_, rfl⟩
                      have HNe := Lib.hid hne
                      have EF := Lib.hid (show fstB l kk (jj + 1) = (ff && ne) by rw [fstB, HFf.out, ← hne, VEq.bytes])
                      clear hne
                      go_upto_region 26 with (fail)
                      cases hffv : ff with
                        | false =>
                          have E0 := Lib.hid (show fstB l kk (jj + 1) = false by rw [EF.out, hffv]; rfl)
                          go_quiet (fail)
                          go_wp2_with fail
                          exact ⟨⟨jj + 1, by omega, by go_num, by rw [E0.out], Lib.grownBy_trans Hgj.out (dr_grown _ _)⟩, by simp [intOf]; omega⟩
                        | true =>
                          have E0 := Lib.hid (show fstB l kk (jj + 1) = ne by rw [EF.out, hffv, Bool.true_and])
                          refine wp_region_held_drew (S := fun W => RowAt W gl (ol + jj * 39 + 4) (Lib.byteCells (blkAt l jj)) ∧ RowAt W gl (ol + kk * 39 + 4) (Lib.byteCells (blkAt l kk))) (by kernel_rfl) ⟨HX1.out, HX2.out⟩ (fun hH => ?_)
                          refine wpAnyH_take (i := 0) (v := (.bool true)) rfl (by kernel_rfl) (by kernel_rfl) (by kernel_rfl) (fun _ _ _ h => h) (Or.inl ⟨by rfl, fun W hS => by go_simp⟩) hH ?_
                          simp only [Act.put, List.getElem_toArray, List.getElem_cons_zero, List.setIfInBounds_toArray, List.set_cons_zero, List.set_cons_succ]
                          refine wpAnyH_take (i := 1) (v := (.bool true)) rfl (by kernel_rfl) (by kernel_rfl) (by kernel_rfl) (fun _ _ _ h => h) (Or.inl ⟨by rfl, fun W hS => by go_simp⟩) hH ?_
                          simp only [Act.put, List.getElem_toArray, List.getElem_cons_succ, List.getElem_cons_zero, List.setIfInBounds_toArray, List.set_cons_zero, List.set_cons_succ]
                          refine wpAnyH_take (i := 2) (v := (.slice (some ⟨gl, ol, none⟩) l.length lc)) rfl (by kernel_rfl) (by kernel_rfl) (by kernel_rfl) (fun _ _ _ h => h) (Or.inl ⟨by rfl, fun W hS => by go_simp⟩) hH ?_
                          simp only [Act.put, List.getElem_toArray, List.getElem_cons_succ, List.getElem_cons_zero, List.setIfInBounds_toArray, List.set_cons_zero, List.set_cons_succ]
                          refine wpAnyH_take (i := 3) (v := (.int .i64 jj)) rfl (by kernel_rfl) (by kernel_rfl) (by kernel_rfl) (fun _ _ _ h => h) (Or.inl ⟨by rfl, fun W hS => by go_simp⟩) hH ?_
                          simp only [Act.put, List.getElem_toArray, List.getElem_cons_succ, List.getElem_cons_zero, List.setIfInBounds_toArray, List.set_cons_zero, List.set_cons_succ]
                          refine wpAnyH_take (i := 4) (v := (.pointer (some ⟨gl, ol + jj * 39, none⟩))) rfl (by kernel_rfl) (by kernel_rfl) (by kernel_rfl) (fun _ _ _ h => h) (Or.inl ⟨by rfl, fun W hS => by go_simp⟩) hH ?_
                          simp only [Act.put, List.getElem_toArray, List.getElem_cons_succ, List.getElem_cons_zero, List.setIfInBounds_toArray, List.set_cons_zero, List.set_cons_succ]
                          refine wpAnyH_take (i := 5) (v := (.pointer (some ⟨gl, ol + jj * 39 + 4, none⟩))) rfl (by kernel_rfl) (by kernel_rfl) (by kernel_rfl) (fun _ _ _ h => h) (Or.inl ⟨by rfl, fun W hS => by go_simp⟩) hH ?_
                          simp only [Act.put, List.getElem_toArray, List.getElem_cons_succ, List.getElem_cons_zero, List.setIfInBounds_toArray, List.set_cons_zero, List.set_cons_succ]
                          refine wpAnyH_take (i := 6) (v := (.agg (Lib.byteCells (blkAt l jj)).toArray)) rfl (by kernel_rfl) (by kernel_rfl) (by kernel_rfl) (fun _ _ _ h => h) (yieldsIf_load_mid (by rfl) 25 _ rfl gl (ol + jj * 39 + 4) rfl (Lib.byteCells (blkAt l jj)) _ (fun W h => h.1) Tryd.underlying25 rfl (sizeH _ (by rw [Lib.byteCells_length, L1.out]))) hH ?_
                          simp only [Act.put, List.getElem_toArray, List.getElem_cons_succ, List.getElem_cons_zero, List.setIfInBounds_toArray, List.set_cons_zero, List.set_cons_succ]
                          refine wpAnyH_take (i := 7) (v := (.slice (some ⟨gl, ol, none⟩) l.length lc)) rfl (by kernel_rfl) (by kernel_rfl) (by kernel_rfl) (fun _ _ _ h => h) (Or.inl ⟨by rfl, fun W hS => by go_simp⟩) hH ?_
                          simp only [Act.put, List.getElem_toArray, List.getElem_cons_succ, List.getElem_cons_zero, List.setIfInBounds_toArray, List.set_cons_zero, List.set_cons_succ]
                          refine wpAnyH_take (i := 8) (v := (.int .i64 kk)) rfl (by kernel_rfl) (by kernel_rfl) (by kernel_rfl) (fun _ _ _ h => h) (Or.inl ⟨by rfl, fun W hS => by go_simp⟩) hH ?_
                          simp only [Act.put, List.getElem_toArray, List.getElem_cons_succ, List.getElem_cons_zero, List.setIfInBounds_toArray, List.set_cons_zero, List.set_cons_succ]
                          refine wpAnyH_take (i := 9) (v := (.pointer (some ⟨gl, ol + kk * 39, none⟩))) rfl (by kernel_rfl) (by kernel_rfl) (by kernel_rfl) (fun _ _ _ h => h) (Or.inl ⟨by rfl, fun W hS => by go_simp⟩) hH ?_
                          simp only [Act.put, List.getElem_toArray, List.getElem_cons_succ, List.getElem_cons_zero, List.setIfInBounds_toArray, List.set_cons_zero, List.set_cons_succ]
                          refine wpAnyH_take (i := 10) (v := (.pointer (some ⟨gl, ol + kk * 39 + 4, none⟩))) rfl (by kernel_rfl) (by kernel_rfl) (by kernel_rfl) (fun _ _ _ h => h) (Or.inl ⟨by rfl, fun W hS => by go_simp⟩) hH ?_
                          simp only [Act.put, List.getElem_toArray, List.getElem_cons_succ, List.getElem_cons_zero, List.setIfInBounds_toArray, List.set_cons_zero, List.set_cons_succ]
                          refine wpAnyH_take (i := 11) (v := (.agg (Lib.byteCells (blkAt l kk)).toArray)) rfl (by kernel_rfl) (by kernel_rfl) (by kernel_rfl) (fun _ _ _ h => h) (yieldsIf_load_mid (by rfl) 25 _ rfl gl (ol + kk * 39 + 4) rfl (Lib.byteCells (blkAt l kk)) _ (fun W h => h.2) Tryd.underlying25 rfl (sizeH _ (by rw [Lib.byteCells_length, L2.out]))) hH ?_
                          simp only [Act.put, List.getElem_toArray, List.getElem_cons_succ, List.getElem_cons_zero, List.setIfInBounds_toArray, List.set_cons_zero, List.set_cons_succ]
                          refine wpAnyH_take (i := 12) (v := (.bool ne)) rfl (by kernel_rfl) (by kernel_rfl) (by kernel_rfl) (fun _ _ _ h => h) (yieldsIf_neq_flat (by rfl) 25 _ _ _ (by rfl) (Lib.byteCells (blkAt l jj)) (Lib.byteCells (blkAt l kk)) kHash (by rfl) (by rfl) hash_flat (hash_fits _ L1.out) (hash_fits _ L2.out) rfl (by kernel_rfl) HNe.out) hH ?_
                          simp only [Act.put, List.getElem_toArray, List.getElem_cons_succ, List.getElem_cons_zero, List.setIfInBounds_toArray, List.set_cons_zero, List.set_cons_succ]
                          refine wpAnyH_take (i := 13) (v := (.bool ne)) rfl (by kernel_rfl) (by kernel_rfl) (by kernel_rfl) (fun _ _ _ h => h) (Or.inl ⟨by rfl, fun W hS => by go_simp⟩) hH ?_
                          simp only [Act.put, List.getElem_toArray, List.getElem_cons_succ, List.getElem_cons_zero, List.setIfInBounds_toArray, List.set_cons_zero, List.set_cons_succ]
                          refine wpAnyH_take (i := 14) (v := (.bool ne)) rfl (by kernel_rfl) (by kernel_rfl) (by kernel_rfl) (fun _ _ _ h => h) (Or.inl ⟨by rfl, fun W hS => by go_simp⟩) hH ?_
                          simp only [Act.put, List.getElem_toArray, List.getElem_cons_succ, List.getElem_cons_zero, List.setIfInBounds_toArray, List.set_cons_zero, List.set_cons_succ]
                          refine wpAnyH_done (by kernel_rfl) ?_ _
                          go_wp2_with fail
                          exact ⟨⟨jj + 1, by omega, by go_num, by rw [E0.out], Lib.grownBy_trans Hgj.out (dr_grown _ 1)⟩, by simp [intOf]; omega⟩
                    · obtain rfl : jj = kk := by omega
                      have SB := sumB_le HOK'.out l (jj + 1)
                      have PL := pow_le HOK'.out (blkAt l jj)
                      have SS := sumB_step T' l jj
                      rw [HFf.out] at SS
                      cases hffv : ff with
                      | false =>
                        have ES := Lib.hid (show sumB T' (dB l (jj + 1)) = sumB T' (dB l jj) by rw [SS, hffv]; rfl)
                        clear SB PL SS
                        go_wp2_with fail
                        exact ⟨⟨jj + 1, by omega, by go_num, by rw [ES.out], Hgj.out⟩, by simp [intOf]; omega⟩
                      | true =>
                        rw [hffv, if_pos rfl] at SS
                        have L2 := Lib.hid (blkAt_len HLw.out hkl)
                        have HX := Lib.hid (HBLK.out _ (Lib.grownBy_trans G9.out Hgj.out) jj hkl)
                        have CP := Lib.hid (PowerT HOK'.out (TL9.out.grown Hgj.out) (blkAt l jj) L2.out)
                        have HWI := Lib.hid (show twoB (T'.pow (blkAt l jj)) tot = decide (T'.win = some (blkAt l jj)) by rw [← win_is HOK'.out, HSet'.out, HTo.out])
                        obtain ⟨pw, hpw⟩ : ∃ x, T'.pow (blkAt l jj) = x := ⟨_, rfl⟩
                        rw [hpw] at CP HWI PL SS
                        obtain ⟨sm, hsm⟩ : ∃ x, sumB T' (dB l jj) = x := ⟨_, rfl⟩
                        rw [hsm] at SS ⊢
                        rw [SS] at SB
                        have ES := Lib.hid SS
                        have EW := Lib.hid (IntWalk.i64_in (sm + pw) (by omega))
                        have hcm := HCm.out; have hle := HLe.out
                        clear SB PL SS hpw hsm
                        go_wp2_with (refine wpList_load_part rfl 25 _ rfl gl (ol + jj * 39 + 4) rfl (Lib.byteCells (blkAt l jj)) _ HX.out Tryd.underlying25 rfl (sizeH _ (by rw [Lib.byteCells_length, L2.out])) ?_)
                        refine CP.out.mono ?_
                        rintro e10 w10 ⟨rfl, g10⟩
                        have G10 := Lib.hid (Lib.grownBy_trans Hgj.out g10)
                        clear g10 CP HX
                        have ew := EW.out
                        go_upto_region 30 with (fail)
                        clear ew
                        have HX := Lib.hid (HBLK.out _ (Lib.grownBy_trans G9.out (Lib.grownBy_trans G10.out (dr_grown _ 1))) jj hkl)
                        have HE := Lib.hid ((E9.out.grown (Lib.grownBy_trans G10.out (dr_grown _ 1)) (by simp)).row)
                        go_cut [9, 12, 86, 137] from 124 to 137 (fun s9 s12 s86 s137 w' => s9 = .bool ok ∧ s12 = .bool ok ∧ s86 = .bool ok ∧ s137 = .bool false ∧ w9.grownBy w' none)
                        case first =>
                          have C2 := Two_ok pw tot w10.drew
                          rw [HWI.out] at C2
                          cases hokv : ok with
                          | false =>
                            have hn : T'.win = none := by
                              have h := HOkw.out
                              rw [hokv] at h
                              cases hq : T'.win with
                              | none => rfl
                              | some x => rw [hq] at h; cases h
                            rw [hn] at C2
                            have C2' := Lib.hid (show Calls Tryd.prog 14 #[.int .i64 pw, .int .i64 tot] w10.drew fun e w' => e = .returned (.bool false) ∧ w10.drew = w' from C2)
                            clear C2 hn
                            refine wp_region_held_drew (S := fun W => RowAt W gl (ol + jj * 39 + 4) (Lib.byteCells (blkAt l jj)) ∧ RowAt W e 0 (winC T'.win)) (by kernel_rfl) ⟨HX.out, HE.out⟩ (fun hH => ?_)
                            refine wpAnyH_take (i := 0) (v := (.int .i64 pw)) rfl (by kernel_rfl) (by kernel_rfl) (by kernel_rfl) (fun _ _ _ h => h) (Or.inl ⟨by rfl, fun W hS => by go_simp⟩) hH ?_
                            simp only [Act.put, List.getElem_toArray, List.getElem_cons_zero, List.setIfInBounds_toArray, List.set_cons_zero, List.set_cons_succ]
                            refine wpAnyH_take (i := 1) (v := (.int .i64 tot)) rfl (by kernel_rfl) (by kernel_rfl) (by kernel_rfl) (fun _ _ _ h => h) (Or.inl ⟨by rfl, fun W hS => by go_simp⟩) hH ?_
                            simp only [Act.put, List.getElem_toArray, List.getElem_cons_succ, List.getElem_cons_zero, List.setIfInBounds_toArray, List.set_cons_zero, List.set_cons_succ]
                            refine wpAnyH_take (i := 3) (v := (.bool false)) rfl (by kernel_rfl) (by kernel_rfl) (by kernel_rfl) (fun _ _ _ h => h) (Or.inl ⟨by rfl, fun W hS => by go_simp⟩) hH ?_
                            simp only [Act.put, List.getElem_toArray, List.getElem_cons_succ, List.getElem_cons_zero, List.setIfInBounds_toArray, List.set_cons_zero, List.set_cons_succ]
                            refine wpAnyH_ready (rs := [2]) (by kernel_rfl) (by simp) ?_
                            refine AllReadyH.cons rfl (fun K hK => ?_) AllReadyH.nil
                            refine step_wantedG (by rfl) (wp_call 14 _ _ (by rfl) (enters Tryd.func14 (by kernel_rfl) rfl) (by rfl) C2'.out ?_)
                            rintro e30 u30 ⟨rfl, rfl⟩
                            refine ⟨_, rfl, ?_⟩
                            simp only [Act.put, List.getElem_toArray, List.getElem_cons_succ, List.getElem_cons_zero, List.setIfInBounds_toArray, List.set_cons_zero, List.set_cons_succ]
                            refine hK.out _ _ ⟨HX.out, HE.out⟩ (fun hH => ?_)
                            clear hK K
                            refine wpAnyH_take (i := 4) (v := (.bool false)) rfl (by kernel_rfl) (by kernel_rfl) (by kernel_rfl) (fun _ _ _ h => h) (Or.inl ⟨by rfl, fun W hS => by go_simp⟩) hH ?_
                            simp only [Act.put, List.getElem_toArray, List.getElem_cons_succ, List.getElem_cons_zero, List.setIfInBounds_toArray, List.set_cons_zero, List.set_cons_succ]
                            refine wpAnyH_take (i := 5) (v := undef) rfl (by kernel_rfl) (by kernel_rfl) (by kernel_rfl) (fun _ _ _ h => h) (Or.inr ⟨by rfl, rfl⟩) hH ?_
                            simp only [Act.put, List.getElem_toArray, List.getElem_cons_succ, List.getElem_cons_zero, List.setIfInBounds_toArray, List.set_cons_zero, List.set_cons_succ]
                            refine wpAnyH_take (i := 6) (v := undef) rfl (by kernel_rfl) (by kernel_rfl) (by kernel_rfl) (fun _ _ _ h => h) (Or.inr ⟨by rfl, rfl⟩) hH ?_
                            simp only [Act.put, List.getElem_toArray, List.getElem_cons_succ, List.getElem_cons_zero, List.setIfInBounds_toArray, List.set_cons_zero, List.set_cons_succ]
                            refine wpAnyH_take (i := 7) (v := undef) rfl (by kernel_rfl) (by kernel_rfl) (by kernel_rfl) (fun _ _ _ h => h) (Or.inr ⟨by rfl, rfl⟩) hH ?_
                            simp only [Act.put, List.getElem_toArray, List.getElem_cons_succ, List.getElem_cons_zero, List.setIfInBounds_toArray, List.set_cons_zero, List.set_cons_succ]
                            refine wpAnyH_take (i := 8) (v := undef) rfl (by kernel_rfl) (by kernel_rfl) (by kernel_rfl) (fun _ _ _ h => h) (Or.inr ⟨by rfl, rfl⟩) hH ?_
                            simp only [Act.put, List.getElem_toArray, List.getElem_cons_succ, List.getElem_cons_zero, List.setIfInBounds_toArray, List.set_cons_zero, List.set_cons_succ]
                            refine wpAnyH_take (i := 9) (v := undef) rfl (by kernel_rfl) (by kernel_rfl) (by kernel_rfl) (fun _ _ _ h => h) (Or.inr ⟨by rfl, rfl⟩) hH ?_
                            simp only [Act.put, List.getElem_toArray, List.getElem_cons_succ, List.getElem_cons_zero, List.setIfInBounds_toArray, List.set_cons_zero, List.set_cons_succ]
                            refine wpAnyH_take (i := 10) (v := undef) rfl (by kernel_rfl) (by kernel_rfl) (by kernel_rfl) (fun _ _ _ h => h) (Or.inr ⟨by rfl, rfl⟩) hH ?_
                            simp only [Act.put, List.getElem_toArray, List.getElem_cons_succ, List.getElem_cons_zero, List.setIfInBounds_toArray, List.set_cons_zero, List.set_cons_succ]
                            refine wpAnyH_take (i := 11) (v := undef) rfl (by kernel_rfl) (by kernel_rfl) (by kernel_rfl) (fun _ _ _ h => h) (Or.inr ⟨by rfl, rfl⟩) hH ?_
                            simp only [Act.put, List.getElem_toArray, List.getElem_cons_succ, List.getElem_cons_zero, List.setIfInBounds_toArray, List.set_cons_zero, List.set_cons_succ]
                            refine wpAnyH_take (i := 12) (v := (.bool false)) rfl (by kernel_rfl) (by kernel_rfl) (by kernel_rfl) (fun _ _ _ h => h) (Or.inl ⟨by rfl, fun W hS => by go_simp⟩) hH ?_
                            simp only [Act.put, List.getElem_toArray, List.getElem_cons_succ, List.getElem_cons_zero, List.setIfInBounds_toArray, List.set_cons_zero, List.set_cons_succ]
                            refine wpAnyH_take (i := 13) (v := (.bool false)) rfl (by kernel_rfl) (by kernel_rfl) (by kernel_rfl) (fun _ _ _ h => h) (Or.inl ⟨by rfl, fun W hS => by go_simp⟩) hH ?_
                            simp only [Act.put, List.getElem_toArray, List.getElem_cons_succ, List.getElem_cons_zero, List.setIfInBounds_toArray, List.set_cons_zero, List.set_cons_succ]
                            refine wpAnyH_done (by kernel_rfl) ?_ _
                            go_wp2
                            go_meet
                            case rel => exact ⟨by rw [hokv], by rw [hokv], by rw [hokv], rfl, Lib.grownBy_trans G10.out (dr_grown _ 1)⟩
                          | true =>
                            obtain ⟨x, hx⟩ : ∃ x, T'.win = some x := Option.isSome_iff_exists.1 (by rw [HOkw.out, hokv])
                            have hxl := Lib.hid (win_len HOK'.out hx)
                            have e1 : winC T'.win = Lib.byteCells x := by rw [hx]; rfl
                            have HEx := Lib.hid (show RowAt w10.drew e 0 (Lib.byteCells x) by rw [← e1]; exact HE.out)
                            rw [hx] at C2
                            obtain ⟨eb, heb⟩ : ∃ b, VEq (Lib.byteCells (blkAt l jj)) (Lib.byteCells x) = b := ⟨_, rfl⟩
                            have HEb := Lib.hid heb
                            have C2' := Lib.hid (show Calls Tryd.prog 14 #[.int .i64 pw, .int .i64 tot] w10.drew fun e w' => e = .returned (.bool eb) ∧ w10.drew = w' from by
                              have e3 : decide (some x = some (blkAt l jj)) = eb := by
                                rw [← heb, VEq.bytes]
                                by_cases h : x = blkAt l jj
                                · simp [h]
                                · rw [decide_eq_false (by simpa using h)]; symm; simp; exact fun h2 => h h2.symm
                              rwa [e3] at C2)
                            clear C2 e1 heb hx
                            refine wp_region_held_drew (S := fun W => RowAt W gl (ol + jj * 39 + 4) (Lib.byteCells (blkAt l jj)) ∧ RowAt W e 0 (Lib.byteCells x)) (by kernel_rfl) ⟨HX.out, HEx.out⟩ (fun hH => ?_)
                            refine wpAnyH_take (i := 0) (v := (.int .i64 pw)) rfl (by kernel_rfl) (by kernel_rfl) (by kernel_rfl) (fun _ _ _ h => h) (Or.inl ⟨by rfl, fun W hS => by go_simp⟩) hH ?_
                            simp only [Act.put, List.getElem_toArray, List.setIfInBounds_toArray]
                            refine wpAnyH_take (i := 1) (v := (.int .i64 tot)) rfl (by kernel_rfl) (by kernel_rfl) (by kernel_rfl) (fun _ _ _ h => h) (Or.inl ⟨by rfl, fun W hS => by go_simp⟩) hH ?_
                            simp only [Act.put, List.getElem_toArray, List.getElem_cons_zero, List.setIfInBounds_toArray, List.set_cons_zero, List.set_cons_succ]
                            refine wpAnyH_take (i := 3) (v := (.bool true)) rfl (by kernel_rfl) (by kernel_rfl) (by kernel_rfl) (fun _ _ _ h => h) (Or.inl ⟨by rfl, fun W hS => by go_simp⟩) hH ?_
                            simp only [Act.put, List.getElem_toArray, List.getElem_cons_succ, List.getElem_cons_zero, List.setIfInBounds_toArray, List.set_cons_zero, List.set_cons_succ]
                            refine wpAnyH_ready (rs := [2]) (by kernel_rfl) (by simp) ?_
                            refine AllReadyH.cons rfl (fun K hK => ?_) AllReadyH.nil
                            refine step_wantedG (by rfl) (wp_call 14 _ _ (by rfl) (enters Tryd.func14 (by kernel_rfl) rfl) (by rfl) C2'.out ?_)
                            rintro e30 u30 ⟨rfl, rfl⟩
                            refine ⟨_, rfl, ?_⟩
                            simp only [Act.put, List.getElem_toArray, List.getElem_cons_succ, List.getElem_cons_zero, List.setIfInBounds_toArray, List.set_cons_zero, List.set_cons_succ]
                            refine hK.out _ _ ⟨HX.out, HEx.out⟩ (fun hH => ?_)
                            clear hK K
                            refine wpAnyH_take (i := 4) (v := (.bool true)) rfl (by kernel_rfl) (by kernel_rfl) (by kernel_rfl) (fun _ _ _ h => h) (Or.inl ⟨by rfl, fun W hS => by go_simp⟩) hH ?_
                            simp only [Act.put, List.getElem_toArray, List.getElem_cons_succ, List.getElem_cons_zero, List.setIfInBounds_toArray, List.set_cons_zero, List.set_cons_succ]
                            refine wpAnyH_take (i := 5) (v := (.slice (some ⟨gl, ol, none⟩) l.length lc)) rfl (by kernel_rfl) (by kernel_rfl) (by kernel_rfl) (fun _ _ _ h => h) (Or.inl ⟨by rfl, fun W hS => by go_simp⟩) hH ?_
                            simp only [Act.put, List.getElem_toArray, List.getElem_cons_succ, List.getElem_cons_zero, List.setIfInBounds_toArray, List.set_cons_zero, List.set_cons_succ]
                            refine wpAnyH_take (i := 6) (v := (.int .i64 jj)) rfl (by kernel_rfl) (by kernel_rfl) (by kernel_rfl) (fun _ _ _ h => h) (Or.inl ⟨by rfl, fun W hS => by go_simp⟩) hH ?_
                            simp only [Act.put, List.getElem_toArray, List.getElem_cons_succ, List.getElem_cons_zero, List.setIfInBounds_toArray, List.set_cons_zero, List.set_cons_succ]
                            refine wpAnyH_take (i := 7) (v := (.pointer (some ⟨gl, ol + jj * 39, none⟩))) rfl (by kernel_rfl) (by kernel_rfl) (by kernel_rfl) (fun _ _ _ h => h) (Or.inl ⟨by rfl, fun W hS => by go_simp⟩) hH ?_
                            simp only [Act.put, List.getElem_toArray, List.getElem_cons_succ, List.getElem_cons_zero, List.setIfInBounds_toArray, List.set_cons_zero, List.set_cons_succ]
                            refine wpAnyH_take (i := 8) (v := (.pointer (some ⟨gl, ol + jj * 39 + 4, none⟩))) rfl (by kernel_rfl) (by kernel_rfl) (by kernel_rfl) (fun _ _ _ h => h) (Or.inl ⟨by rfl, fun W hS => by go_simp⟩) hH ?_
                            simp only [Act.put, List.getElem_toArray, List.getElem_cons_succ, List.getElem_cons_zero, List.setIfInBounds_toArray, List.set_cons_zero, List.set_cons_succ]
                            refine wpAnyH_take (i := 9) (v := (.agg (Lib.byteCells (blkAt l jj)).toArray)) rfl (by kernel_rfl) (by kernel_rfl) (by kernel_rfl) (fun _ _ _ h => h) (yieldsIf_load_mid (by rfl) 25 _ rfl gl (ol + jj * 39 + 4) rfl (Lib.byteCells (blkAt l jj)) _ (fun W h => h.1) Tryd.underlying25 rfl (sizeH _ (by rw [Lib.byteCells_length, L2.out]))) hH ?_
                            simp only [Act.put, List.getElem_toArray, List.getElem_cons_succ, List.getElem_cons_zero, List.setIfInBounds_toArray, List.set_cons_zero, List.set_cons_succ]
                            refine wpAnyH_take (i := 10) (v := (.agg (Lib.byteCells x).toArray)) rfl (by kernel_rfl) (by kernel_rfl) (by kernel_rfl) (fun _ _ _ h => h) (yieldsIf_load_mid (by rfl) 25 _ rfl e 0 rfl (Lib.byteCells x) _ (fun W h => h.2) Tryd.underlying25 rfl (sizeH _ (by rw [Lib.byteCells_length, hxl.out]))) hH ?_
                            simp only [Act.put, List.getElem_toArray, List.getElem_cons_succ, List.getElem_cons_zero, List.setIfInBounds_toArray, List.set_cons_zero, List.set_cons_succ]
                            refine wpAnyH_take (i := 11) (v := (.bool eb)) rfl (by kernel_rfl) (by kernel_rfl) (by kernel_rfl) (fun _ _ _ h => h) (yieldsIf_eql_flat (by rfl) 25 _ _ _ (by rfl) (Lib.byteCells (blkAt l jj)) (Lib.byteCells x) kHash (by rfl) (by rfl) hash_flat (hash_fits _ L2.out) (hash_fits _ hxl.out) rfl (by kernel_rfl) HEb.out) hH ?_
                            simp only [Act.put, List.getElem_toArray, List.getElem_cons_succ, List.getElem_cons_zero, List.setIfInBounds_toArray, List.set_cons_zero, List.set_cons_succ]
                            refine wpAnyH_take (i := 12) (v := (.bool eb)) rfl (by kernel_rfl) (by kernel_rfl) (by kernel_rfl) (fun _ _ _ h => h) (Or.inl ⟨by rfl, fun W hS => by go_simp⟩) hH ?_
                            simp only [Act.put, List.getElem_toArray, List.getElem_cons_succ, List.getElem_cons_zero, List.setIfInBounds_toArray, List.set_cons_zero, List.set_cons_succ]
                            refine wpAnyH_take (i := 13) (v := (.bool false)) rfl (by kernel_rfl) (by kernel_rfl) (by kernel_rfl) (fun _ _ _ h => h) (Or.inl ⟨by rfl, fun W hS => by go_simp⟩) hH ?_
                            simp only [Act.put, List.getElem_toArray, List.getElem_cons_succ, List.getElem_cons_zero, List.setIfInBounds_toArray, List.set_cons_zero, List.set_cons_succ]
                            refine wpAnyH_done (by kernel_rfl) ?_ _
                            go_wp2
                            go_meet
                            case rel => exact ⟨by rw [hokv], by rw [hokv], by rw [hokv], rfl, Lib.grownBy_trans G10.out (dr_grown _ 1)⟩
                        obtain ⟨hu9, hu12, hu86, hu137, g11⟩ := hcut
                        subst hu9 hu12 hu86 hu137
                        have G11 := Lib.hid g11
                        clear g11 HX HE
                        go_wp2_with fail
                        exact ⟨⟨jj + 1, by omega, by go_num, by rw [ES.out], G11.out⟩, by simp [intOf]; omega⟩
                · obtain rfl : kk = k + 1 := by omega
                  have TLi := Lib.hid (TL9.out.grown Hgi.out); have Ci := Lib.hid (C9.out.grown Hgi.out (by simp)); have Gi := Lib.hid (Lib.grownBy_trans G9.out Hgi.out)
                  have CAll := AllT HOK'.out TLi.out
                  rw [sumB_all HOK'.out l (k + 1) HCov.out]
                  obtain ⟨al, hal⟩ : ∃ x, T'.all = x := ⟨_, rfl⟩
                  rw [hal] at CAll ⊢
                  have CAll := Lib.hid CAll
                  have CAny := AnyT HOK'.out TLi.out
                  rw [hal, HSet'.out, HTo.out] at CAny
                  obtain ⟨tb, htb⟩ : ∃ b, twoB al tot = b := ⟨_, rfl⟩
                  rw [htb] at CAny
                  have CAny := Lib.hid CAny; have HTb := Lib.hid htb
                  clear hal htb
                  go_wp2_with fail
                  refine CAll.out.mono ?_
                  rintro e20 w20 ⟨rfl, rfl⟩
                  go_wp2_with fail
                  refine CAny.out.mono ?_
                  rintro e21 w21 ⟨rfl, g21⟩
                  have TLj := Lib.hid (TLi.out.grown g21); have Cj := Lib.hid (Ci.out.grown g21 (by simp)); have Gj := Lib.hid (Lib.grownBy_trans Gi.out g21)
                  clear g21 CAll CAny
                  go_wp2_with fail
                  refine (Two_ok al tot w21).mono ?_
                  rintro e22 w22 ⟨rfl, rfl⟩
                  rw [HTb.out]
                  go_wp2_with fail
                  exact ⟨⟨k + 1, tv2, by omega, by omega, by go_num, by rw [HT'.out, HOkw.out], Gj.out, by rw [HT'.out]; exact TLj.out, by rw [HT'.out]; exact Cj.out, Tv5.out⟩, by simp [intOf]; omega⟩
            · obtain rfl : k = 30 := by omega
              go_wp2_with fail
              refine (alive9_ok wr (HR.out.grown Hg.out (by simp))).mono ?_
              rintro e w9 ⟨rfl, g9⟩
              have G9 := Lib.hid (Lib.grownBy_trans Hg.out g9)
              clear g9
              go_wp2_with fail
              go_ret
              exact ⟨rfl, below_g G9.out⟩
          · obtain rfl : k = l.length := by omega
            go_wp2_with fail
            refine (alive9_ok wr (HR.out.grown Hg.out (by simp))).mono ?_
            rintro e w9 ⟨rfl, g9⟩
            have G9 := Lib.hid (Lib.grownBy_trans Hg.out g9)
            clear g9
            go_wp2_with fail
            go_ret
            exact ⟨rfl, below_g G9.out⟩

end Go.Proofs.YtfnginmoiecgnaaDoor
