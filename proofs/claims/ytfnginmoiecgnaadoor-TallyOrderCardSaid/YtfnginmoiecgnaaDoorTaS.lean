/- Walk: nunciolaw09.TallySigns. -/
import Derived.Test.YtfnginmoiecgnaaDoorTl2
namespace Go.Proofs.YtfnginmoiecgnaaDoor
open Go.RowKit
open Go.Maps (Keyed)
set_option maxRecDepth 100000

theorem signL_wf (x : Nat) (v : VoteD) (hv : v.wf) : (signL x v).1.wf := by
  unfold signL
  split
  · split
    · exact sign_wf x v _ hv
    · exact zeroV_wf
  · exact zeroV_wf

set_option maxHeartbeats 8000000 in
theorem TallySigns_any (x : Nat) (v : VoteD) (n0 n1 : Int) (w : World) (hx : x < 18446744073709551616) (hv : v.wf) (hc : v.chain.size ≤ 140737488351232) (hR : RowAt w 0 0 (wCells rootsL)) :
    Calls Tryd.prog 3 #[.int .u64 (x : Int), .agg v.cells.toArray, .agg #[.int .i64 n0, .int .i64 n1]] w fun e w' => e = .returned (.bool true) ∧ Below w.heap.size w w' := by
  have HX := Lib.hid hx; have HV := Lib.hid hv; have HR := Lib.hid hR; have HCh := Lib.hid hc
  have ha := signL_wf x v hv
  obtain ⟨a, hqa⟩ : ∃ a, (signL x v).1 = a := ⟨_, rfl⟩
  obtain ⟨c, hqc⟩ : ∃ c, (signL x v).2 = c := ⟨_, rfl⟩
  have HS := Lib.hid (fun W (h : RowAt W 0 0 (wCells rootsL)) => TSign_ok x v W hx hv h)
  have HT := Lib.hid (fun W => RTSign_ok x v W hx hv hc)
  rw [hqa] at ha
  rw [hqa, hqc] at HS HT
  have HA := Lib.hid ha; have hal := Lib.hid (a.cells_length ha)
  clear hv hR hx hc ha hqa hqc
  go_enter Tryd.func3, Tryd.ntmps3
  go_wp2_with (first | (refine wpList_box_as rfl 29 _ rfl v.cells rfl ?_))
  intro w1 b1 g1 s1
  obtain ⟨b, hb⟩ : ∃ b, w.heap.size = b := ⟨_, rfl⟩
  rw [hb] at b1 s1 ⊢
  have HB := Lib.hid hb
  have B1 := Lib.hid b1; have G1 := Lib.hid g1; have S1 := Lib.hid s1
  clear b1 g1 s1 hb
  go_wp2_with (first | (refine wpList_box_as rfl 30 _ rfl [.int .i64 n0, .int .i64 n1] rfl ?_) | (refine wpList_load_part rfl 29 _ rfl b 0 rfl v.cells _ B1.out.row Tryd.underlying29 rfl (v.size HV.out) ?_))
  intro w2 b2 g2 s2
  rw [S1.out] at b2 s2 ⊢
  have N2 := Lib.hid b2; have B2 := Lib.hid (B1.out.grown g2 (by simp)); have G2 := Lib.hid (Lib.grownBy_trans G1.out g2); have S2 := Lib.hid s2
  clear b2 g2 s2 B1 G1 S1
  go_wp2_with (first | (refine wpList_load_part rfl 29 _ rfl b 0 rfl v.cells _ B2.out.row Tryd.underlying29 rfl (v.size HV.out) ?_))
  refine (HS.out w2 (HR.out.grown G2.out (by simp))).mono ?_
  rintro e w3 ⟨rfl, g3⟩
  have B3 := Lib.hid (B2.out.grown g3 (by simp)); have N3 := Lib.hid (N2.out.grown g3 (by simp)); have G3 := Lib.hid (Lib.grownBy_trans G2.out g3); have S3 := Lib.hid (show b + 2 ≤ w3.heap.size by have := S2.out; have := g3.size; omega)
  clear g3 B2 G2 N2 S2
  go_wp2_with (refine wpList_alloc_as rfl 29 rfl ZVote ZVote_info ?_)
  intro w4 b4 g4 s4
  obtain ⟨p, hp⟩ : ∃ b, w3.heap.size = b := ⟨_, rfl⟩
  rw [hp] at b4 s4 ⊢
  have HP := Lib.hid (show b + 2 ≤ p by rw [← hp]; exact S3.out)
  have P4 := Lib.hid b4; have B4 := Lib.hid (B3.out.grown g4 (by simp)); have N4 := Lib.hid (N3.out.grown g4 (by simp)); have G4 := Lib.hid (Lib.grownBy_trans G3.out g4); have S4 := Lib.hid s4
  clear b4 g4 s4 hp B3 N3 G3 S3
  go_wp2_with (refine wpList_store_whole rfl 29 _ _ rfl p rfl a.cells ZVote 29 rfl P4.out (by rw [hal.out]; rfl) (VoteD_one _) (sizeVote _ hal.out) ?_)
  intro w5 g5 s5 b5
  have P5 := Lib.hid b5; have B5 := Lib.hid (B4.out.grown g5 (by have := HP.out; simp; omega)); have N5 := Lib.hid (N4.out.grown g5 (by have := HP.out; simp; omega)); have G5 := Lib.hid (grown_new G4.out g5 (by have := HP.out; have := HB.out; omega)); have S5 := Lib.hid (s5.trans S4.out)
  clear b5 g5 s5 B4 N4 P4 G4 S4
  go_wp2_with (first | (refine wpList_load_part rfl 29 _ rfl b 0 rfl v.cells _ B5.out.row Tryd.underlying29 rfl (v.size HV.out) ?_))
  refine (HT.out w5).mono ?_
  rintro e w6 ⟨rfl, g6⟩
  have B6 := Lib.hid (B5.out.grown g6 (by simp)); have N6 := Lib.hid (N5.out.grown g6 (by simp)); have P6 := Lib.hid (P5.out.grown g6 (by simp)); have G6 := Lib.hid (Lib.grownBy_trans G5.out g6); have S6 := Lib.hid (show p + 1 ≤ w6.heap.size by have := S5.out; have := g6.size; omega)
  clear g6 B5 G5 N5 P5 S5
  go_wp2_with (refine wpList_alloc_as rfl 29 rfl ZVote ZVote_info ?_)
  intro w7 b7 g7 s7
  obtain ⟨q, hq⟩ : ∃ b, w6.heap.size = b := ⟨_, rfl⟩
  rw [hq] at b7 s7 ⊢
  have HQ := Lib.hid (show p + 1 ≤ q by rw [← hq]; exact S6.out)
  have Q7 := Lib.hid b7; have B7 := Lib.hid (B6.out.grown g7 (by simp)); have N7 := Lib.hid (N6.out.grown g7 (by simp)); have P7 := Lib.hid (P6.out.grown g7 (by simp)); have G7 := Lib.hid (Lib.grownBy_trans G6.out g7)
  clear b7 g7 s7 hq B6 N6 P6 G6 S6
  go_wp2_with (refine wpList_store_whole rfl 29 _ _ rfl q rfl a.cells ZVote 29 rfl Q7.out (by rw [hal.out]; rfl) (VoteD_one _) (sizeVote _ hal.out) ?_)
  intro w8 g8 s8 b8
  have Q8 := Lib.hid b8; have B8 := Lib.hid (B7.out.grown g8 (by have := HP.out; have := HQ.out; simp; omega)); have N8 := Lib.hid (N7.out.grown g8 (by have := HP.out; have := HQ.out; simp; omega)); have P8 := Lib.hid (P7.out.grown g8 (by have := HQ.out; simp; omega)); have G8 := Lib.hid (grown_new G7.out g8 (by have := HP.out; have := HB.out; have := HQ.out; omega))
  clear b8 g8 s8 B7 N7 P7 Q7 G7
  go_upto_region 3 with (fail)
  have KF := Lib.hid (show ∀ W, w8.grownBy W none → RowAt W p 0 a.cells ∧ RowAt W q 0 a.cells ∧ RowAt W b 0 v.cells ∧ W.cell? ⟨b + 1, 0, none⟩ = some (.int .i64 n0) ∧ W.cell? ⟨b + 1, 1, none⟩ = some (.int .i64 n1) from fun W g =>
    ⟨(P8.out.grown g (by simp)).row, (Q8.out.grown g (by simp)).row, (B8.out.grown g (by simp)).row, (N8.out.grown g (by simp)).row 0 _ rfl, (N8.out.grown g (by simp)).row 1 _ rfl⟩)
  have k0 := Lib.hid (dr_grown w8 1)
  have KR := Lib.hid (show ∀ W, w8.grownBy W none → RowAt W 0 0 (wCells rootsL) from fun W g => HR.out.grown (Lib.grownBy_trans G8.out g) (by simp))
  have hvv : VEq a.cells a.cells = true := (VoteD.eq_iff a a HA.out HA.out).2 rfl
  have HVV := Lib.hid hvv
  obtain ⟨sb, hsb⟩ : ∃ s, signedB v = s := ⟨_, rfl⟩
  obtain ⟨t2, ht2⟩ : ∃ s, twoB n0 n1 = s := ⟨_, rfl⟩
  obtain ⟨t1, ht1⟩ : ∃ s, oneB n0 n1 = s := ⟨_, rfl⟩
  have HSb := Lib.hid hsb; have HT2 := Lib.hid ht2; have HT1 := Lib.hid ht1
  clear hvv hsb ht2 ht1
  go_cut [6] from 23 (fun s6 w' => s6 = .bool true ∧ w8.grownBy w' none)
  case first =>
    refine wp_region_held_drew (S := fun W => RowAt W p 0 a.cells ∧ RowAt W q 0 a.cells ∧ RowAt W b 0 v.cells ∧ W.cell? ⟨b + 1, 0, none⟩ = some (.int .i64 n0) ∧ W.cell? ⟨b + 1, 1, none⟩ = some (.int .i64 n1)) (by kernel_rfl) (KF.out _ k0.out) (fun hH => ?_)
    refine wpAnyH_ready (rs := [0]) (by kernel_rfl) (by simp) ?_
    refine AllReadyH.cons rfl (fun K hK => ?_) AllReadyH.nil
    refine step_wantedG (by rfl) (wp_call 11 _ _ (by rfl) (enters Tryd.func11 (by kernel_rfl) rfl) (by rfl) (alive9_ok _ (KR.out _ k0.out)) ?_)
    rintro e u1 ⟨rfl, g1⟩
    refine ⟨_, rfl, ?_⟩
    have k1 := Lib.hid (Lib.grownBy_trans k0.out g1)
    clear g1
    simp only [Act.put, List.getElem_toArray, List.getElem_cons_zero, List.setIfInBounds_toArray, List.set_cons_zero, List.set_cons_succ]
    refine hK.out _ _ (KF.out _ k1.out) (fun hH => ?_)
    clear hK K
    refine wpAnyH_take (i := 1) (v := (.bool true)) rfl (by kernel_rfl) (by kernel_rfl) (by kernel_rfl) (fun _ _ _ h => h) (Or.inl ⟨by rfl, fun W hS => by go_simp⟩) hH ?_
    simp only [Act.put, List.getElem_toArray, List.getElem_cons_succ, List.getElem_cons_zero, List.setIfInBounds_toArray, List.set_cons_zero, List.set_cons_succ]
    refine wpAnyH_take (i := 2) (v := (.agg a.cells.toArray)) rfl (by kernel_rfl) (by kernel_rfl) (by kernel_rfl) (fun _ _ _ h => h) (yieldsIf_load_mid (by rfl) 29 _ rfl p 0 rfl a.cells _ (fun W h => h.1) Tryd.underlying29 rfl (a.size HA.out)) hH ?_
    simp only [Act.put, List.getElem_toArray, List.getElem_cons_succ, List.getElem_cons_zero, List.setIfInBounds_toArray, List.set_cons_zero, List.set_cons_succ]
    refine wpAnyH_take (i := 3) (v := (.agg a.cells.toArray)) rfl (by kernel_rfl) (by kernel_rfl) (by kernel_rfl) (fun _ _ _ h => h) (yieldsIf_load_mid (by rfl) 29 _ rfl q 0 rfl a.cells _ (fun W h => h.2.1) Tryd.underlying29 rfl (a.size HA.out)) hH ?_
    simp only [Act.put, List.getElem_toArray, List.getElem_cons_succ, List.getElem_cons_zero, List.setIfInBounds_toArray, List.set_cons_zero, List.set_cons_succ]
    refine wpAnyH_take (i := 4) (v := (.bool true)) rfl (by kernel_rfl) (by kernel_rfl) (by kernel_rfl) (fun _ _ _ h => h) (yieldsIf_eql_flat (by rfl) 29 _ _ _ (by rfl) a.cells a.cells voteK (by rfl) (by rfl) vote_flat (a.fits HA.out) (a.fits HA.out) rfl (by kernel_rfl) HVV.out) hH ?_
    simp only [Act.put, List.getElem_toArray, List.getElem_cons_succ, List.getElem_cons_zero, List.setIfInBounds_toArray, List.set_cons_zero, List.set_cons_succ]
    refine wpAnyH_take (i := 5) (v := (.bool true)) rfl (by kernel_rfl) (by kernel_rfl) (by kernel_rfl) (fun _ _ _ h => h) (Or.inl ⟨by rfl, fun W hS => by go_simp⟩) hH ?_
    simp only [Act.put, List.getElem_toArray, List.getElem_cons_succ, List.getElem_cons_zero, List.setIfInBounds_toArray, List.set_cons_zero, List.set_cons_succ]
    refine wpAnyH_take (i := 6) (v := (.bool true)) rfl (by kernel_rfl) (by kernel_rfl) (by kernel_rfl) (fun _ _ _ h => h) (Or.inl ⟨by rfl, fun W hS => by go_simp⟩) hH ?_
    simp only [Act.put, List.getElem_toArray, List.getElem_cons_succ, List.getElem_cons_zero, List.setIfInBounds_toArray, List.set_cons_zero, List.set_cons_succ]
    refine wpAnyH_take (i := 7) (v := (.int .i64 c)) rfl (by kernel_rfl) (by kernel_rfl) (by kernel_rfl) (fun _ _ _ h => h) (Or.inl ⟨by rfl, fun W hS => by go_simp⟩) hH ?_
    simp only [Act.put, List.getElem_toArray, List.getElem_cons_succ, List.getElem_cons_zero, List.setIfInBounds_toArray, List.set_cons_zero, List.set_cons_succ]
    refine wpAnyH_take (i := 8) (v := (.int .i64 c)) rfl (by kernel_rfl) (by kernel_rfl) (by kernel_rfl) (fun _ _ _ h => h) (Or.inl ⟨by rfl, fun W hS => by go_simp⟩) hH ?_
    simp only [Act.put, List.getElem_toArray, List.getElem_cons_succ, List.getElem_cons_zero, List.setIfInBounds_toArray, List.set_cons_zero, List.set_cons_succ]
    refine wpAnyH_take (i := 9) (v := (.bool true)) rfl (by kernel_rfl) (by kernel_rfl) (by kernel_rfl) (fun _ _ _ h => h) (Or.inl ⟨by rfl, fun W hS => by go_simp⟩) hH ?_
    simp only [Act.put, List.getElem_toArray, List.getElem_cons_succ, List.getElem_cons_zero, List.setIfInBounds_toArray, List.set_cons_zero, List.set_cons_succ]
    refine wpAnyH_take (i := 10) (v := (.bool true)) rfl (by kernel_rfl) (by kernel_rfl) (by kernel_rfl) (fun _ _ _ h => h) (Or.inl ⟨by rfl, fun W hS => by go_simp⟩) hH ?_
    simp only [Act.put, List.getElem_toArray, List.getElem_cons_succ, List.getElem_cons_zero, List.setIfInBounds_toArray, List.set_cons_zero, List.set_cons_succ]
    refine wpAnyH_take (i := 11) (v := (.bool true)) rfl (by kernel_rfl) (by kernel_rfl) (by kernel_rfl) (fun _ _ _ h => h) (Or.inl ⟨by rfl, fun W hS => by go_simp⟩) hH ?_
    simp only [Act.put, List.getElem_toArray, List.getElem_cons_succ, List.getElem_cons_zero, List.setIfInBounds_toArray, List.set_cons_zero, List.set_cons_succ]
    refine wpAnyH_take (i := 12) (v := (.agg v.cells.toArray)) rfl (by kernel_rfl) (by kernel_rfl) (by kernel_rfl) (fun _ _ _ h => h) (yieldsIf_load_mid (by rfl) 29 _ rfl b 0 rfl v.cells _ (fun W h => h.2.2.1) Tryd.underlying29 rfl (v.size HV.out)) hH ?_
    simp only [Act.put, List.getElem_toArray, List.getElem_cons_succ, List.getElem_cons_zero, List.setIfInBounds_toArray, List.set_cons_zero, List.set_cons_succ]
    have CS := Signed_ok v u1 HV.out (KR.out _ k1.out)
    rw [HSb.out] at CS
    have CS := Lib.hid CS
    refine wpAnyH_take (i := 14) (v := (.agg v.cells.toArray)) rfl (by kernel_rfl) (by kernel_rfl) (by kernel_rfl) (fun _ _ _ h => h) (yieldsIf_load_mid (by rfl) 29 _ rfl b 0 rfl v.cells _ (fun W h => h.2.2.1) Tryd.underlying29 rfl (v.size HV.out)) hH ?_
    simp only [Act.put, List.getElem_toArray, List.getElem_cons_succ, List.getElem_cons_zero, List.setIfInBounds_toArray, List.set_cons_zero, List.set_cons_succ]
    refine wpAnyH_ready (rs := [13]) (by kernel_rfl) (by simp) ?_
    refine AllReadyH.cons rfl (fun K hK => ?_) AllReadyH.nil
    refine step_wantedG (by rfl) (wp_call 12 _ _ (by rfl) (enters Tryd.func12 (by kernel_rfl) rfl) (by rfl) (CS.out) ?_)
    rintro e u2 ⟨rfl, g2⟩
    refine ⟨_, rfl, ?_⟩
    have k2 := Lib.hid (Lib.grownBy_trans k1.out g2)
    clear g2
    simp only [Act.put, List.getElem_toArray, List.getElem_cons_succ, List.getElem_cons_zero, List.setIfInBounds_toArray, List.set_cons_zero, List.set_cons_succ]
    refine hK.out _ _ (KF.out _ k2.out) (fun hH => ?_)
    clear hK K
    have CR := RSigned_ok v u2 HV.out HCh.out
    rw [HSb.out] at CR
    have CR := Lib.hid CR
    refine wpAnyH_ready (rs := [15]) (by kernel_rfl) (by simp) ?_
    refine AllReadyH.cons rfl (fun K hK => ?_) AllReadyH.nil
    refine step_wantedG (by rfl) (wp_call 13 _ _ (by rfl) (enters Tryd.func13 (by kernel_rfl) rfl) (by rfl) (CR.out) ?_)
    rintro e u3 ⟨rfl, g3⟩
    refine ⟨_, rfl, ?_⟩
    have k3 := Lib.hid (Lib.grownBy_trans k2.out g3)
    clear g3
    simp only [Act.put, List.getElem_toArray, List.getElem_cons_succ, List.getElem_cons_zero, List.setIfInBounds_toArray, List.set_cons_zero, List.set_cons_succ]
    refine hK.out _ _ (KF.out _ k3.out) (fun hH => ?_)
    clear hK K
    refine wpAnyH_take (i := 16) (v := (.bool true)) rfl (by kernel_rfl) (by kernel_rfl) (by kernel_rfl) (fun _ _ _ h => h) (Or.inl ⟨by rfl, fun W hS => by go_simp⟩) hH ?_
    simp only [Act.put, List.getElem_toArray, List.getElem_cons_succ, List.getElem_cons_zero, List.setIfInBounds_toArray, List.set_cons_zero, List.set_cons_succ]
    refine wpAnyH_take (i := 17) (v := (.bool true)) rfl (by kernel_rfl) (by kernel_rfl) (by kernel_rfl) (fun _ _ _ h => h) (Or.inl ⟨by rfl, fun W hS => by go_simp⟩) hH ?_
    simp only [Act.put, List.getElem_toArray, List.getElem_cons_succ, List.getElem_cons_zero, List.setIfInBounds_toArray, List.set_cons_zero, List.set_cons_succ]
    refine wpAnyH_take (i := 18) (v := (.bool true)) rfl (by kernel_rfl) (by kernel_rfl) (by kernel_rfl) (fun _ _ _ h => h) (Or.inl ⟨by rfl, fun W hS => by go_simp⟩) hH ?_
    simp only [Act.put, List.getElem_toArray, List.getElem_cons_succ, List.getElem_cons_zero, List.setIfInBounds_toArray, List.set_cons_zero, List.set_cons_succ]
    refine wpAnyH_take (i := 19) (v := (.pointer (some ⟨b + 1, 0, none⟩))) rfl (by kernel_rfl) (by kernel_rfl) (by kernel_rfl) (fun _ _ _ h => h) (Or.inl ⟨by rfl, fun W hS => by go_simp⟩) hH ?_
    simp only [Act.put, List.getElem_toArray, List.getElem_cons_succ, List.getElem_cons_zero, List.setIfInBounds_toArray, List.set_cons_zero, List.set_cons_succ]
    refine wpAnyH_take (i := 20) (v := (.int .i64 n0)) rfl (by kernel_rfl) (by kernel_rfl) (by kernel_rfl) (fun _ _ _ h => h) (Or.inl ⟨by rfl, fun W hS => by have c := hS.2.2.2.1; go_simp⟩) hH ?_
    simp only [Act.put, List.getElem_toArray, List.getElem_cons_succ, List.getElem_cons_zero, List.setIfInBounds_toArray, List.set_cons_zero, List.set_cons_succ]
    refine wpAnyH_take (i := 21) (v := (.pointer (some ⟨b + 1, 1, none⟩))) rfl (by kernel_rfl) (by kernel_rfl) (by kernel_rfl) (fun _ _ _ h => h) (Or.inl ⟨by rfl, fun W hS => by go_simp⟩) hH ?_
    simp only [Act.put, List.getElem_toArray, List.getElem_cons_succ, List.getElem_cons_zero, List.setIfInBounds_toArray, List.set_cons_zero, List.set_cons_succ]
    refine wpAnyH_take (i := 22) (v := (.int .i64 n1)) rfl (by kernel_rfl) (by kernel_rfl) (by kernel_rfl) (fun _ _ _ h => h) (Or.inl ⟨by rfl, fun W hS => by have c := hS.2.2.2.2; go_simp⟩) hH ?_
    simp only [Act.put, List.getElem_toArray, List.getElem_cons_succ, List.getElem_cons_zero, List.setIfInBounds_toArray, List.set_cons_zero, List.set_cons_succ]
    refine wpAnyH_take (i := 24) (v := (.pointer (some ⟨b + 1, 0, none⟩))) rfl (by kernel_rfl) (by kernel_rfl) (by kernel_rfl) (fun _ _ _ h => h) (Or.inl ⟨by rfl, fun W hS => by go_simp⟩) hH ?_
    simp only [Act.put, List.getElem_toArray, List.getElem_cons_succ, List.getElem_cons_zero, List.setIfInBounds_toArray, List.set_cons_zero, List.set_cons_succ]
    refine wpAnyH_take (i := 25) (v := (.int .i64 n0)) rfl (by kernel_rfl) (by kernel_rfl) (by kernel_rfl) (fun _ _ _ h => h) (Or.inl ⟨by rfl, fun W hS => by have c := hS.2.2.2.1; go_simp⟩) hH ?_
    simp only [Act.put, List.getElem_toArray, List.getElem_cons_succ, List.getElem_cons_zero, List.setIfInBounds_toArray, List.set_cons_zero, List.set_cons_succ]
    refine wpAnyH_take (i := 26) (v := (.pointer (some ⟨b + 1, 1, none⟩))) rfl (by kernel_rfl) (by kernel_rfl) (by kernel_rfl) (fun _ _ _ h => h) (Or.inl ⟨by rfl, fun W hS => by go_simp⟩) hH ?_
    simp only [Act.put, List.getElem_toArray, List.getElem_cons_succ, List.getElem_cons_zero, List.setIfInBounds_toArray, List.set_cons_zero, List.set_cons_succ]
    refine wpAnyH_take (i := 27) (v := (.int .i64 n1)) rfl (by kernel_rfl) (by kernel_rfl) (by kernel_rfl) (fun _ _ _ h => h) (Or.inl ⟨by rfl, fun W hS => by have c := hS.2.2.2.2; go_simp⟩) hH ?_
    simp only [Act.put, List.getElem_toArray, List.getElem_cons_succ, List.getElem_cons_zero, List.setIfInBounds_toArray, List.set_cons_zero, List.set_cons_succ]
    have CA4 := Two_ok n0 n1 u3
    have CB4 := RTwo_ok n0 n1 u3
    rw [HT2.out] at CA4 CB4
    have CA4 := Lib.hid CA4; have CB4 := Lib.hid CB4
    refine wpAnyH_ready (rs := [23]) (by kernel_rfl) (by simp) ?_
    refine AllReadyH.cons rfl (fun K hK => ?_) AllReadyH.nil
    refine step_wantedG (by rfl) (wp_call 14 _ _ (by rfl) (enters Tryd.func14 (by kernel_rfl) rfl) (by rfl) (CA4.out) ?_)
    rintro e u4 ⟨rfl, rfl⟩
    refine ⟨_, rfl, ?_⟩
    have k4 := k3
    simp only [Act.put, List.getElem_toArray, List.getElem_cons_succ, List.getElem_cons_zero, List.setIfInBounds_toArray, List.set_cons_zero, List.set_cons_succ]
    refine hK.out _ _ (KF.out _ k4.out) (fun hH => ?_)
    clear hK K
    refine wpAnyH_ready (rs := [28]) (by kernel_rfl) (by simp) ?_
    refine AllReadyH.cons rfl (fun K hK => ?_) AllReadyH.nil
    refine step_wantedG (by rfl) (wp_call 15 _ _ (by rfl) (enters Tryd.func15 (by kernel_rfl) rfl) (by rfl) (CB4.out) ?_)
    rintro e u5 ⟨rfl, rfl⟩
    refine ⟨_, rfl, ?_⟩
    have k5 := k4
    simp only [Act.put, List.getElem_toArray, List.getElem_cons_succ, List.getElem_cons_zero, List.setIfInBounds_toArray, List.set_cons_zero, List.set_cons_succ]
    refine hK.out _ _ (KF.out _ k5.out) (fun hH => ?_)
    clear hK K
    refine wpAnyH_take (i := 29) (v := (.bool true)) rfl (by kernel_rfl) (by kernel_rfl) (by kernel_rfl) (fun _ _ _ h => h) (Or.inl ⟨by rfl, fun W hS => by go_simp⟩) hH ?_
    simp only [Act.put, List.getElem_toArray, List.getElem_cons_succ, List.getElem_cons_zero, List.setIfInBounds_toArray, List.set_cons_zero, List.set_cons_succ]
    refine wpAnyH_take (i := 30) (v := (.bool true)) rfl (by kernel_rfl) (by kernel_rfl) (by kernel_rfl) (fun _ _ _ h => h) (Or.inl ⟨by rfl, fun W hS => by go_simp⟩) hH ?_
    simp only [Act.put, List.getElem_toArray, List.getElem_cons_succ, List.getElem_cons_zero, List.setIfInBounds_toArray, List.set_cons_zero, List.set_cons_succ]
    refine wpAnyH_take (i := 31) (v := (.bool true)) rfl (by kernel_rfl) (by kernel_rfl) (by kernel_rfl) (fun _ _ _ h => h) (Or.inl ⟨by rfl, fun W hS => by go_simp⟩) hH ?_
    simp only [Act.put, List.getElem_toArray, List.getElem_cons_succ, List.getElem_cons_zero, List.setIfInBounds_toArray, List.set_cons_zero, List.set_cons_succ]
    refine wpAnyH_take (i := 32) (v := (.pointer (some ⟨b + 1, 0, none⟩))) rfl (by kernel_rfl) (by kernel_rfl) (by kernel_rfl) (fun _ _ _ h => h) (Or.inl ⟨by rfl, fun W hS => by go_simp⟩) hH ?_
    simp only [Act.put, List.getElem_toArray, List.getElem_cons_succ, List.getElem_cons_zero, List.setIfInBounds_toArray, List.set_cons_zero, List.set_cons_succ]
    refine wpAnyH_take (i := 33) (v := (.int .i64 n0)) rfl (by kernel_rfl) (by kernel_rfl) (by kernel_rfl) (fun _ _ _ h => h) (Or.inl ⟨by rfl, fun W hS => by have c := hS.2.2.2.1; go_simp⟩) hH ?_
    simp only [Act.put, List.getElem_toArray, List.getElem_cons_succ, List.getElem_cons_zero, List.setIfInBounds_toArray, List.set_cons_zero, List.set_cons_succ]
    refine wpAnyH_take (i := 34) (v := (.pointer (some ⟨b + 1, 1, none⟩))) rfl (by kernel_rfl) (by kernel_rfl) (by kernel_rfl) (fun _ _ _ h => h) (Or.inl ⟨by rfl, fun W hS => by go_simp⟩) hH ?_
    simp only [Act.put, List.getElem_toArray, List.getElem_cons_succ, List.getElem_cons_zero, List.setIfInBounds_toArray, List.set_cons_zero, List.set_cons_succ]
    refine wpAnyH_take (i := 35) (v := (.int .i64 n1)) rfl (by kernel_rfl) (by kernel_rfl) (by kernel_rfl) (fun _ _ _ h => h) (Or.inl ⟨by rfl, fun W hS => by have c := hS.2.2.2.2; go_simp⟩) hH ?_
    simp only [Act.put, List.getElem_toArray, List.getElem_cons_succ, List.getElem_cons_zero, List.setIfInBounds_toArray, List.set_cons_zero, List.set_cons_succ]
    refine wpAnyH_take (i := 37) (v := (.pointer (some ⟨b + 1, 0, none⟩))) rfl (by kernel_rfl) (by kernel_rfl) (by kernel_rfl) (fun _ _ _ h => h) (Or.inl ⟨by rfl, fun W hS => by go_simp⟩) hH ?_
    simp only [Act.put, List.getElem_toArray, List.getElem_cons_succ, List.getElem_cons_zero, List.setIfInBounds_toArray, List.set_cons_zero, List.set_cons_succ]
    refine wpAnyH_take (i := 38) (v := (.int .i64 n0)) rfl (by kernel_rfl) (by kernel_rfl) (by kernel_rfl) (fun _ _ _ h => h) (Or.inl ⟨by rfl, fun W hS => by have c := hS.2.2.2.1; go_simp⟩) hH ?_
    simp only [Act.put, List.getElem_toArray, List.getElem_cons_succ, List.getElem_cons_zero, List.setIfInBounds_toArray, List.set_cons_zero, List.set_cons_succ]
    refine wpAnyH_take (i := 39) (v := (.pointer (some ⟨b + 1, 1, none⟩))) rfl (by kernel_rfl) (by kernel_rfl) (by kernel_rfl) (fun _ _ _ h => h) (Or.inl ⟨by rfl, fun W hS => by go_simp⟩) hH ?_
    simp only [Act.put, List.getElem_toArray, List.getElem_cons_succ, List.getElem_cons_zero, List.setIfInBounds_toArray, List.set_cons_zero, List.set_cons_succ]
    refine wpAnyH_take (i := 40) (v := (.int .i64 n1)) rfl (by kernel_rfl) (by kernel_rfl) (by kernel_rfl) (fun _ _ _ h => h) (Or.inl ⟨by rfl, fun W hS => by have c := hS.2.2.2.2; go_simp⟩) hH ?_
    simp only [Act.put, List.getElem_toArray, List.getElem_cons_succ, List.getElem_cons_zero, List.setIfInBounds_toArray, List.set_cons_zero, List.set_cons_succ]
    have CA6 := One_ok n0 n1 u3
    have CB6 := ROne_ok n0 n1 u3
    rw [HT1.out] at CA6 CB6
    have CA6 := Lib.hid CA6; have CB6 := Lib.hid CB6
    refine wpAnyH_ready (rs := [36]) (by kernel_rfl) (by simp) ?_
    refine AllReadyH.cons rfl (fun K hK => ?_) AllReadyH.nil
    refine step_wantedG (by rfl) (wp_call 16 _ _ (by rfl) (enters Tryd.func16 (by kernel_rfl) rfl) (by rfl) (CA6.out) ?_)
    rintro e u6 ⟨rfl, rfl⟩
    refine ⟨_, rfl, ?_⟩
    have k6 := k5
    simp only [Act.put, List.getElem_toArray, List.getElem_cons_succ, List.getElem_cons_zero, List.setIfInBounds_toArray, List.set_cons_zero, List.set_cons_succ]
    refine hK.out _ _ (KF.out _ k6.out) (fun hH => ?_)
    clear hK K
    refine wpAnyH_ready (rs := [41]) (by kernel_rfl) (by simp) ?_
    refine AllReadyH.cons rfl (fun K hK => ?_) AllReadyH.nil
    refine step_wantedG (by rfl) (wp_call 17 _ _ (by rfl) (enters Tryd.func17 (by kernel_rfl) rfl) (by rfl) (CB6.out) ?_)
    rintro e u7 ⟨rfl, rfl⟩
    refine ⟨_, rfl, ?_⟩
    have k7 := k6
    simp only [Act.put, List.getElem_toArray, List.getElem_cons_succ, List.getElem_cons_zero, List.setIfInBounds_toArray, List.set_cons_zero, List.set_cons_succ]
    refine hK.out _ _ (KF.out _ k7.out) (fun hH => ?_)
    clear hK K
    refine wpAnyH_take (i := 42) (v := (.bool true)) rfl (by kernel_rfl) (by kernel_rfl) (by kernel_rfl) (fun _ _ _ h => h) (Or.inl ⟨by rfl, fun W hS => by go_simp⟩) hH ?_
    simp only [Act.put, List.getElem_toArray, List.getElem_cons_succ, List.getElem_cons_zero, List.setIfInBounds_toArray, List.set_cons_zero, List.set_cons_succ]
    refine wpAnyH_take (i := 43) (v := (.bool true)) rfl (by kernel_rfl) (by kernel_rfl) (by kernel_rfl) (fun _ _ _ h => h) (Or.inl ⟨by rfl, fun W hS => by go_simp⟩) hH ?_
    simp only [Act.put, List.getElem_toArray, List.getElem_cons_succ, List.getElem_cons_zero, List.setIfInBounds_toArray, List.set_cons_zero, List.set_cons_succ]
    refine wpAnyH_take (i := 44) (v := (.bool true)) rfl (by kernel_rfl) (by kernel_rfl) (by kernel_rfl) (fun _ _ _ h => h) (Or.inl ⟨by rfl, fun W hS => by go_simp⟩) hH ?_
    simp only [Act.put, List.getElem_toArray, List.getElem_cons_succ, List.getElem_cons_zero, List.setIfInBounds_toArray, List.set_cons_zero, List.set_cons_succ]
    refine wpAnyH_done (by kernel_rfl) ?_ _
    go_wp2
    go_meet
    case rel => exact ⟨rfl, k7.out⟩
  obtain ⟨hu, g9⟩ := hcut
  subst hu
  have G9 := Lib.hid (Lib.grownBy_trans G8.out g9)
  clear g9
  go_wp2_with fail
  go_ret
  exact ⟨rfl, below_g G9.out⟩

end Go.Proofs.YtfnginmoiecgnaaDoor
