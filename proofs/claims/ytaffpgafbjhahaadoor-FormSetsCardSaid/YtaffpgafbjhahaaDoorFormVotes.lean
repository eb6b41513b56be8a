/- Walk: nunciolaw06.FormVotes. -/
import Derived.Test.YtaffpgafbjhahaaDoorHsh
import Derived.Test.YtaffpgafbjhahaaDoorRJoin
import Derived.Test.YtaffpgafbjhahaaDoorSame
import Derived.Test.YtaffpgafbjhahaaDoorLaw
namespace Go.Proofs.YtaffpgafbjhahaaDoor
open Go.RowKit
set_option maxRecDepth 100000

theorem EncodeVote_w (v : VoteD) (w : World) (hv : v.wf) : Calls Tryd.prog 28 #[.agg v.cells.toArray] w (Enc (okVote v) (encVote v) w) := by
  cases h : okVote v with
  | true => exact EncodeVote_yes v w hv h
  | false => exact EncodeVote_no v w hv h
theorem SignBytes_w (v : VoteD) (w : World) (hv : v.wf) : Calls Tryd.prog 11 #[.agg v.cells.toArray] w (Enc (okVote v) (encVote v.bare) w) := by
  cases h : okVote v with
  | true => exact SignBytes_yes v w hv h
  | false => exact SignBytes_no v w hv h
theorem two_boxes2 (w : World) (xs ys : List Value) (T U : TypeId) : ∃ W, (w.alloc (.cells xs.toArray T)).alloc (.cells ys.toArray U) = W ∧ Blk W w.heap.size xs T ∧ Blk W (w.heap.size + 1) ys U ∧ w.grownBy W none ∧ W.heap.size = w.heap.size + 2 := by
  refine ⟨_, rfl, (Blk.new w xs T).grown (World.grownBy_alloc _ _ none) (by simp), ?_, Lib.grownBy_trans (World.grownBy_alloc _ _ none) (World.grownBy_alloc _ _ none), by simp⟩
  have := Blk.new (w.alloc (.cells xs.toArray T)) ys U
  rwa [show (w.alloc (.cells xs.toArray T)).heap.size = w.heap.size + 1 by simp] at this

set_option maxHeartbeats 4000000 in
theorem FormVotes_any (v : VoteD) (d : HeaderD) (w : World) (hv : v.wf) (hd : d.wf) (cv : v.chain.size ≤ 140737488351232) (cd : d.chain.size ≤ 140737488351232) (hR : RowAt w 1 0 (wCells rootsL)) :
    Calls Tryd.prog 8 #[.agg v.cells.toArray, .agg d.cells.toArray] w (LawTrue w) := by
  have hcl : d.cells.length = 163 := d.cells_length hd
  obtain ⟨W, hW, B1, B2, hg, hs⟩ := two_boxes2 w v.cells d.cells 29 57
  have HW := Lib.hid hW; have A1 := Lib.hid B1; have A2 := Lib.hid B2; have G := Lib.hid hg
  have Hv := Lib.hid hv; have Hd := Lib.hid hd; have Cv := Lib.hid cv; have Cd := Lib.hid cd; have HR := Lib.hid hR
  clear hW B1 B2 hg hs hv hd cv cd hR
  go_enter Tryd.func8, Tryd.ntmps8
  go_upto_region 1 with (fail)
  rw [HW.out]
  clear HW
  go_wp2_with (refine wpList_load_part rfl 29 _ rfl w.heap.size 0 rfl v.cells _ A1.out.row Tryd.underlying29 rfl (v.size Hv.out) ?_)
  refine (EncodeVote_w v _ Hv.out).mono ?_
  intro e w2 he
  obtain ⟨a1, n1, k1, c1, rfl, E1, g⟩ := EncW.of he
  have E1 := Lib.hid E1
  replace A1 := Lib.hid (A1.out.grown g (by simp)); replace A2 := Lib.hid (A2.out.grown g (by simp)); replace G := Lib.hid (Lib.grownBy_trans G.out g); clear g he
  go_wp2_with (refine wpList_load_part rfl 29 _ rfl w.heap.size 0 rfl v.cells _ A1.out.row Tryd.underlying29 rfl (v.size Hv.out) ?_)
  refine (show Calls Tryd.prog 37 #[.agg v.cells.toArray] w2 _ from RVote v w2 Hv.out Cv.out).mono ?_
  intro e w3 he
  obtain ⟨a2, n2, k2, rfl, E2, g⟩ := RefW.ofOk (l' := encVote v) he (fun _ => rfl)
  have E2 := Lib.hid E2
  replace E1 := Lib.hid (E1.out.gr g); replace A1 := Lib.hid (A1.out.grown g (by simp)); replace A2 := Lib.hid (A2.out.grown g (by simp)); replace G := Lib.hid (Lib.grownBy_trans G.out g); clear g he
  obtain ⟨ov, hov⟩ : ∃ ov, okVote v = ov := ⟨_, rfl⟩
  rw [hov] at E1 E2 ⊢
  have Hov := Lib.hid hov; clear hov
  go_wp2_with (refine wpList_load_part rfl 29 _ rfl w.heap.size 0 rfl v.cells _ A1.out.row Tryd.underlying29 rfl (v.size Hv.out) ?_)
  refine (SignBytes_w v _ Hv.out).mono ?_
  intro e w4 he
  obtain ⟨a3, n3, k3, c3, rfl, E3, g⟩ := EncW.of he
  have E3 := Lib.hid E3
  replace E1 := Lib.hid (E1.out.gr g); replace E2 := Lib.hid (E2.out.gr g); replace A1 := Lib.hid (A1.out.grown g (by simp)); replace A2 := Lib.hid (A2.out.grown g (by simp)); replace G := Lib.hid (Lib.grownBy_trans G.out g); clear g he
  go_wp2_with (refine wpList_load_part rfl 29 _ rfl w.heap.size 0 rfl v.cells _ A1.out.row Tryd.underlying29 rfl (v.size Hv.out) ?_)
  refine (RSign v _ Hv.out Cv.out).mono ?_
  intro e w5 he
  obtain ⟨a4, n4, k4, rfl, E4, g⟩ := RefW.ofOk (l' := encVote v.bare) he (fun _ => rfl)
  have E4 := Lib.hid E4
  replace E1 := Lib.hid (E1.out.gr g); replace E2 := Lib.hid (E2.out.gr g); replace E3 := Lib.hid (E3.out.gr g); replace A2 := Lib.hid (A2.out.grown g (by simp)); replace G := Lib.hid (Lib.grownBy_trans G.out g); clear g he A1
  rw [Hov.out] at E3 E4 ⊢
  go_wp2_with (refine wpList_load_part rfl 57 _ rfl (w.heap.size + 1) 0 rfl d.cells _ A2.out.row Tryd.underlying57 rfl (sizeHeader _ hcl) ?_)
  refine (EncodeHeader_any d _ Hd.out).mono ?_
  intro e w6 he
  obtain ⟨a5, n5, k5, c5, rfl, E5, g⟩ := EncW.of he
  have E5 := Lib.hid E5
  replace E1 := Lib.hid (E1.out.gr g); replace E2 := Lib.hid (E2.out.gr g); replace E3 := Lib.hid (E3.out.gr g); replace E4 := Lib.hid (E4.out.gr g); replace A2 := Lib.hid (A2.out.grown g (by simp)); replace G := Lib.hid (Lib.grownBy_trans G.out g); clear g he
  go_wp2_with (refine wpList_load_part rfl 57 _ rfl (w.heap.size + 1) 0 rfl d.cells _ A2.out.row Tryd.underlying57 rfl (sizeHeader _ hcl) ?_)
  refine (show Calls Tryd.prog 39 #[.agg d.cells.toArray] w6 _ from RHeader d w6 Hd.out Cd.out).mono ?_
  intro e w7 he
  obtain ⟨a6, n6, k6, rfl, E6, g⟩ := RefW.ofOk (l' := encHeader d) he (fun _ => rfl)
  have E6 := Lib.hid E6
  replace E1 := Lib.hid (E1.out.gr g); replace E2 := Lib.hid (E2.out.gr g); replace E3 := Lib.hid (E3.out.gr g); replace E4 := Lib.hid (E4.out.gr g); replace E5 := Lib.hid (E5.out.gr g); replace A2 := Lib.hid (A2.out.grown g (by simp)); replace G := Lib.hid (Lib.grownBy_trans G.out g); clear g he
  have HH := Lib.hid (HeaderHash_any d w7 Hd.out (HR.out.grown G.out (by simp)))
  have hx : (Lib.byteCells (hshL 2 (okHeader d) (encHeader d))).length = 32 := by rw [Lib.byteCells_length]; exact hshL_len _ _ _
  have hy : (Lib.byteCells (blake (2 :: encHeader d))).length = 32 := by rw [Lib.byteCells_length]; exact blake_len _
  obtain ⟨X, hX⟩ : ∃ X, hshL 2 (okHeader d) (encHeader d) = X := ⟨_, rfl⟩
  obtain ⟨Y, hY⟩ : ∃ Y, blake (2 :: encHeader d) = Y := ⟨_, rfl⟩
  rw [hX] at hx; rw [hY] at hy
  have HX := Lib.hid hX; have HY := Lib.hid hY; clear hX hY
  obtain ⟨oh, hoh⟩ : ∃ oh, okHeader d = oh := ⟨_, rfl⟩
  rw [hoh] at E5 E6 ⊢
  have Hoh := Lib.hid hoh; clear hoh
  go_wp2_with (refine wpList_load_part rfl 57 _ rfl (w.heap.size + 1) 0 rfl d.cells _ A2.out.row Tryd.underlying57 rfl (sizeHeader _ hcl) ?_)
  refine HH.out.mono ?_
  rintro e w8 ⟨rfl, g⟩
  rw [HX.out, Hoh.out]
  replace E1 := Lib.hid (E1.out.gr g); replace E2 := Lib.hid (E2.out.gr g); replace E3 := Lib.hid (E3.out.gr g); replace E4 := Lib.hid (E4.out.gr g); replace E5 := Lib.hid (E5.out.gr g); replace E6 := Lib.hid (E6.out.gr g); replace A2 := Lib.hid (A2.out.grown g (by simp)); replace G := Lib.hid (Lib.grownBy_trans G.out g); clear g HH
  obtain ⟨cc, hcc⟩ : ∃ c : Int, (if oh = true then 0 else 61) = c := ⟨_, rfl⟩
  rw [hcc]
  have HC := Lib.hid hcc; clear hcc
  go_wp2_with (refine wpList_alloc_as rfl 24 rfl ZH ZH_info ?_)
  intro w9 k p g
  have S1 := Lib.hid k; have P9 := Lib.hid p
  obtain ⟨sb, hsb⟩ : ∃ n, w8.heap.size = n := ⟨_, rfl⟩
  rw [hsb] at S1 ⊢
  have Hsb := Lib.hid hsb
  clear k p g hsb
  go_wp2_with (first | (refine wpList_store_whole rfl 24 _ _ rfl sb rfl (Lib.byteCells X) ZH 24 rfl S1.out (by rw [hx]; rfl) (Lib.byteCells_one _) (sizeH _ hx) ?_))
  intro w10 p q b
  have K := Lib.hid (grown_new P9.out p (Nat.le_of_eq Hsb.out))
  replace S1 := Lib.hid b
  replace E1 := Lib.hid (E1.out.gr K.out); replace E2 := Lib.hid (E2.out.gr K.out); replace E3 := Lib.hid (E3.out.gr K.out); replace E4 := Lib.hid (E4.out.gr K.out); replace E5 := Lib.hid (E5.out.gr K.out); replace E6 := Lib.hid (E6.out.gr K.out); replace A2 := Lib.hid (A2.out.grown K.out (by simp)); replace G := Lib.hid (Lib.grownBy_trans G.out K.out); clear p q b K P9
  go_wp2_with (refine wpList_load_part rfl 57 _ rfl (w.heap.size + 1) 0 rfl d.cells _ A2.out.row Tryd.underlying57 rfl (sizeHeader _ hcl) ?_)
  refine (RHeaderHash d w10 Hd.out Cd.out).mono ?_
  rintro e w11 ⟨rfl, g⟩
  rw [HY.out, Hoh.out]
  replace E1 := Lib.hid (E1.out.gr g); replace E2 := Lib.hid (E2.out.gr g); replace E3 := Lib.hid (E3.out.gr g); replace E4 := Lib.hid (E4.out.gr g); replace E5 := Lib.hid (E5.out.gr g); replace E6 := Lib.hid (E6.out.gr g); replace S1 := Lib.hid (S1.out.grown g (by simp)); replace G := Lib.hid (Lib.grownBy_trans G.out g); clear g A2
  go_wp2_with (refine wpList_alloc_as rfl 24 rfl ZH ZH_info ?_)
  intro w12 k p g
  have T1 := Lib.hid k; have P9 := Lib.hid p
  have hst := S1.out.lt
  obtain ⟨tb, htb⟩ : ∃ n, w11.heap.size = n := ⟨_, rfl⟩
  rw [htb] at T1 hst ⊢
  have Htb := Lib.hid htb
  have Hwt := Lib.hid (show w.heap.size ≤ tb by rw [← htb]; exact G.out.size)
  have S2 := Lib.hid (S1.out.grown p (by simp))
  clear k p g htb S1
  go_wp2_with (first | (refine wpList_store_whole rfl 24 _ _ rfl tb rfl (Lib.byteCells Y) ZH 24 rfl T1.out (by rw [hy]; rfl) (Lib.byteCells_one _) (sizeH _ hy) ?_))
  intro w13 p q b
  have K := Lib.hid (grown_new P9.out p (Nat.le_of_eq Htb.out))
  replace T1 := Lib.hid b
  have S1 := Lib.hid (S2.out.grown p (by simp; omega))
  replace E1 := Lib.hid (E1.out.gr K.out); replace E2 := Lib.hid (E2.out.gr K.out); replace E3 := Lib.hid (E3.out.gr K.out); replace E4 := Lib.hid (E4.out.gr K.out); replace E5 := Lib.hid (E5.out.gr K.out); replace E6 := Lib.hid (E6.out.gr K.out); replace G := Lib.hid (Lib.grownBy_trans G.out K.out); clear p q b K P9 S2
  go_wp2_with fail
  refine (wanted_any _ _ _ _ _ _ _ _ _ _ E1.out E2.out).mono ?_
  rintro e w' ⟨rfl, rfl⟩
  go_wp2_with fail
  refine (wanted_any _ _ _ _ _ _ _ _ _ _ E3.out E4.out).mono ?_
  rintro e w' ⟨rfl, rfl⟩
  go_wp2_with fail
  refine (wanted_any _ _ _ _ _ _ _ _ _ _ E5.out E6.out).mono ?_
  rintro e w' ⟨rfl, rfl⟩
  clear E1 E2 E3 E4 E5 E6
  cases oh with
  | true =>
    have hXY : X = Y := by rw [← HX.out, ← HY.out, Hoh.out]; rfl
    subst hXY
    have hc0 : c5 = c5 := rfl
    have hcc : cc = 0 := by rw [← HC.out]; rfl
    subst hcc
    have hv := VEq.bytes X X
    rw [show (X == X) = true from by simp] at hv
    have Hveq := Lib.hid hv
    clear hv hc0
    go_wp2_with fail
    refine (alive_any _).mono ?_
    rintro e w14 ⟨rfl, hb⟩
    have S3 := Lib.hid (S1.out.below hb S1.out.lt); have T3 := Lib.hid (T1.out.below hb T1.out.lt); have G3 := Lib.hid (Lib.grownBy_trans G.out (below_grown hb))
    clear hb S1 T1 G
    go_wp2_with (first | (refine wpList_load_part rfl 24 _ rfl sb 0 rfl (Lib.byteCells X) _ S3.out.row Tryd.underlying24 rfl (sizeH _ hx) ?_) | (refine wpList_load_part rfl 24 _ rfl tb 0 rfl (Lib.byteCells X) _ T3.out.row Tryd.underlying24 rfl (sizeH _ hx) ?_) | (refine wpList_eql_flat rfl 24 _ _ _ rfl (Lib.byteCells X) (Lib.byteCells X) kHash rfl rfl hash_flat (hash_fits _ (by rw [Lib.byteCells_length] at hx; exact hx)) (hash_fits _ (by rw [Lib.byteCells_length] at hx; exact hx)) rfl (by kernel_rfl) ?_; rw [Hveq.out]))
    go_ret
    exact ⟨rfl, below_of_grown G3.out⟩
  | false =>
    have hXZ : X = List.replicate 32 0 := by rw [← HX.out, Hoh.out]; rfl
    have hcc : cc = 61 := by rw [← HC.out]; rfl
    subst hcc
    have hv : VEq (Lib.byteCells X) (Lib.byteCells (List.replicate 32 0)) = true := by rw [VEq.bytes, hXZ]; simp
    have Hveq := Lib.hid (show VEq (Lib.byteCells X) ZH = true from hv)
    have fX := hash_fits X (by rw [Lib.byteCells_length] at hx; exact hx)
    have fZ : Fits kHash ZH = true := by kernel_rfl
    clear hv hXZ
    go_wp2_with (first | (refine wpList_build_eq rfl 24 _ rfl [] (by kernel_rfl) ZH bHash0 ?_) | (refine wpList_store_whole rfl 24 _ _ rfl tb rfl ZH (Lib.byteCells Y) 24 rfl T1.out (by rw [hy]; rfl) ZH_one (sizeH _ ZH_length) ?_))
    intro w14 p q b
    replace T1 := Lib.hid b; replace S1 := Lib.hid (S1.out.grown p (by simp; omega)); replace G := Lib.hid (grown_new G.out p Hwt.out)
    clear p q b
    go_wp2_with fail
    refine (alive_any _).mono ?_
    rintro e w14 ⟨rfl, hb⟩
    have S3 := Lib.hid (S1.out.below hb S1.out.lt); have T3 := Lib.hid (T1.out.below hb T1.out.lt); have G3 := Lib.hid (Lib.grownBy_trans G.out (below_grown hb))
    clear hb S1 T1 G
    go_wp2_with (first | (refine wpList_load_part rfl 24 _ rfl sb 0 rfl (Lib.byteCells X) _ S3.out.row Tryd.underlying24 rfl (sizeH _ hx) ?_) | (refine wpList_load_part rfl 24 _ rfl tb 0 rfl ZH _ T3.out.row Tryd.underlying24 rfl (sizeH _ ZH_length) ?_) | (refine wpList_eql_flat rfl 24 _ _ _ rfl (Lib.byteCells X) ZH kHash rfl rfl hash_flat fX fZ rfl (by kernel_rfl) ?_; rw [Hveq.out]))
    go_ret
    exact ⟨rfl, below_of_grown G3.out⟩

end Go.Proofs.YtaffpgafbjhahaaDoor
