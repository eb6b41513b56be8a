/- Walk: nunciolaw09.TallyNil. -/
import Derived.Test.YtfnginmoiecgnaaDoorTl2
namespace Go.Proofs.YtfnginmoiecgnaaDoor
open Go.RowKit
open Go.Maps (Keyed)
set_option maxRecDepth 100000

set_option maxHeartbeats 4000000 in
theorem TallyNil_any (v : VoteD) (w : World) (hv : v.wf) (hR : RowAt w 0 0 (wCells rootsL)) : Calls Tryd.prog 7 #[.agg v.cells.toArray] w fun e w' => e = .returned (.bool true) ∧ Below w.heap.size w w' := by
  have HV := Lib.hid hv; have HR := Lib.hid hR
  clear hv hR
  go_enter Tryd.func7, Tryd.ntmps7
  go_wp2_with (first | (refine wpList_box_as rfl 29 _ rfl v.cells rfl ?_))
  intro w1 b1 g1 s1
  obtain ⟨b, hb⟩ : ∃ b, w.heap.size = b := ⟨_, rfl⟩
  rw [hb] at b1 ⊢
  have HB := Lib.hid hb
  have B1 := Lib.hid b1; have G1 := Lib.hid g1; have S1 := Lib.hid (show w1.heap.size = b + 1 by omega)
  clear b1 g1 s1 hb
  go_wp2_with fail
  refine (Winner_nil w1).mono ?_
  rintro e w2 ⟨rfl, g2⟩
  have B2 := Lib.hid (B1.out.grown g2 (by simp)); have G2 := Lib.hid (Lib.grownBy_trans G1.out g2); have S2 := Lib.hid (show b + 1 ≤ w2.heap.size by have := S1.out; have := g2.size; omega)
  clear g2 B1 G1 S1
  go_wp2_with (refine wpList_alloc_as rfl 25 rfl ZH ZH_info ?_)
  intro w3 b3 g3 s3
  obtain ⟨c, hc⟩ : ∃ b, w2.heap.size = b := ⟨_, rfl⟩
  rw [hc] at b3 s3 ⊢
  have HC := Lib.hid (show b + 1 ≤ c by rw [← hc]; exact S2.out)
  have C3 := Lib.hid b3; have B3 := Lib.hid (B2.out.grown g3 (by simp)); have G3 := Lib.hid (Lib.grownBy_trans G2.out g3); have S3 := Lib.hid s3
  clear b3 g3 s3 hc B2 G2 S2
  go_wp2_with (refine wpList_store_whole rfl 25 _ _ rfl c rfl ZH ZH 25 rfl C3.out rfl ZH_one (sizeH _ ZH_length) ?_)
  intro w4 g4 s4 b4
  have C4 := Lib.hid b4; have B4 := Lib.hid (B3.out.grown g4 (by have := HC.out; simp; omega)); have G4 := Lib.hid (grown_new G3.out g4 (by have := HC.out; have := HB.out; omega)); have S4 := Lib.hid (s4.trans S3.out)
  clear b4 g4 s4 B3 C3 G3 S3
  go_wp2_with fail
  refine (Commit_nil w4).mono ?_
  rintro e w5 ⟨rfl, g5⟩
  have B5 := Lib.hid (B4.out.grown g5 (by simp)); have C5 := Lib.hid (C4.out.grown g5 (by simp)); have G5 := Lib.hid (Lib.grownBy_trans G4.out g5); have S5 := Lib.hid (show c + 1 ≤ w5.heap.size by have := S4.out; have := g5.size; omega)
  clear g5 B4 C4 G4 S4
  go_wp2_with (refine wpList_alloc_as rfl 54 rfl ZCommit ZCommit_info ?_)
  intro w6 b6 g6 s6
  obtain ⟨d, hd⟩ : ∃ b, w5.heap.size = b := ⟨_, rfl⟩
  rw [hd] at b6 s6 ⊢
  have HD := Lib.hid (show c + 1 ≤ d by rw [← hd]; exact S5.out)
  have D6 := Lib.hid b6; have B6 := Lib.hid (B5.out.grown g6 (by simp)); have C6 := Lib.hid (C5.out.grown g6 (by simp)); have G6 := Lib.hid (Lib.grownBy_trans G5.out g6)
  clear b6 g6 s6 hd B5 C5 G5 S5
  go_wp2_with (refine wpList_store_whole rfl 54 _ _ rfl d rfl ZCommit ZCommit 54 rfl D6.out rfl ZCommit_one sizeZCommit ?_)
  intro w7 g7 s7 b7
  have D7 := Lib.hid b7; have B7 := Lib.hid (B6.out.grown g7 (by have := HC.out; have := HD.out; simp; omega)); have C7 := Lib.hid (C6.out.grown g7 (by have := HD.out; simp; omega)); have G7 := Lib.hid (grown_new G6.out g7 (by have := HC.out; have := HD.out; have := HB.out; omega))
  clear b7 g7 s7 B6 C6 D6 G6
  go_wp2_with fail
  refine (alive9_ok w7 (HR.out.grown G7.out (by simp))).mono ?_
  rintro e w8 ⟨rfl, g8⟩
  have D8 := Lib.hid (D7.out.grown g8 (by simp)); have B8 := Lib.hid (B7.out.grown g8 (by simp)); have C8 := Lib.hid (C7.out.grown g8 (by simp)); have G8 := Lib.hid (Lib.grownBy_trans G7.out g8)
  clear g8 B7 C7 D7 G7
  go_wp2_with (refine wpList_load_part rfl 29 _ rfl b 0 rfl v.cells _ B8.out.row Tryd.underlying29 rfl (v.size HV.out) ?_)
  refine (Add_nil v w8 HV.out).mono ?_
  rintro e w9 ⟨rfl, g9⟩
  have D9 := Lib.hid (D8.out.grown g9 (by simp)); have B9 := Lib.hid (B8.out.grown g9 (by simp)); have C9 := Lib.hid (C8.out.grown g9 (by simp)); have G9 := Lib.hid (Lib.grownBy_trans G8.out g9)
  clear g9 B8 C8 D8 G8
  have bk := (VoteD.At.of_row HV.out B9.out.row).block
  rw [Nat.zero_add] at bk
  have BK := Lib.hid bk
  clear bk
  go_wp2_with (refine wpList_load_part rfl 25 _ rfl b 4 rfl (Lib.byteCells v.block) _ BK.out Tryd.underlying25 rfl (sizeH _ (by rw [Lib.byteCells_length, HV.out.block])) ?_)
  refine (Power_nil v.block w9).mono ?_
  rintro e wa ⟨rfl, ga⟩
  have Da := Lib.hid (D9.out.grown ga (by simp)); have Ca := Lib.hid (C9.out.grown ga (by simp)); have Ga := Lib.hid (Lib.grownBy_trans G9.out ga)
  clear ga B9 C9 D9 G9 BK
  go_wp2_with fail
  refine (All_nil wa).mono ?_
  rintro e wb ⟨rfl, rfl⟩
  have hz : VEq ZH ZH = true := by decide +kernel
  have fz : Fits kHash ZH = true := by decide +kernel
  have HZ := Lib.hid hz
  go_wp2_with (first | (refine wpList_load_part rfl 25 _ rfl c 0 rfl ZH _ Ca.out.row Tryd.underlying25 rfl (sizeH _ ZH_length) ?_) | (refine wpList_build_eq rfl 25 _ rfl [] (by kernel_rfl) ZH bHash0 ?_) | (refine wpList_eql_flat rfl 25 _ _ _ rfl ZH ZH kHash rfl rfl hash_flat fz fz rfl (by kernel_rfl) ?_; rw [hz]))
  refine (Any_nil wa).mono ?_
  rintro e wb ⟨rfl, gb⟩
  have Db := Lib.hid (Da.out.grown gb (by simp)); have Gb := Lib.hid (Lib.grownBy_trans Ga.out gb)
  clear gb Ca Da Ga hz fz
  go_wp2_with fail
  refine (Votes_nil wb).mono ?_
  rintro e wc ⟨rfl, rfl⟩
  go_wp2_with fail
  refine (Twice_nil wb).mono ?_
  rintro e wc ⟨rfl, rfl⟩
  have cs := Db.out.row 34 (.slice none 0 0) rfl
  rw [Nat.zero_add] at cs
  go_wp2_with fail
  go_ret
  exact ⟨rfl, below_g Gb.out⟩

end Go.Proofs.YtfnginmoiecgnaaDoor
