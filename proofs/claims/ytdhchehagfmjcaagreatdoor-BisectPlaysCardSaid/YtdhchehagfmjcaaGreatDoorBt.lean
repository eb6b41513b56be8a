import Derived.Test.YtdhchehagfmjcaaGreatDoorVs
import Derived.Test.YtdhchehagfmjcaaGreatDoorR15
import Derived.Deep.QuietTactic
import Derived.BigQuiet
import Derived.Test.YtdhchehagfmjcaaGreatDoorBs
import Derived.Deep.LoopGhost
namespace Go.Proofs.YtdhchehagfmjcaaGreatDoor
open Go.RowKit
set_option maxRecDepth 100000
theorem check_right {ds : List ValD} (chain : ByteArray) (c : CommitD) (h : rightL ds = true) : checkL ds chain c = 0 ∨ checkL ds chain c = 158 := check_two h
set_option maxHeartbeats 8000000 in
theorem RSound_ok (chain : ByteArray) (x : LtR) (l : LightD) (w0 : World) (hl : l.wf) (ho : x.of w0.heap.size w0 l) (hn : l.commit.seals.length ≤ 1000) (hch : chain.size ≤ 140737488351232) (hcs : l.header.chain.size ≤ 140737488351232) :
  Calls Tryz.prog 20 #[.string chain, .agg x.cells.toArray] w0 fun e w' => e = .returned (.int .i64 (soundL chain l)) ∧ w0.grownBy w' none := by
 have O := Own.start w0
 have HX := Lib.hid (ho.wf hl)
 have hx := HX.out
 have C1 := fun w => RHeader x.header w hx.header (by rw [ho.header]; exact hcs)
 have C2 := fun w (g : w0.grownBy w none) => RCommit l.commit x.comCells w ((ho.up g (Nat.le_refl _)).com) (Nat.le_refl _) hl.commit
 have C4 := fun w (g : w0.grownBy w none) => RHashV_ok (.slice x.ta x.tn x.tc) l.set w hl.set (ho.grown g).set g.size
 have C5 := fun w (g : w0.grownBy w none) => RHashV_ok (.slice x.na x.nn x.nc) l.next w hl.next (ho.grown g).next g.size
 have C6 := fun w => RHeaderHash x.header w hx.header (by rw [ho.header]; exact hcs)
 have C7 := fun w (g : w0.grownBy w none) => RCheck_ok (.slice x.ta x.tn x.tc) l.set chain l.commit x.comCells w (ho.grown g).set hch hl.commit ((ho.up g (Nat.le_refl _)).com) hn g.size
 unfold HeaderD.val at C1
 unfold RHashes at C6
 rw [ho.header] at C1 C6
 have EX1 : blake (2 :: encHeader l.header) = hdrHash l.header := rfl
 have ES : rightL l.set = true → vhashL l.set = setHash l.set := fun h => by unfold vhashL; rw [if_pos h]
 have EN : rightL l.next = true → vhashL l.next = setHash l.next := fun h => by unfold vhashL; rw [if_pos h]
 have s1 := @sound_1 chain l; have s2 := @sound_2 chain l; have s3 := @sound_3 chain l; have s4 := @sound_4 chain l; have s5 := @sound_5 chain l; have s6 := @sound_6 chain l; have s7 := @sound_7 chain l
 have hz := @check_right l.set chain l.commit
 unfold errV at C4 C5
 have L2 := Lib.hid (vhashL_len l.set); have L3 := Lib.hid (vhashL_len l.next); have L1 := Lib.hid (show (hdrHash l.header).length = 32 from blake_len _)
 have Q1 := hl.header.set; have Q2 := hl.header.next; have Q3 := hl.commit.block
 have R1 : ∀ (w : World) (g : Nat), RowAt w g 0 x.cells → RowAt w g 35 (Lib.byteCells l.header.set) := fun _ _ h => by have := LtR.hset_at h hx; rwa [ho.header] at this
 have R2 : ∀ (w : World) (g : Nat), RowAt w g 0 x.cells → RowAt w g 67 (Lib.byteCells l.header.next) := fun _ _ h => by have := LtR.hnext_at h hx; rwa [ho.header] at this
 have R3 : ∀ (w : World) (g : Nat), RowAt w g 0 x.cells → RowAt w g 165 (Lib.byteCells l.commit.block) := fun _ _ h => by have := LtR.cblk_at h hx; rwa [ho.block] at this
 have HW := Lib.hid hl.header
 have HD := Lib.hid (show ∀ (w : World) (g : Nat), RowAt w g 0 x.cells → RowAt w g 0 l.header.cells from fun _ _ h => by have := LtR.hdr_at h hx; rwa [ho.header] at this)
 have G0 := Lib.hid (show x.cells[0]? = some (.string l.header.chain) by rw [← ho.header]; rfl)
 have G1 := Lib.hid (show x.cells[1]? = some (.int .i64 l.header.height) by rw [← ho.header]; rfl)
 have G163 := Lib.hid (show x.cells[163]? = some (.int .i64 l.commit.height) by rw [← ho.height]; exact LtR.get_height x hx)
 have G198 := Lib.hid (LtR.get_set x hx); have G199 := Lib.hid (LtR.get_next x hx)
 obtain ⟨V, hV⟩ : ∃ V, soundL chain l = V := ⟨_, rfl⟩
 obtain ⟨k1, hk1⟩ : ∃ y, okHeader l.header = y := ⟨_, rfl⟩
 obtain ⟨k2, hk2⟩ : ∃ y, okCommitN l.commit = y := ⟨_, rfl⟩
 obtain ⟨k4, hk4⟩ : ∃ y, rightL l.set = y := ⟨_, rfl⟩
 obtain ⟨k5, hk5⟩ : ∃ y, rightL l.next = y := ⟨_, rfl⟩
 rw [EX1] at C6
 obtain ⟨X1, hX1⟩ : ∃ y, hdrHash l.header = y := ⟨_, rfl⟩
 obtain ⟨X2, hX2⟩ : ∃ y, vhashL l.set = y := ⟨_, rfl⟩
 obtain ⟨X3, hX3⟩ : ∃ y, vhashL l.next = y := ⟨_, rfl⟩
 obtain ⟨Y1, hY1⟩ : ∃ y, l.header.set = y := ⟨_, rfl⟩
 obtain ⟨Y2, hY2⟩ : ∃ y, l.header.next = y := ⟨_, rfl⟩
 obtain ⟨Y3, hY3⟩ : ∃ y, l.commit.block = y := ⟨_, rfl⟩
 obtain ⟨Z2, hZ2⟩ : ∃ y, setHash l.set = y := ⟨_, rfl⟩
 obtain ⟨Z3, hZ3⟩ : ∃ y, setHash l.next = y := ⟨_, rfl⟩
 obtain ⟨m1, hm1⟩ : ∃ y, l.commit.height = y := ⟨_, rfl⟩
 obtain ⟨m2, hm2⟩ : ∃ y, l.header.height = y := ⟨_, rfl⟩
 obtain ⟨z, hz1⟩ : ∃ z, checkL l.set chain l.commit = z := ⟨_, rfl⟩
 obtain ⟨ch, hch1⟩ : ∃ z, l.header.chain = z := ⟨_, rfl⟩
 rw [hV] at s1 s2 s3 s4 s5 s6 s7 ⊢
 rw [hk1] at C1 C6 s1 s2 s3 s4 s5 s6 s7; rw [hk2] at C2 s2 s3 s4 s5 s6 s7; rw [hk4] at C4 ES s4 s5 s6 s7 hz; rw [hk5] at C5 EN s4 s5 s6 s7
 rw [hX1] at C6 L1 s6 s7; rw [hX2] at C4 L2 ES; rw [hX3] at C5 L3 EN; rw [hZ2] at ES s5 s6 s7; rw [hZ3] at EN s5 s6 s7
 rw [hY1] at R1 Q1 s5 s6 s7; rw [hY2] at R2 Q2 s5 s6 s7; rw [hY3] at R3 Q3 s6 s7; rw [hm1] at G163 s6 s7; rw [hm2] at G1 s6 s7; rw [hz1] at C7 s7 hz; rw [hch1] at G0 s3 s4 s5 s6 s7
 obtain ⟨e4, he4⟩ : ∃ y : Int, (if k4 then 0 else 71) = y := ⟨_, rfl⟩
 obtain ⟨e5, he5⟩ : ∃ y : Int, (if k5 then 0 else 71) = y := ⟨_, rfl⟩
 rw [he4] at C4; rw [he5] at C5
 obtain ⟨n1, hn1⟩ : ∃ n, (!VEq (Lib.byteCells X2) (Lib.byteCells Y1)) = n := ⟨_, rfl⟩
 obtain ⟨n2, hn2⟩ : ∃ n, (!VEq (Lib.byteCells X3) (Lib.byteCells Y2)) = n := ⟨_, rfl⟩
 obtain ⟨n3, hn3⟩ : ∃ n, (!VEq (Lib.byteCells Y3) (Lib.byteCells X1)) = n := ⟨_, rfl⟩
 have I1 := Lib.hid (hne hn1); have I2 := Lib.hid (hne hn2); have I3 := Lib.hid (hne hn3)
 have N1 := Lib.hid hn1; have N2 := Lib.hid hn2; have N3 := Lib.hid hn3
 have Q1 := Lib.hid Q1; have Q2 := Lib.hid Q2; have Q3 := Lib.hid Q3; have R1 := Lib.hid R1; have R2 := Lib.hid R2; have R3 := Lib.hid R3
 have C1 := Lib.hid C1; have C2 := Lib.hid C2; have C4 := Lib.hid C4; have C5 := Lib.hid C5; have C6 := Lib.hid C6; have C7 := Lib.hid C7
 replace ES := Lib.hid ES; replace EN := Lib.hid EN; have HE4 := Lib.hid he4; have HE5 := Lib.hid he5; have HZ := Lib.hid hz
 have T1 := Lib.hid s1; have T2 := Lib.hid s2; have T3 := Lib.hid s3; have T4 := Lib.hid s4; have T5 := Lib.hid s5; have T6 := Lib.hid s6; have T7 := Lib.hid s7
 clear hV hk1 hk2 hk4 hk5 hX1 hX2 hX3 hY1 hY2 hY3 hZ2 hZ3 hm1 hm2 hz1 hch1 hn1 hn2 hn3 he4 he5 hz s1 s2 s3 s4 s5 s6 s7 EX1 hl ho hn hch hcs hx
 go_enter Tryz.func20, Tryz.ntmps20
 go_wp2_with (first | (refine @wpList_own_box _ _ _ _ _ _ _ _ _ 31 _ rfl x.cells rfl O rfl ?_; clear O; intro b w O) | ((with_reducible refine @wpList_at _ _ _ _ _ _ _ (.load 25 (.tmp 16)) rfl ?_); refine @wpList_own_part _ _ _ _ _ _ _ _ _ 25 (.tmp 16) rfl O 0 b 0 rfl _ _ rfl l.header.cells _ (fun h => HD.out _ _ h) Tryz.underlying25 rfl (sizeHeader _ (l.header.cells_length HW.out)) rfl ?_))
 refine (C1.out _).mono ?_
 intro e w h1
 obtain ⟨a2, n2', q2, rfl, _, g⟩ := RefW.ofOk h1 (fun _ => rfl)
 replace O := O.call g
 clear g h1
 go_wp2_with (first | (refine @wpList_own_box _ _ _ _ _ _ _ _ _ 31 _ rfl x.cells rfl O rfl ?_; clear O; intro b w O) | ((with_reducible refine @wpList_at _ _ _ _ _ _ _ (.load 28 (.tmp 22)) rfl ?_); refine @wpList_own_part _ _ _ _ _ _ _ _ _ 28 (.tmp 22) rfl O 0 b 163 rfl _ _ rfl x.comCells _ (fun h => LtR.com_at h HX.out) Tryz.underlying28 rfl (by rw [LtR.com_length HX.out]; exact sizeCommit) rfl ?_))
 refine (C2.out _ O.grown).mono ?_
 intro e w h1
 obtain ⟨a3, n3', q3, rfl, _, g⟩ := RefW.ofOk h1 (fun _ => rfl)
 replace O := O.call g
 clear g h1
 cases k1 with
 | false =>
  go_wp2_with fail
  go_ret
  rw [T1.out (by trivial)]
  exact ⟨rfl, O.grown⟩
 | true =>
 cases k2 with
 | false =>
  go_wp2_with fail
  go_ret
  rw [T2.out (by trivial) (by trivial)]
  exact ⟨rfl, O.grown⟩
 | true =>
 by_cases hcc : ch = chain
 case neg =>
  have J := Lib.hid (T3.out (by trivial) (by trivial) hcc)
  have hne := str_ne hcc
  clear hcc
  go_wp2_with (first | ((with_reducible refine @wpList_at _ _ _ _ _ _ _ (.load 9 (.tmp 34)) rfl ?_); refine @wpList_own_cell _ _ _ _ _ _ _ _ _ 9 (.tmp 34) rfl O 0 b 0 rfl _ _ rfl _ G0.out _ Tryz.underlying9 rfl rfl ?_))
  go_ret
  rw [J.out]
  exact ⟨rfl, O.grown⟩
 have K3 := Lib.hid hcc
 rw [hcc] at G0
 clear hcc
 go_wp2_with (first | ((with_reducible refine @wpList_at _ _ _ _ _ _ _ (.load 9 (.tmp 34)) rfl ?_); refine @wpList_own_cell _ _ _ _ _ _ _ _ _ 9 (.tmp 34) rfl O 0 b 0 rfl _ _ rfl _ G0.out _ Tryz.underlying9 rfl rfl ?_) | ((with_reducible refine @wpList_at _ _ _ _ _ _ _ (.load 29 (.tmp 39)) rfl ?_); refine @wpList_own_cell _ _ _ _ _ _ _ _ _ 29 (.tmp 39) rfl O 0 b 198 rfl _ _ rfl _ G198.out _ Tryz.underlying29 rfl rfl ?_))
 refine (C4.out _ O.grown).mono ?_
 rintro e w ⟨rfl, g⟩
 replace O := O.call g
 clear g
 go_wp2_with (first | ((with_reducible refine @wpList_at _ _ _ _ _ _ _ (.alloc 23) rfl ?_); refine @wpList_own_alloc _ _ _ _ _ _ _ _ _ 23 rfl ZH ZH_info O rfl ?_; clear O; intro p2 w O) | ((with_reducible refine @wpList_at _ _ _ _ _ _ _ (.store 23 (.tmp 9) (.tmp 42)) rfl ?_); refine @wpList_own_store _ _ _ _ _ _ _ _ _ 23 (.tmp 9) (.tmp 42) rfl O 0 p2 rfl (Lib.byteCells X2) ZH _ rfl rfl (by rw [Lib.byteCells_length, L2.out]; rfl) (oneCell_bytes _) (sizeH _ (by rw [Lib.byteCells_length, L2.out])) rfl ?_; clear O; intro w O; simp only [List.set_cons_zero] at O) | ((with_reducible refine @wpList_at _ _ _ _ _ _ _ (.load 29 (.tmp 45)) rfl ?_); refine @wpList_own_cell _ _ _ _ _ _ _ _ _ 29 (.tmp 45) rfl O 1 b 199 rfl _ _ rfl _ G199.out _ Tryz.underlying29 rfl rfl ?_))
 refine (C5.out _ O.grown).mono ?_
 rintro e w ⟨rfl, g⟩
 replace O := O.call g
 clear g
 cases k4 with
 | false =>
  have e0 : e4 = 71 := HE4.out.symm
  subst e0
  have J := Lib.hid (T4.out (by trivial) (by trivial) K3.out (.inl (by trivial)))
  go_wp2_with (first | ((with_reducible refine @wpList_at _ _ _ _ _ _ _ (.alloc 23) rfl ?_); refine @wpList_own_alloc _ _ _ _ _ _ _ _ _ 23 rfl ZH ZH_info O rfl ?_; clear O; intro p3 w O) | ((with_reducible refine @wpList_at _ _ _ _ _ _ _ (.store 23 (.tmp 11) (.tmp 48)) rfl ?_); refine @wpList_own_store _ _ _ _ _ _ _ _ _ 23 (.tmp 11) (.tmp 48) rfl O 0 p3 rfl (Lib.byteCells X3) ZH _ rfl rfl (by rw [Lib.byteCells_length, L3.out]; rfl) (oneCell_bytes _) (sizeH _ (by rw [Lib.byteCells_length, L3.out])) rfl ?_; clear O; intro w O; simp only [List.set_cons_zero] at O))
  go_ret
  rw [J.out]
  exact ⟨rfl, O.grown⟩
 | true =>
 have e0 : e4 = 0 := HE4.out.symm
 subst e0
 cases k5 with
 | false =>
  have e0 : e5 = 71 := HE5.out.symm
  subst e0
  have J := Lib.hid (T4.out (by trivial) (by trivial) K3.out (.inr (by trivial)))
  go_wp2_with (first | ((with_reducible refine @wpList_at _ _ _ _ _ _ _ (.alloc 23) rfl ?_); refine @wpList_own_alloc _ _ _ _ _ _ _ _ _ 23 rfl ZH ZH_info O rfl ?_; clear O; intro p3 w O) | ((with_reducible refine @wpList_at _ _ _ _ _ _ _ (.store 23 (.tmp 11) (.tmp 48)) rfl ?_); refine @wpList_own_store _ _ _ _ _ _ _ _ _ 23 (.tmp 11) (.tmp 48) rfl O 0 p3 rfl (Lib.byteCells X3) ZH _ rfl rfl (by rw [Lib.byteCells_length, L3.out]; rfl) (oneCell_bytes _) (sizeH _ (by rw [Lib.byteCells_length, L3.out])) rfl ?_; clear O; intro w O; simp only [List.set_cons_zero] at O))
  go_ret
  rw [J.out]
  exact ⟨rfl, O.grown⟩
 | true =>
 have e0 : e5 = 0 := HE5.out.symm
 subst e0
 have U2 := Lib.hid (ES.out (by trivial)); have U3 := Lib.hid (EN.out (by trivial))
 cases n1 with
 | true =>
  have J := Lib.hid (T5.out (by trivial) (by trivial) K3.out (by trivial) (by trivial) (.inl (by rw [← U2.out]; exact I1.out.1 (by trivial))))
  go_wp2_with (first | ((with_reducible refine @wpList_at _ _ _ _ _ _ _ (.alloc 23) rfl ?_); refine @wpList_own_alloc _ _ _ _ _ _ _ _ _ 23 rfl ZH ZH_info O rfl ?_; clear O; intro p3 w O) | ((with_reducible refine @wpList_at _ _ _ _ _ _ _ (.store 23 (.tmp 11) (.tmp 48)) rfl ?_); refine @wpList_own_store _ _ _ _ _ _ _ _ _ 23 (.tmp 11) (.tmp 48) rfl O 0 p3 rfl (Lib.byteCells X3) ZH _ rfl rfl (by rw [Lib.byteCells_length, L3.out]; rfl) (oneCell_bytes _) (sizeH _ (by rw [Lib.byteCells_length, L3.out])) rfl ?_; clear O; intro w O; simp only [List.set_cons_zero] at O) | ((with_reducible refine @wpList_at _ _ _ _ _ _ _ (.load 23 (.tmp 9)) rfl ?_); refine @wpList_own_whole _ _ _ _ _ _ _ _ _ 23 (.tmp 9) rfl O 1 p2 rfl (Lib.byteCells X2) _ rfl _ Tryz.underlying23 rfl (sizeH _ (by rw [Lib.byteCells_length, L2.out])) rfl ?_) | ((with_reducible refine @wpList_at _ _ _ _ _ _ _ (.load 23 (.tmp 11)) rfl ?_); refine @wpList_own_whole _ _ _ _ _ _ _ _ _ 23 (.tmp 11) rfl O 0 p3 rfl (Lib.byteCells X3) _ rfl _ Tryz.underlying23 rfl (sizeH _ (by rw [Lib.byteCells_length, L3.out])) rfl ?_) | ((with_reducible refine @wpList_at _ _ _ _ _ _ _ (.load 23 (.tmp 58)) rfl ?_); refine @wpList_own_part _ _ _ _ _ _ _ _ _ 23 (.tmp 58) rfl O 2 b 35 rfl _ _ rfl (Lib.byteCells Y1) _ (fun h => R1.out _ _ h) Tryz.underlying23 rfl (sizeH _ (by rw [Lib.byteCells_length, Q1.out])) rfl ?_) | ((with_reducible refine @wpList_at _ _ _ _ _ _ _ (.binOp .neq 23 (.tmp 56) (.tmp 59) 23) rfl ?_); refine @wpList_neq_own _ _ _ _ _ _ _ 23 _ (.tmp 56) (.tmp 59) rfl (Lib.byteCells X2) (Lib.byteCells Y1) kHash rfl rfl hash_flat (hash_fits _ L2.out) (hash_fits _ Q1.out) rfl (by kernel_rfl) rfl ?_; rw [N1.out]))
  go_ret
  rw [J.out]
  exact ⟨rfl, O.grown⟩
 | false =>
 have F1 := Lib.hid (show Z2 = Y1 by rw [← U2.out]; exact Classical.not_not.1 (fun h => by have := I1.out.2 h; cases this))
 cases n2 with
 | true =>
  have J := Lib.hid (T5.out (by trivial) (by trivial) K3.out (by trivial) (by trivial) (.inr (by rw [← U3.out]; exact I2.out.1 (by trivial))))
  go_wp2_with (first | ((with_reducible refine @wpList_at _ _ _ _ _ _ _ (.alloc 23) rfl ?_); refine @wpList_own_alloc _ _ _ _ _ _ _ _ _ 23 rfl ZH ZH_info O rfl ?_; clear O; intro p3 w O) | ((with_reducible refine @wpList_at _ _ _ _ _ _ _ (.store 23 (.tmp 11) (.tmp 48)) rfl ?_); refine @wpList_own_store _ _ _ _ _ _ _ _ _ 23 (.tmp 11) (.tmp 48) rfl O 0 p3 rfl (Lib.byteCells X3) ZH _ rfl rfl (by rw [Lib.byteCells_length, L3.out]; rfl) (oneCell_bytes _) (sizeH _ (by rw [Lib.byteCells_length, L3.out])) rfl ?_; clear O; intro w O; simp only [List.set_cons_zero] at O) | ((with_reducible refine @wpList_at _ _ _ _ _ _ _ (.load 23 (.tmp 9)) rfl ?_); refine @wpList_own_whole _ _ _ _ _ _ _ _ _ 23 (.tmp 9) rfl O 1 p2 rfl (Lib.byteCells X2) _ rfl _ Tryz.underlying23 rfl (sizeH _ (by rw [Lib.byteCells_length, L2.out])) rfl ?_) | ((with_reducible refine @wpList_at _ _ _ _ _ _ _ (.load 23 (.tmp 11)) rfl ?_); refine @wpList_own_whole _ _ _ _ _ _ _ _ _ 23 (.tmp 11) rfl O 0 p3 rfl (Lib.byteCells X3) _ rfl _ Tryz.underlying23 rfl (sizeH _ (by rw [Lib.byteCells_length, L3.out])) rfl ?_) | ((with_reducible refine @wpList_at _ _ _ _ _ _ _ (.load 23 (.tmp 58)) rfl ?_); refine @wpList_own_part _ _ _ _ _ _ _ _ _ 23 (.tmp 58) rfl O 2 b 35 rfl _ _ rfl (Lib.byteCells Y1) _ (fun h => R1.out _ _ h) Tryz.underlying23 rfl (sizeH _ (by rw [Lib.byteCells_length, Q1.out])) rfl ?_) | ((with_reducible refine @wpList_at _ _ _ _ _ _ _ (.load 23 (.tmp 64)) rfl ?_); refine @wpList_own_part _ _ _ _ _ _ _ _ _ 23 (.tmp 64) rfl O 2 b 67 rfl _ _ rfl (Lib.byteCells Y2) _ (fun h => R2.out _ _ h) Tryz.underlying23 rfl (sizeH _ (by rw [Lib.byteCells_length, Q2.out])) rfl ?_) | ((with_reducible refine @wpList_at _ _ _ _ _ _ _ (.binOp .neq 23 (.tmp 56) (.tmp 59) 23) rfl ?_); refine @wpList_neq_own _ _ _ _ _ _ _ 23 _ (.tmp 56) (.tmp 59) rfl (Lib.byteCells X2) (Lib.byteCells Y1) kHash rfl rfl hash_flat (hash_fits _ L2.out) (hash_fits _ Q1.out) rfl (by kernel_rfl) rfl ?_; rw [N1.out]) | ((with_reducible refine @wpList_at _ _ _ _ _ _ _ (.binOp .neq 23 (.tmp 62) (.tmp 65) 23) rfl ?_); refine @wpList_neq_own _ _ _ _ _ _ _ 23 _ (.tmp 62) (.tmp 65) rfl (Lib.byteCells X3) (Lib.byteCells Y2) kHash rfl rfl hash_flat (hash_fits _ L3.out) (hash_fits _ Q2.out) rfl (by kernel_rfl) rfl ?_; rw [N2.out]))
  go_ret
  rw [J.out]
  exact ⟨rfl, O.grown⟩
 | false =>
 have F2 := Lib.hid (show Z3 = Y2 by rw [← U3.out]; exact Classical.not_not.1 (fun h => by have := I2.out.2 h; cases this))
 go_wp2_with (first | ((with_reducible refine @wpList_at _ _ _ _ _ _ _ (.alloc 23) rfl ?_); refine @wpList_own_alloc _ _ _ _ _ _ _ _ _ 23 rfl ZH ZH_info O rfl ?_; clear O; intro p3 w O) | ((with_reducible refine @wpList_at _ _ _ _ _ _ _ (.store 23 (.tmp 11) (.tmp 48)) rfl ?_); refine @wpList_own_store _ _ _ _ _ _ _ _ _ 23 (.tmp 11) (.tmp 48) rfl O 0 p3 rfl (Lib.byteCells X3) ZH _ rfl rfl (by rw [Lib.byteCells_length, L3.out]; rfl) (oneCell_bytes _) (sizeH _ (by rw [Lib.byteCells_length, L3.out])) rfl ?_; clear O; intro w O; simp only [List.set_cons_zero] at O) | ((with_reducible refine @wpList_at _ _ _ _ _ _ _ (.load 23 (.tmp 9)) rfl ?_); refine @wpList_own_whole _ _ _ _ _ _ _ _ _ 23 (.tmp 9) rfl O 1 p2 rfl (Lib.byteCells X2) _ rfl _ Tryz.underlying23 rfl (sizeH _ (by rw [Lib.byteCells_length, L2.out])) rfl ?_) | ((with_reducible refine @wpList_at _ _ _ _ _ _ _ (.load 23 (.tmp 11)) rfl ?_); refine @wpList_own_whole _ _ _ _ _ _ _ _ _ 23 (.tmp 11) rfl O 0 p3 rfl (Lib.byteCells X3) _ rfl _ Tryz.underlying23 rfl (sizeH _ (by rw [Lib.byteCells_length, L3.out])) rfl ?_) | ((with_reducible refine @wpList_at _ _ _ _ _ _ _ (.load 23 (.tmp 58)) rfl ?_); refine @wpList_own_part _ _ _ _ _ _ _ _ _ 23 (.tmp 58) rfl O 2 b 35 rfl _ _ rfl (Lib.byteCells Y1) _ (fun h => R1.out _ _ h) Tryz.underlying23 rfl (sizeH _ (by rw [Lib.byteCells_length, Q1.out])) rfl ?_) | ((with_reducible refine @wpList_at _ _ _ _ _ _ _ (.load 23 (.tmp 64)) rfl ?_); refine @wpList_own_part _ _ _ _ _ _ _ _ _ 23 (.tmp 64) rfl O 2 b 67 rfl _ _ rfl (Lib.byteCells Y2) _ (fun h => R2.out _ _ h) Tryz.underlying23 rfl (sizeH _ (by rw [Lib.byteCells_length, Q2.out])) rfl ?_) | ((with_reducible refine @wpList_at _ _ _ _ _ _ _ (.binOp .neq 23 (.tmp 56) (.tmp 59) 23) rfl ?_); refine @wpList_neq_own _ _ _ _ _ _ _ 23 _ (.tmp 56) (.tmp 59) rfl (Lib.byteCells X2) (Lib.byteCells Y1) kHash rfl rfl hash_flat (hash_fits _ L2.out) (hash_fits _ Q1.out) rfl (by kernel_rfl) rfl ?_; rw [N1.out]) | ((with_reducible refine @wpList_at _ _ _ _ _ _ _ (.binOp .neq 23 (.tmp 62) (.tmp 65) 23) rfl ?_); refine @wpList_neq_own _ _ _ _ _ _ _ 23 _ (.tmp 62) (.tmp 65) rfl (Lib.byteCells X3) (Lib.byteCells Y2) kHash rfl rfl hash_flat (hash_fits _ L3.out) (hash_fits _ Q2.out) rfl (by kernel_rfl) rfl ?_; rw [N2.out]) | ((with_reducible refine @wpList_at _ _ _ _ _ _ _ (.load 25 (.tmp 69)) rfl ?_); refine @wpList_own_part _ _ _ _ _ _ _ _ _ 25 (.tmp 69) rfl O 2 b 0 rfl _ _ rfl l.header.cells _ (fun h => HD.out _ _ h) Tryz.underlying25 rfl (sizeHeader _ (l.header.cells_length HW.out)) rfl ?_))
 refine (C6.out _).mono ?_
 rintro e w ⟨rfl, g⟩
 replace O := O.call g
 clear g
 by_cases hm : m1 = m2
 case neg =>
  have J := Lib.hid (T6.out (by trivial) (by trivial) K3.out (by trivial) (by trivial) ⟨F1.out, F2.out⟩ (.inl hm))
  have d : (m1 != m2) = true := by simpa using hm
  clear hm
  go_wp2_with (first | ((with_reducible refine @wpList_at _ _ _ _ _ _ _ (.alloc 23) rfl ?_); refine @wpList_own_alloc _ _ _ _ _ _ _ _ _ 23 rfl ZH ZH_info O rfl ?_; clear O; intro p1 w O) | ((with_reducible refine @wpList_at _ _ _ _ _ _ _ (.store 23 (.tmp 13) (.tmp 72)) rfl ?_); refine @wpList_own_store _ _ _ _ _ _ _ _ _ 23 (.tmp 13) (.tmp 72) rfl O 0 p1 rfl (Lib.byteCells X1) ZH _ rfl rfl (by rw [Lib.byteCells_length, L1.out]; rfl) (oneCell_bytes _) (sizeH _ (by rw [Lib.byteCells_length, L1.out])) rfl ?_; clear O; intro w O; simp only [List.set_cons_zero] at O) | ((with_reducible refine @wpList_at _ _ _ _ _ _ _ (.load 3 (.tmp 75)) rfl ?_); refine @wpList_own_cell _ _ _ _ _ _ _ _ _ 3 (.tmp 75) rfl O 3 b 163 rfl _ _ rfl _ G163.out _ Tryz.underlying3 rfl rfl ?_) | ((with_reducible refine @wpList_at _ _ _ _ _ _ _ (.load 3 (.tmp 78)) rfl ?_); refine @wpList_own_cell _ _ _ _ _ _ _ _ _ 3 (.tmp 78) rfl O 3 b 1 rfl _ _ rfl _ G1.out _ Tryz.underlying3 rfl rfl ?_))
  go_ret
  rw [J.out]
  exact ⟨rfl, O.grown⟩
 subst hm
 cases n3 with
 | true =>
  have J := Lib.hid (T6.out (by trivial) (by trivial) K3.out (by trivial) (by trivial) ⟨F1.out, F2.out⟩ (.inr (I3.out.1 (by trivial))))
  go_wp2_with (first | ((with_reducible refine @wpList_at _ _ _ _ _ _ _ (.alloc 23) rfl ?_); refine @wpList_own_alloc _ _ _ _ _ _ _ _ _ 23 rfl ZH ZH_info O rfl ?_; clear O; intro p1 w O) | ((with_reducible refine @wpList_at _ _ _ _ _ _ _ (.store 23 (.tmp 13) (.tmp 72)) rfl ?_); refine @wpList_own_store _ _ _ _ _ _ _ _ _ 23 (.tmp 13) (.tmp 72) rfl O 0 p1 rfl (Lib.byteCells X1) ZH _ rfl rfl (by rw [Lib.byteCells_length, L1.out]; rfl) (oneCell_bytes _) (sizeH _ (by rw [Lib.byteCells_length, L1.out])) rfl ?_; clear O; intro w O; simp only [List.set_cons_zero] at O) | ((with_reducible refine @wpList_at _ _ _ _ _ _ _ (.load 3 (.tmp 75)) rfl ?_); refine @wpList_own_cell _ _ _ _ _ _ _ _ _ 3 (.tmp 75) rfl O 3 b 163 rfl _ _ rfl _ G163.out _ Tryz.underlying3 rfl rfl ?_) | ((with_reducible refine @wpList_at _ _ _ _ _ _ _ (.load 3 (.tmp 78)) rfl ?_); refine @wpList_own_cell _ _ _ _ _ _ _ _ _ 3 (.tmp 78) rfl O 3 b 1 rfl _ _ rfl _ G1.out _ Tryz.underlying3 rfl rfl ?_) | ((with_reducible refine @wpList_at _ _ _ _ _ _ _ (.load 23 (.tmp 83)) rfl ?_); refine @wpList_own_part _ _ _ _ _ _ _ _ _ 23 (.tmp 83) rfl O 3 b 165 rfl _ _ rfl (Lib.byteCells Y3) _ (fun h => R3.out _ _ h) Tryz.underlying23 rfl (sizeH _ (by rw [Lib.byteCells_length, Q3.out])) rfl ?_) | ((with_reducible refine @wpList_at _ _ _ _ _ _ _ (.load 23 (.tmp 13)) rfl ?_); refine @wpList_own_whole _ _ _ _ _ _ _ _ _ 23 (.tmp 13) rfl O 0 p1 rfl (Lib.byteCells X1) _ rfl _ Tryz.underlying23 rfl (sizeH _ (by rw [Lib.byteCells_length, L1.out])) rfl ?_) | ((with_reducible refine @wpList_at _ _ _ _ _ _ _ (.binOp .neq 23 (.tmp 84) (.tmp 85) 23) rfl ?_); refine @wpList_neq_own _ _ _ _ _ _ _ 23 _ (.tmp 84) (.tmp 85) rfl (Lib.byteCells Y3) (Lib.byteCells X1) kHash rfl rfl hash_flat (hash_fits _ Q3.out) (hash_fits _ L1.out) rfl (by kernel_rfl) rfl ?_; rw [N3.out]))
  go_ret
  rw [J.out]
  exact ⟨rfl, O.grown⟩
 | false =>
 have F3 := Lib.hid (show Y3 = X1 from Classical.not_not.1 (fun h => by have := I3.out.2 h; cases this))
 have J := Lib.hid (T7.out (by trivial) (by trivial) K3.out (by trivial) (by trivial) ⟨F1.out, F2.out⟩ ⟨(by trivial), F3.out⟩)
 have hz := HZ.out (by trivial)
 rcases hz with h0 | h0
 ·subst h0
  go_wp2_with (first | ((with_reducible refine @wpList_at _ _ _ _ _ _ _ (.alloc 23) rfl ?_); refine @wpList_own_alloc _ _ _ _ _ _ _ _ _ 23 rfl ZH ZH_info O rfl ?_; clear O; intro p1 w O) | ((with_reducible refine @wpList_at _ _ _ _ _ _ _ (.store 23 (.tmp 13) (.tmp 72)) rfl ?_); refine @wpList_own_store _ _ _ _ _ _ _ _ _ 23 (.tmp 13) (.tmp 72) rfl O 0 p1 rfl (Lib.byteCells X1) ZH _ rfl rfl (by rw [Lib.byteCells_length, L1.out]; rfl) (oneCell_bytes _) (sizeH _ (by rw [Lib.byteCells_length, L1.out])) rfl ?_; clear O; intro w O; simp only [List.set_cons_zero] at O) | ((with_reducible refine @wpList_at _ _ _ _ _ _ _ (.load 3 (.tmp 75)) rfl ?_); refine @wpList_own_cell _ _ _ _ _ _ _ _ _ 3 (.tmp 75) rfl O 3 b 163 rfl _ _ rfl _ G163.out _ Tryz.underlying3 rfl rfl ?_) | ((with_reducible refine @wpList_at _ _ _ _ _ _ _ (.load 3 (.tmp 78)) rfl ?_); refine @wpList_own_cell _ _ _ _ _ _ _ _ _ 3 (.tmp 78) rfl O 3 b 1 rfl _ _ rfl _ G1.out _ Tryz.underlying3 rfl rfl ?_) | ((with_reducible refine @wpList_at _ _ _ _ _ _ _ (.load 23 (.tmp 83)) rfl ?_); refine @wpList_own_part _ _ _ _ _ _ _ _ _ 23 (.tmp 83) rfl O 3 b 165 rfl _ _ rfl (Lib.byteCells Y3) _ (fun h => R3.out _ _ h) Tryz.underlying23 rfl (sizeH _ (by rw [Lib.byteCells_length, Q3.out])) rfl ?_) | ((with_reducible refine @wpList_at _ _ _ _ _ _ _ (.load 23 (.tmp 13)) rfl ?_); refine @wpList_own_whole _ _ _ _ _ _ _ _ _ 23 (.tmp 13) rfl O 0 p1 rfl (Lib.byteCells X1) _ rfl _ Tryz.underlying23 rfl (sizeH _ (by rw [Lib.byteCells_length, L1.out])) rfl ?_) | ((with_reducible refine @wpList_at _ _ _ _ _ _ _ (.binOp .neq 23 (.tmp 84) (.tmp 85) 23) rfl ?_); refine @wpList_neq_own _ _ _ _ _ _ _ 23 _ (.tmp 84) (.tmp 85) rfl (Lib.byteCells Y3) (Lib.byteCells X1) kHash rfl rfl hash_flat (hash_fits _ Q3.out) (hash_fits _ L1.out) rfl (by kernel_rfl) rfl ?_; rw [N3.out]) | ((with_reducible refine @wpList_at _ _ _ _ _ _ _ (.load 29 (.tmp 89)) rfl ?_); refine @wpList_own_cell _ _ _ _ _ _ _ _ _ 29 (.tmp 89) rfl O 3 b 198 rfl _ _ rfl _ G198.out _ Tryz.underlying29 rfl rfl ?_) | ((with_reducible refine @wpList_at _ _ _ _ _ _ _ (.load 28 (.tmp 92)) rfl ?_); refine @wpList_own_part _ _ _ _ _ _ _ _ _ 28 (.tmp 92) rfl O 3 b 163 rfl _ _ rfl x.comCells _ (fun h => LtR.com_at h HX.out) Tryz.underlying28 rfl (by rw [LtR.com_length HX.out]; exact sizeCommit) rfl ?_))
  refine (C7.out _ O.grown).mono ?_
  rintro e w ⟨rfl, g⟩
  replace O := O.call g
  clear g
  go_wp2_with fail
  go_ret
  rw [J.out]
  exact ⟨rfl, O.grown⟩
 ·subst h0
  go_wp2_with (first | ((with_reducible refine @wpList_at _ _ _ _ _ _ _ (.alloc 23) rfl ?_); refine @wpList_own_alloc _ _ _ _ _ _ _ _ _ 23 rfl ZH ZH_info O rfl ?_; clear O; intro p1 w O) | ((with_reducible refine @wpList_at _ _ _ _ _ _ _ (.store 23 (.tmp 13) (.tmp 72)) rfl ?_); refine @wpList_own_store _ _ _ _ _ _ _ _ _ 23 (.tmp 13) (.tmp 72) rfl O 0 p1 rfl (Lib.byteCells X1) ZH _ rfl rfl (by rw [Lib.byteCells_length, L1.out]; rfl) (oneCell_bytes _) (sizeH _ (by rw [Lib.byteCells_length, L1.out])) rfl ?_; clear O; intro w O; simp only [List.set_cons_zero] at O) | ((with_reducible refine @wpList_at _ _ _ _ _ _ _ (.load 3 (.tmp 75)) rfl ?_); refine @wpList_own_cell _ _ _ _ _ _ _ _ _ 3 (.tmp 75) rfl O 3 b 163 rfl _ _ rfl _ G163.out _ Tryz.underlying3 rfl rfl ?_) | ((with_reducible refine @wpList_at _ _ _ _ _ _ _ (.load 3 (.tmp 78)) rfl ?_); refine @wpList_own_cell _ _ _ _ _ _ _ _ _ 3 (.tmp 78) rfl O 3 b 1 rfl _ _ rfl _ G1.out _ Tryz.underlying3 rfl rfl ?_) | ((with_reducible refine @wpList_at _ _ _ _ _ _ _ (.load 23 (.tmp 83)) rfl ?_); refine @wpList_own_part _ _ _ _ _ _ _ _ _ 23 (.tmp 83) rfl O 3 b 165 rfl _ _ rfl (Lib.byteCells Y3) _ (fun h => R3.out _ _ h) Tryz.underlying23 rfl (sizeH _ (by rw [Lib.byteCells_length, Q3.out])) rfl ?_) | ((with_reducible refine @wpList_at _ _ _ _ _ _ _ (.load 23 (.tmp 13)) rfl ?_); refine @wpList_own_whole _ _ _ _ _ _ _ _ _ 23 (.tmp 13) rfl O 0 p1 rfl (Lib.byteCells X1) _ rfl _ Tryz.underlying23 rfl (sizeH _ (by rw [Lib.byteCells_length, L1.out])) rfl ?_) | ((with_reducible refine @wpList_at _ _ _ _ _ _ _ (.binOp .neq 23 (.tmp 84) (.tmp 85) 23) rfl ?_); refine @wpList_neq_own _ _ _ _ _ _ _ 23 _ (.tmp 84) (.tmp 85) rfl (Lib.byteCells Y3) (Lib.byteCells X1) kHash rfl rfl hash_flat (hash_fits _ Q3.out) (hash_fits _ L1.out) rfl (by kernel_rfl) rfl ?_; rw [N3.out]) | ((with_reducible refine @wpList_at _ _ _ _ _ _ _ (.load 29 (.tmp 89)) rfl ?_); refine @wpList_own_cell _ _ _ _ _ _ _ _ _ 29 (.tmp 89) rfl O 3 b 198 rfl _ _ rfl _ G198.out _ Tryz.underlying29 rfl rfl ?_) | ((with_reducible refine @wpList_at _ _ _ _ _ _ _ (.load 28 (.tmp 92)) rfl ?_); refine @wpList_own_part _ _ _ _ _ _ _ _ _ 28 (.tmp 92) rfl O 3 b 163 rfl _ _ rfl x.comCells _ (fun h => LtR.com_at h HX.out) Tryz.underlying28 rfl (by rw [LtR.com_length HX.out]; exact sizeCommit) rfl ?_))
  refine (C7.out _ O.grown).mono ?_
  rintro e w ⟨rfl, g⟩
  replace O := O.call g
  clear g
  go_wp2_with fail
  go_ret
  rw [J.out]
  exact ⟨rfl, O.grown⟩
theorem sum_total {ds : List ValD} (h : rightL ds = true) : (sumL ds).getD (-1) = totalL ds := by
 obtain ⟨n, e, _⟩ := rightL_sum h
 unfold totalL
 rw [if_pos h, e]; rfl
set_option maxHeartbeats 8000000 in
theorem RStep_ok (x y : LtR) (a b : LightD) (now : Nat) (o : OptD) (w0 : World) (ha : a.wf) (hb : b.wf) (ox : x.of w0.heap.size w0 a) (oy : y.of w0.heap.size w0 b) (hnow : now < 18446744073709551616) (ho : o.wf) (nb : b.commit.seals.length ≤ 1000)
  (hca : a.header.chain.size ≤ 140737488351232) (hcb : b.header.chain.size ≤ 140737488351232) :
  Calls Tryz.prog 18 #[.agg x.cells.toArray, .agg y.cells.toArray, .float .f64 now, .agg o.cells.toArray] w0 fun e w' => e = .returned (.int .i64 (vstepL a b now o)) ∧ w0.grownBy w' none := by
 have O := Own.start w0
 have HX := Lib.hid (ox.wf ha); have HY := Lib.hid (oy.wf hb); have OX := Lib.hid ox
 have hx := HX.out; have hy := HY.out
 have CR := fun w => ROptRight_ok o w ho
 have CF := fun w => finite_ok now w hnow
 have CE := fun w => RExpired_ok a.header.time now o w hnow ha.header.time
 have CS := fun w (g : w0.grownBy w none) => RSound_ok a.header.chain y b w hb (oy.up g (Nat.le_refl _)) nb hca hcb
 have CH := fun w => RHeaderHash x.header w hx.header (by rw [ox.header]; exact hca)
 have CV := fun w (g : w0.grownBy w none) => RShared_ok (.slice x.na x.nn x.nc) a.next a.header.chain b.commit y.comCells w (ox.grown g).next hca hb.commit ((oy.up g (Nat.le_refl _)).com) nb g.size
 have CU : ∀ w, w0.grownBy w none → Calls Tryz.prog 30 #[.slice x.na x.nn x.nc] w fun e w' => e = .returned (.int .i64 ((sumL a.next).getD (-1))) ∧ w' = w := fun w g => (RSumV_ok (.slice x.na x.nn x.nc) a.next w (ox.grown g).next).mono (fun e w' h => ⟨h.1, h.2.symm⟩)
 have hsubE : finB now = true → ∃ z, floatBits .sub .f64 (i2f b.header.time) now = some z := fun h => by
  obtain ⟨z, h1, _⟩ := sub_fin (i2f_fin b.header.time ⟨hb.header.time.1, by have := hb.header.time.2; omega⟩).1 ((finB_iff hnow).1 h)
  exact ⟨z, h1⟩
 have P0 := Lib.hid (show x.cells[0]? = some (.string a.header.chain) by rw [← ox.header]; rfl)
 have P1 := Lib.hid (show x.cells[1]? = some (.int .i64 a.header.height) by rw [← ox.header]; rfl)
 have P2 := Lib.hid (show x.cells[2]? = some (.int .i64 a.header.time) by rw [← ox.header]; rfl)
 have Q1 := Lib.hid (show y.cells[1]? = some (.int .i64 b.header.height) by rw [← oy.header]; rfl)
 have Q2 := Lib.hid (show y.cells[2]? = some (.int .i64 b.header.time) by rw [← oy.header]; rfl)
 have P199 := Lib.hid (LtR.get_next x hx)
 have HW := Lib.hid ha.header
 have HD := Lib.hid (show ∀ (w : World) (g : Nat), RowAt w g 0 x.cells → RowAt w g 0 a.header.cells from fun _ _ h => by have := LtR.hdr_at h hx; rwa [ox.header] at this)
 have hha := ha.header.height; have hhb := hb.header.height
 have K1 := hb.header.set; have K2 := ha.header.next; have K3 := hb.header.last
 have R1 : ∀ (w : World) (g : Nat), RowAt w g 0 y.cells → RowAt w g 35 (Lib.byteCells b.header.set) := fun _ _ h => by have := LtR.hset_at h hy; rwa [oy.header] at this
 have R2 : ∀ (w : World) (g : Nat), RowAt w g 0 x.cells → RowAt w g 67 (Lib.byteCells a.header.next) := fun _ _ h => by have := LtR.hnext_at h hx; rwa [ox.header] at this
 have R3 : ∀ (w : World) (g : Nat), RowAt w g 0 y.cells → RowAt w g 3 (Lib.byteCells b.header.last) := fun _ _ h => by have := LtR.last_at h hy; rwa [oy.header] at this
 have L1 := Lib.hid (show (hdrHash a.header).length = 32 from blake_len _)
 unfold RHashes at CH
 rw [ox.header] at CH
 have EX1 : blake (2 :: encHeader a.header) = hdrHash a.header := rfl
 rw [EX1] at CH
 have hs := @shared_small a.next a.header.chain b.commit nb
 have hsk := @shared_ok a.next a.header.chain b.commit
 have ht := total_small a.next
 have hst := @sum_total a.next
 have hlv := fun (h : rightO o = true) => ((rightO_iff ho).1 h).1
 have EV : vstepL a b now o = if rightO o = false then 151 else if finB now = false then 154 else if expF a.header.time now o = true then 155 else
  if b.header.height ≤ a.header.height ∨ b.header.time ≤ a.header.time then 153 else
  if gtF (subF (i2f b.header.time) now) o.drift = true then 156 else
  if soundL a.header.chain b ≠ 0 then soundL a.header.chain b else
  if b.header.height - 1 = a.header.height then (if b.header.set ≠ a.header.next then 157 else if okHeader a.header = false ∨ b.header.last ≠ hdrHash a.header then 153 else 0) else
  (if (sharedL a.next a.header.chain b.commit).2 ≠ 0 then 159 else if excL (sharedL a.next a.header.chain b.commit).1 (totalL a.next) o.level = false then 159 else 0) := rfl
 rw [EV]
 obtain ⟨r, hr⟩ : ∃ z, rightO o = z := ⟨_, rfl⟩
 obtain ⟨fi, hfi⟩ : ∃ z, finB now = z := ⟨_, rfl⟩
 obtain ⟨ex, hex⟩ : ∃ z, expF a.header.time now o = z := ⟨_, rfl⟩
 obtain ⟨s, hs0⟩ : ∃ z, soundL a.header.chain b = z := ⟨_, rfl⟩
 obtain ⟨gt, hgt⟩ : ∃ z, gtF (subF (i2f b.header.time) now) o.drift = z := ⟨_, rfl⟩
 obtain ⟨k, hk⟩ : ∃ z, okHeader a.header = z := ⟨_, rfl⟩
 obtain ⟨X1, hX1⟩ : ∃ z, hdrHash a.header = z := ⟨_, rfl⟩
 obtain ⟨Y1, hY1⟩ : ∃ z, b.header.set = z := ⟨_, rfl⟩
 obtain ⟨Y2, hY2⟩ : ∃ z, a.header.next = z := ⟨_, rfl⟩
 obtain ⟨Y3, hY3⟩ : ∃ z, b.header.last = z := ⟨_, rfl⟩
 obtain ⟨h1, eh1⟩ : ∃ z, a.header.height = z := ⟨_, rfl⟩
 obtain ⟨t1, et1⟩ : ∃ z, a.header.time = z := ⟨_, rfl⟩
 obtain ⟨h2, eh2⟩ : ∃ z, b.header.height = z := ⟨_, rfl⟩
 obtain ⟨t2, et2⟩ : ∃ z, b.header.time = z := ⟨_, rfl⟩
 obtain ⟨n, hn⟩ : ∃ z, (sharedL a.next a.header.chain b.commit).1 = z := ⟨_, rfl⟩
 obtain ⟨e1, he1⟩ : ∃ z, (sharedL a.next a.header.chain b.commit).2 = z := ⟨_, rfl⟩
 obtain ⟨t, ht1⟩ : ∃ z, totalL a.next = z := ⟨_, rfl⟩
 rw [hr] at CR hlv ⊢; rw [hfi] at CF hsubE ⊢; rw [hex] at CE ⊢; rw [hs0] at CS ⊢; rw [hgt]; rw [hk] at CH ⊢; rw [hX1] at CH L1 ⊢
 rw [hY1] at K1 R1 ⊢; rw [hY2] at K2 R2 ⊢; rw [hY3] at K3 R3 ⊢
 rw [hn, he1] at CV hs ⊢; rw [ht1] at ht hst ⊢
 rw [he1] at hsk
 unfold subF i2f at hgt
 unfold i2f at hsubE
 unfold gtF ordF at hgt
 rw [eh1] at P1 hha ⊢; rw [et1] at P2 CE ⊢; rw [eh2] at Q1 hhb ⊢; rw [et2] at Q2 hsubE hgt ⊢
 obtain ⟨n1, hn1⟩ : ∃ n, (!VEq (Lib.byteCells Y1) (Lib.byteCells Y2)) = n := ⟨_, rfl⟩
 obtain ⟨n2, hn2⟩ : ∃ n, (!VEq (Lib.byteCells Y3) (Lib.byteCells X1)) = n := ⟨_, rfl⟩
 have I1 := Lib.hid (hne hn1); have I2 := Lib.hid (hne hn2); have N1 := Lib.hid hn1; have N2 := Lib.hid hn2
 obtain ⟨V, hV⟩ : ∃ V, (if r = false then (151 : Int) else if fi = false then 154 else if ex = true then 155 else if h2 ≤ h1 ∨ t2 ≤ t1 then 153 else if gt = true then 156 else if s ≠ 0 then s else if h2 - 1 = h1 then (if Y1 ≠ Y2 then 157 else if k = false ∨ Y3 ≠ X1 then 153 else 0) else
  (if e1 ≠ 0 then 159 else if excL n t o.level = false then 159 else 0)) = V := ⟨_, rfl⟩
 rw [hV]
 have HV := Lib.hid hV
 replace CR := Lib.hid CR; replace CF := Lib.hid CF; replace CE := Lib.hid CE; replace CS := Lib.hid CS; replace CH := Lib.hid CH; replace CV := Lib.hid CV; replace CU := Lib.hid CU
 have HS := Lib.hid hsubE; have HG := Lib.hid hgt; have HHa := Lib.hid hha; have HHb := Lib.hid hhb
 replace R1 := Lib.hid R1; replace R2 := Lib.hid R2; replace R3 := Lib.hid R3; replace K1 := Lib.hid K1; replace K2 := Lib.hid K2; replace K3 := Lib.hid K3
 have HSS := Lib.hid hs; have HSK := Lib.hid hsk; have HT := Lib.hid ht; have HST := Lib.hid hst; have HLV := Lib.hid hlv
 clear hV hr hfi hex hs0 hgt hsubE eh1 et1 eh2 et2 ha hb ox oy ho nb hca hcb hnow hha hhb hn1 hn2 hk hX1 hY1 hY2 hY3 hn he1 ht1 hs hsk ht hst hlv EX1 EV hx hy
 go_enter Tryz.func18, Tryz.ntmps18
 go_wp2_with (first | ((with_reducible refine @wpList_at _ _ _ _ _ _ _ (.box 31 (.tmp 0)) rfl ?_); refine @wpList_own_box _ _ _ _ _ _ _ _ _ 31 (.tmp 0) rfl x.cells rfl O rfl ?_; clear O; intro bx w O) | ((with_reducible refine @wpList_at _ _ _ _ _ _ _ (.box 31 (.tmp 1)) rfl ?_); refine @wpList_own_box _ _ _ _ _ _ _ _ _ 31 (.tmp 1) rfl y.cells rfl O rfl ?_; clear O; intro bY w O) | ((with_reducible refine @wpList_at _ _ _ _ _ _ _ (.box 35 (.tmp 3)) rfl ?_); refine @wpList_own_box _ _ _ _ _ _ _ _ _ 35 (.tmp 3) rfl o.cells rfl O rfl ?_; clear O; intro bo w O) | ((with_reducible refine @wpList_at _ _ _ _ _ _ _ (.load 35 (.tmp 7)) rfl ?_); refine @wpList_own_whole _ _ _ _ _ _ _ _ _ 35 (.tmp 7) rfl O 0 bo rfl o.cells _ rfl _ Tryz.underlying35 rfl sizeOpt rfl ?_))
 refine (CR.out _).mono ?_
 rintro e w ⟨rfl, g⟩
 replace O := O.call g
 clear g
 go_wp2_with (fail)
 refine (CF.out _).mono ?_
 rintro e w ⟨rfl, g⟩
 replace O := O.call g
 clear g
 cases r with
 | false =>
  have hv := HV.out; rw [if_pos rfl] at hv; replace HV := Lib.hid hv; clear hv
  go_wp2_with (fail)
  go_ret
  rw [← HV.out]
  exact ⟨rfl, O.grown⟩
 | true =>
 have hv := HV.out; rw [if_neg (by decide)] at hv; replace HV := Lib.hid hv; clear hv
 cases fi with
 | false =>
  have hv := HV.out; rw [if_pos rfl] at hv; replace HV := Lib.hid hv; clear hv
  go_wp2_with (fail)
  go_ret
  rw [← HV.out]
  exact ⟨rfl, O.grown⟩
 | true =>
 have hv := HV.out; rw [if_neg (by decide)] at hv; replace HV := Lib.hid hv; clear hv
 go_wp2_with (first | ((with_reducible refine @wpList_at _ _ _ _ _ _ _ (.load 35 (.tmp 7)) rfl ?_); refine @wpList_own_whole _ _ _ _ _ _ _ _ _ 35 (.tmp 7) rfl O 0 bo rfl o.cells _ rfl _ Tryz.underlying35 rfl sizeOpt rfl ?_) | ((with_reducible refine @wpList_at _ _ _ _ _ _ _ (.load 3 (.tmp 29)) rfl ?_); refine @wpList_own_cell _ _ _ _ _ _ _ _ _ 3 (.tmp 29) rfl O 2 bx 2 rfl _ _ rfl _ P2.out _ Tryz.underlying3 rfl rfl ?_))
 refine (CE.out _).mono ?_
 rintro e w ⟨rfl, g⟩
 replace O := O.call g
 clear g
 cases ex with
 | true =>
  have hv := HV.out; rw [if_pos rfl] at hv; replace HV := Lib.hid hv; clear hv
  go_wp2_with (fail)
  go_ret
  rw [← HV.out]
  exact ⟨rfl, O.grown⟩
 | false =>
 have hv := HV.out; rw [if_neg (by decide)] at hv; replace HV := Lib.hid hv; clear hv
 by_cases c1 : h2 ≤ h1
 ·have hv := HV.out; rw [if_pos (.inl c1)] at hv; replace HV := Lib.hid hv; clear hv
  go_wp2_with (first | ((with_reducible refine @wpList_at _ _ _ _ _ _ _ (.load 3 (.tmp 38)) rfl ?_); refine @wpList_own_cell _ _ _ _ _ _ _ _ _ 3 (.tmp 38) rfl O 1 bY 1 rfl _ _ rfl _ Q1.out _ Tryz.underlying3 rfl rfl ?_) | ((with_reducible refine @wpList_at _ _ _ _ _ _ _ (.load 3 (.tmp 41)) rfl ?_); refine @wpList_own_cell _ _ _ _ _ _ _ _ _ 3 (.tmp 41) rfl O 2 bx 1 rfl _ _ rfl _ P1.out _ Tryz.underlying3 rfl rfl ?_))
  go_ret
  rw [← HV.out]
  exact ⟨rfl, O.grown⟩
 by_cases c2 : t2 ≤ t1
 ·have hv := HV.out; rw [if_pos (.inr c2)] at hv; replace HV := Lib.hid hv; clear hv
  have d1 : decide (h2 ≤ h1) = false := decide_eq_false c1
  have d2 : decide (t2 ≤ t1) = true := decide_eq_true c2
  clear c1 c2
  go_wp2_with (first | ((with_reducible refine @wpList_at _ _ _ _ _ _ _ (.load 3 (.tmp 38)) rfl ?_); refine @wpList_own_cell _ _ _ _ _ _ _ _ _ 3 (.tmp 38) rfl O 1 bY 1 rfl _ _ rfl _ Q1.out _ Tryz.underlying3 rfl rfl ?_) | ((with_reducible refine @wpList_at _ _ _ _ _ _ _ (.load 3 (.tmp 41)) rfl ?_); refine @wpList_own_cell _ _ _ _ _ _ _ _ _ 3 (.tmp 41) rfl O 2 bx 1 rfl _ _ rfl _ P1.out _ Tryz.underlying3 rfl rfl ?_) | ((with_reducible refine @wpList_at _ _ _ _ _ _ _ (.load 3 (.tmp 46)) rfl ?_); refine @wpList_own_cell _ _ _ _ _ _ _ _ _ 3 (.tmp 46) rfl O 1 bY 2 rfl _ _ rfl _ Q2.out _ Tryz.underlying3 rfl rfl ?_) | ((with_reducible refine @wpList_at _ _ _ _ _ _ _ (.load 3 (.tmp 49)) rfl ?_); refine @wpList_own_cell _ _ _ _ _ _ _ _ _ 3 (.tmp 49) rfl O 2 bx 2 rfl _ _ rfl _ P2.out _ Tryz.underlying3 rfl rfl ?_))
  go_ret
  rw [← HV.out]
  exact ⟨rfl, O.grown⟩
 have hv := HV.out; rw [if_neg (fun h => h.elim c1 c2)] at hv; replace HV := Lib.hid hv; clear hv
 have d1 : decide (h2 ≤ h1) = false := decide_eq_false c1
 have d2 : decide (t2 ≤ t1) = false := decide_eq_false c2
 have C1 := Lib.hid c1
 clear c1 c2
 obtain ⟨z, hz⟩ := HS.out (by trivial)
 have hgt := HG.out
 rw [hz] at hgt
 have hgt : (FloatKind.f64.format.order z o.drift == some Ordering.gt) = gt := hgt
 have hsub := fun w => run_float_arith (P := Tryz.prog) w .sub 33 .f64 (floatOfInt .f64 t2) now z hz
 clear hz
 cases gt with
 | true =>
  have hv := HV.out; rw [if_pos rfl] at hv; replace HV := Lib.hid hv; clear hv
  go_wp2_with (first | ((with_reducible refine @wpList_at _ _ _ _ _ _ _ (.load 3 (.tmp 38)) rfl ?_); refine @wpList_own_cell _ _ _ _ _ _ _ _ _ 3 (.tmp 38) rfl O 1 bY 1 rfl _ _ rfl _ Q1.out _ Tryz.underlying3 rfl rfl ?_) | ((with_reducible refine @wpList_at _ _ _ _ _ _ _ (.load 3 (.tmp 41)) rfl ?_); refine @wpList_own_cell _ _ _ _ _ _ _ _ _ 3 (.tmp 41) rfl O 2 bx 1 rfl _ _ rfl _ P1.out _ Tryz.underlying3 rfl rfl ?_) | ((with_reducible refine @wpList_at _ _ _ _ _ _ _ (.load 3 (.tmp 46)) rfl ?_); refine @wpList_own_cell _ _ _ _ _ _ _ _ _ 3 (.tmp 46) rfl O 1 bY 2 rfl _ _ rfl _ Q2.out _ Tryz.underlying3 rfl rfl ?_) | ((with_reducible refine @wpList_at _ _ _ _ _ _ _ (.load 3 (.tmp 49)) rfl ?_); refine @wpList_own_cell _ _ _ _ _ _ _ _ _ 3 (.tmp 49) rfl O 2 bx 2 rfl _ _ rfl _ P2.out _ Tryz.underlying3 rfl rfl ?_) | ((with_reducible refine @wpList_at _ _ _ _ _ _ _ (.load 3 (.tmp 55)) rfl ?_); refine @wpList_own_cell _ _ _ _ _ _ _ _ _ 3 (.tmp 55) rfl O 1 bY 2 rfl _ _ rfl _ Q2.out _ Tryz.underlying3 rfl rfl ?_) | ((with_reducible refine @wpList_at _ _ _ _ _ _ _ (.load 33 (.tmp 60)) rfl ?_); refine @wpList_own_cell _ _ _ _ _ _ _ _ _ 33 (.tmp 60) rfl O 0 bo 2 rfl _ _ rfl _ rfl _ Tryz.underlying33 rfl rfl ?_))
  go_ret
  rw [← HV.out]
  exact ⟨rfl, O.grown⟩
 | false =>
 have hv := HV.out; rw [if_neg (by decide)] at hv; replace HV := Lib.hid hv; clear hv
 go_wp2_with (first | ((with_reducible refine @wpList_at _ _ _ _ _ _ _ (.load 31 (.tmp 5)) rfl ?_); refine @wpList_own_whole _ _ _ _ _ _ _ _ _ 31 (.tmp 5) rfl O 1 bY rfl y.cells _ rfl _ Tryz.underlying31 rfl (sizeLt y HY.out) rfl ?_) | ((with_reducible refine @wpList_at _ _ _ _ _ _ _ (.load 3 (.tmp 38)) rfl ?_); refine @wpList_own_cell _ _ _ _ _ _ _ _ _ 3 (.tmp 38) rfl O 1 bY 1 rfl _ _ rfl _ Q1.out _ Tryz.underlying3 rfl rfl ?_) | ((with_reducible refine @wpList_at _ _ _ _ _ _ _ (.load 3 (.tmp 41)) rfl ?_); refine @wpList_own_cell _ _ _ _ _ _ _ _ _ 3 (.tmp 41) rfl O 2 bx 1 rfl _ _ rfl _ P1.out _ Tryz.underlying3 rfl rfl ?_) | ((with_reducible refine @wpList_at _ _ _ _ _ _ _ (.load 3 (.tmp 46)) rfl ?_); refine @wpList_own_cell _ _ _ _ _ _ _ _ _ 3 (.tmp 46) rfl O 1 bY 2 rfl _ _ rfl _ Q2.out _ Tryz.underlying3 rfl rfl ?_) | ((with_reducible refine @wpList_at _ _ _ _ _ _ _ (.load 3 (.tmp 49)) rfl ?_); refine @wpList_own_cell _ _ _ _ _ _ _ _ _ 3 (.tmp 49) rfl O 2 bx 2 rfl _ _ rfl _ P2.out _ Tryz.underlying3 rfl rfl ?_) | ((with_reducible refine @wpList_at _ _ _ _ _ _ _ (.load 3 (.tmp 55)) rfl ?_); refine @wpList_own_cell _ _ _ _ _ _ _ _ _ 3 (.tmp 55) rfl O 1 bY 2 rfl _ _ rfl _ Q2.out _ Tryz.underlying3 rfl rfl ?_) | ((with_reducible refine @wpList_at _ _ _ _ _ _ _ (.load 33 (.tmp 60)) rfl ?_); refine @wpList_own_cell _ _ _ _ _ _ _ _ _ 33 (.tmp 60) rfl O 0 bo 2 rfl _ _ rfl _ rfl _ Tryz.underlying33 rfl rfl ?_) | ((with_reducible refine @wpList_at _ _ _ _ _ _ _ (.load 9 (.tmp 64)) rfl ?_); refine @wpList_own_cell _ _ _ _ _ _ _ _ _ 9 (.tmp 64) rfl O 2 bx 0 rfl _ _ rfl _ P0.out _ Tryz.underlying9 rfl rfl ?_))
 refine (CS.out _ O.grown).mono ?_
 rintro e w ⟨rfl, g⟩
 replace O := O.call g
 clear g hsub hgt
 by_cases c3 : s = 0
 case neg =>
  have hv := HV.out; rw [if_pos c3] at hv; replace HV := Lib.hid hv; clear hv
  have d3 : (s != 0) = true := by simpa using c3
  clear c3
  go_wp2_with (fail)
  go_ret
  rw [← HV.out]
  exact ⟨rfl, O.grown⟩
 subst c3
 have hv := HV.out; rw [if_neg (fun h => h rfl)] at hv; replace HV := Lib.hid hv; clear hv
 have hw := IntWalk.i64_in (h2 - 1) (by have := HHa.out.1; have := HHb.out.2; have := C1.out; omega)
 by_cases c4 : h2 - 1 = h1
 ·have hv := HV.out; rw [if_pos c4] at hv; replace HV := Lib.hid hv; clear hv
  have d4 : (h2 - 1 == h1) = true := by simpa using c4
  clear c4
  go_wp2_with (first | ((with_reducible refine @wpList_at _ _ _ _ _ _ _ (.load 3 (.tmp 72)) rfl ?_); refine @wpList_own_cell _ _ _ _ _ _ _ _ _ 3 (.tmp 72) rfl O 1 bY 1 rfl _ _ rfl _ Q1.out _ Tryz.underlying3 rfl rfl ?_) | ((with_reducible refine @wpList_at _ _ _ _ _ _ _ (.load 3 (.tmp 76)) rfl ?_); refine @wpList_own_cell _ _ _ _ _ _ _ _ _ 3 (.tmp 76) rfl O 2 bx 1 rfl _ _ rfl _ P1.out _ Tryz.underlying3 rfl rfl ?_) | ((with_reducible refine @wpList_at _ _ _ _ _ _ _ (.load 25 (.tmp 80)) rfl ?_); refine @wpList_own_part _ _ _ _ _ _ _ _ _ 25 (.tmp 80) rfl O 2 bx 0 rfl _ _ rfl a.header.cells _ (fun h => HD.out _ _ h) Tryz.underlying25 rfl (sizeHeader _ (a.header.cells_length HW.out)) rfl ?_))
  refine (CH.out _).mono ?_
  rintro e w ⟨rfl, g⟩
  replace O := O.call g
  clear g
  cases n1 with
  | true =>
   have hv := HV.out; rw [if_pos (I1.out.1 (by trivial))] at hv; replace HV := Lib.hid hv; clear hv
   go_wp2_with (first | ((with_reducible refine @wpList_at _ _ _ _ _ _ _ (.alloc 23) rfl ?_); refine @wpList_own_alloc _ _ _ _ _ _ _ _ _ 23 rfl ZH ZH_info O rfl ?_; clear O; intro p w O) | ((with_reducible refine @wpList_at _ _ _ _ _ _ _ (.store 23 (.tmp 13) (.tmp 83)) rfl ?_); refine @wpList_own_store _ _ _ _ _ _ _ _ _ 23 (.tmp 13) (.tmp 83) rfl O 0 p rfl (Lib.byteCells X1) ZH _ rfl rfl (by rw [Lib.byteCells_length, L1.out]; rfl) (oneCell_bytes _) (sizeH _ (by rw [Lib.byteCells_length, L1.out])) rfl ?_; clear O; intro w O; simp only [List.set_cons_zero] at O) | ((with_reducible refine @wpList_at _ _ _ _ _ _ _ (.load 23 (.tmp 87)) rfl ?_); refine @wpList_own_part _ _ _ _ _ _ _ _ _ 23 (.tmp 87) rfl O 2 bY 35 rfl _ _ rfl (Lib.byteCells Y1) _ (fun h => R1.out _ _ h) Tryz.underlying23 rfl (sizeH _ (by rw [Lib.byteCells_length, K1.out])) rfl ?_) | ((with_reducible refine @wpList_at _ _ _ _ _ _ _ (.load 23 (.tmp 90)) rfl ?_); refine @wpList_own_part _ _ _ _ _ _ _ _ _ 23 (.tmp 90) rfl O 3 bx 67 rfl _ _ rfl (Lib.byteCells Y2) _ (fun h => R2.out _ _ h) Tryz.underlying23 rfl (sizeH _ (by rw [Lib.byteCells_length, K2.out])) rfl ?_) | ((with_reducible refine @wpList_at _ _ _ _ _ _ _ (.binOp .neq 23 (.tmp 88) (.tmp 91) 23) rfl ?_); refine @wpList_neq_own _ _ _ _ _ _ _ 23 _ (.tmp 88) (.tmp 91) rfl (Lib.byteCells Y1) (Lib.byteCells Y2) kHash rfl rfl hash_flat (hash_fits _ K1.out) (hash_fits _ K2.out) rfl (by kernel_rfl) rfl ?_; rw [N1.out]))
   go_ret
   rw [← HV.out]
   exact ⟨rfl, O.grown⟩
  | false =>
  have hv := HV.out; rw [if_neg (fun h => by have := I1.out.2 h; cases this)] at hv; replace HV := Lib.hid hv; clear hv
  cases k with
  | false =>
   have hv := HV.out; rw [if_pos (.inl rfl)] at hv; replace HV := Lib.hid hv; clear hv
   go_wp2_with (first | ((with_reducible refine @wpList_at _ _ _ _ _ _ _ (.alloc 23) rfl ?_); refine @wpList_own_alloc _ _ _ _ _ _ _ _ _ 23 rfl ZH ZH_info O rfl ?_; clear O; intro p w O) | ((with_reducible refine @wpList_at _ _ _ _ _ _ _ (.store 23 (.tmp 13) (.tmp 83)) rfl ?_); refine @wpList_own_store _ _ _ _ _ _ _ _ _ 23 (.tmp 13) (.tmp 83) rfl O 0 p rfl (Lib.byteCells X1) ZH _ rfl rfl (by rw [Lib.byteCells_length, L1.out]; rfl) (oneCell_bytes _) (sizeH _ (by rw [Lib.byteCells_length, L1.out])) rfl ?_; clear O; intro w O; simp only [List.set_cons_zero] at O) | ((with_reducible refine @wpList_at _ _ _ _ _ _ _ (.load 23 (.tmp 87)) rfl ?_); refine @wpList_own_part _ _ _ _ _ _ _ _ _ 23 (.tmp 87) rfl O 2 bY 35 rfl _ _ rfl (Lib.byteCells Y1) _ (fun h => R1.out _ _ h) Tryz.underlying23 rfl (sizeH _ (by rw [Lib.byteCells_length, K1.out])) rfl ?_) | ((with_reducible refine @wpList_at _ _ _ _ _ _ _ (.load 23 (.tmp 90)) rfl ?_); refine @wpList_own_part _ _ _ _ _ _ _ _ _ 23 (.tmp 90) rfl O 3 bx 67 rfl _ _ rfl (Lib.byteCells Y2) _ (fun h => R2.out _ _ h) Tryz.underlying23 rfl (sizeH _ (by rw [Lib.byteCells_length, K2.out])) rfl ?_) | ((with_reducible refine @wpList_at _ _ _ _ _ _ _ (.binOp .neq 23 (.tmp 88) (.tmp 91) 23) rfl ?_); refine @wpList_neq_own _ _ _ _ _ _ _ 23 _ (.tmp 88) (.tmp 91) rfl (Lib.byteCells Y1) (Lib.byteCells Y2) kHash rfl rfl hash_flat (hash_fits _ K1.out) (hash_fits _ K2.out) rfl (by kernel_rfl) rfl ?_; rw [N1.out]))
   go_ret
   rw [← HV.out]
   exact ⟨rfl, O.grown⟩
  | true =>
  cases n2 with
  | true =>
   have hv := HV.out; rw [if_pos (.inr (I2.out.1 (by trivial)))] at hv; replace HV := Lib.hid hv; clear hv
   go_wp2_with (first | ((with_reducible refine @wpList_at _ _ _ _ _ _ _ (.alloc 23) rfl ?_); refine @wpList_own_alloc _ _ _ _ _ _ _ _ _ 23 rfl ZH ZH_info O rfl ?_; clear O; intro p w O) | ((with_reducible refine @wpList_at _ _ _ _ _ _ _ (.store 23 (.tmp 13) (.tmp 83)) rfl ?_); refine @wpList_own_store _ _ _ _ _ _ _ _ _ 23 (.tmp 13) (.tmp 83) rfl O 0 p rfl (Lib.byteCells X1) ZH _ rfl rfl (by rw [Lib.byteCells_length, L1.out]; rfl) (oneCell_bytes _) (sizeH _ (by rw [Lib.byteCells_length, L1.out])) rfl ?_; clear O; intro w O; simp only [List.set_cons_zero] at O) | ((with_reducible refine @wpList_at _ _ _ _ _ _ _ (.load 23 (.tmp 87)) rfl ?_); refine @wpList_own_part _ _ _ _ _ _ _ _ _ 23 (.tmp 87) rfl O 2 bY 35 rfl _ _ rfl (Lib.byteCells Y1) _ (fun h => R1.out _ _ h) Tryz.underlying23 rfl (sizeH _ (by rw [Lib.byteCells_length, K1.out])) rfl ?_) | ((with_reducible refine @wpList_at _ _ _ _ _ _ _ (.load 23 (.tmp 90)) rfl ?_); refine @wpList_own_part _ _ _ _ _ _ _ _ _ 23 (.tmp 90) rfl O 3 bx 67 rfl _ _ rfl (Lib.byteCells Y2) _ (fun h => R2.out _ _ h) Tryz.underlying23 rfl (sizeH _ (by rw [Lib.byteCells_length, K2.out])) rfl ?_) | ((with_reducible refine @wpList_at _ _ _ _ _ _ _ (.binOp .neq 23 (.tmp 88) (.tmp 91) 23) rfl ?_); refine @wpList_neq_own _ _ _ _ _ _ _ 23 _ (.tmp 88) (.tmp 91) rfl (Lib.byteCells Y1) (Lib.byteCells Y2) kHash rfl rfl hash_flat (hash_fits _ K1.out) (hash_fits _ K2.out) rfl (by kernel_rfl) rfl ?_; rw [N1.out]) | ((with_reducible refine @wpList_at _ _ _ _ _ _ _ (.load 23 (.tmp 98)) rfl ?_); refine @wpList_own_part _ _ _ _ _ _ _ _ _ 23 (.tmp 98) rfl O 2 bY 3 rfl _ _ rfl (Lib.byteCells Y3) _ (fun h => R3.out _ _ h) Tryz.underlying23 rfl (sizeH _ (by rw [Lib.byteCells_length, K3.out])) rfl ?_) | ((with_reducible refine @wpList_at _ _ _ _ _ _ _ (.load 23 (.tmp 13)) rfl ?_); refine @wpList_own_whole _ _ _ _ _ _ _ _ _ 23 (.tmp 13) rfl O 0 p rfl (Lib.byteCells X1) _ rfl _ Tryz.underlying23 rfl (sizeH _ (by rw [Lib.byteCells_length, L1.out])) rfl ?_) | ((with_reducible refine @wpList_at _ _ _ _ _ _ _ (.binOp .neq 23 (.tmp 99) (.tmp 100) 23) rfl ?_); refine @wpList_neq_own _ _ _ _ _ _ _ 23 _ (.tmp 99) (.tmp 100) rfl (Lib.byteCells Y3) (Lib.byteCells X1) kHash rfl rfl hash_flat (hash_fits _ K3.out) (hash_fits _ L1.out) rfl (by kernel_rfl) rfl ?_; rw [N2.out]))
   go_ret
   rw [← HV.out]
   exact ⟨rfl, O.grown⟩
  | false =>
   have hv := HV.out; rw [if_neg (fun h => by rcases h with h | h; cases h; have := I2.out.2 h; cases this)] at hv; replace HV := Lib.hid hv; clear hv
   go_wp2_with (first | ((with_reducible refine @wpList_at _ _ _ _ _ _ _ (.alloc 23) rfl ?_); refine @wpList_own_alloc _ _ _ _ _ _ _ _ _ 23 rfl ZH ZH_info O rfl ?_; clear O; intro p w O) | ((with_reducible refine @wpList_at _ _ _ _ _ _ _ (.store 23 (.tmp 13) (.tmp 83)) rfl ?_); refine @wpList_own_store _ _ _ _ _ _ _ _ _ 23 (.tmp 13) (.tmp 83) rfl O 0 p rfl (Lib.byteCells X1) ZH _ rfl rfl (by rw [Lib.byteCells_length, L1.out]; rfl) (oneCell_bytes _) (sizeH _ (by rw [Lib.byteCells_length, L1.out])) rfl ?_; clear O; intro w O; simp only [List.set_cons_zero] at O) | ((with_reducible refine @wpList_at _ _ _ _ _ _ _ (.load 23 (.tmp 87)) rfl ?_); refine @wpList_own_part _ _ _ _ _ _ _ _ _ 23 (.tmp 87) rfl O 2 bY 35 rfl _ _ rfl (Lib.byteCells Y1) _ (fun h => R1.out _ _ h) Tryz.underlying23 rfl (sizeH _ (by rw [Lib.byteCells_length, K1.out])) rfl ?_) | ((with_reducible refine @wpList_at _ _ _ _ _ _ _ (.load 23 (.tmp 90)) rfl ?_); refine @wpList_own_part _ _ _ _ _ _ _ _ _ 23 (.tmp 90) rfl O 3 bx 67 rfl _ _ rfl (Lib.byteCells Y2) _ (fun h => R2.out _ _ h) Tryz.underlying23 rfl (sizeH _ (by rw [Lib.byteCells_length, K2.out])) rfl ?_) | ((with_reducible refine @wpList_at _ _ _ _ _ _ _ (.binOp .neq 23 (.tmp 88) (.tmp 91) 23) rfl ?_); refine @wpList_neq_own _ _ _ _ _ _ _ 23 _ (.tmp 88) (.tmp 91) rfl (Lib.byteCells Y1) (Lib.byteCells Y2) kHash rfl rfl hash_flat (hash_fits _ K1.out) (hash_fits _ K2.out) rfl (by kernel_rfl) rfl ?_; rw [N1.out]) | ((with_reducible refine @wpList_at _ _ _ _ _ _ _ (.load 23 (.tmp 98)) rfl ?_); refine @wpList_own_part _ _ _ _ _ _ _ _ _ 23 (.tmp 98) rfl O 2 bY 3 rfl _ _ rfl (Lib.byteCells Y3) _ (fun h => R3.out _ _ h) Tryz.underlying23 rfl (sizeH _ (by rw [Lib.byteCells_length, K3.out])) rfl ?_) | ((with_reducible refine @wpList_at _ _ _ _ _ _ _ (.load 23 (.tmp 13)) rfl ?_); refine @wpList_own_whole _ _ _ _ _ _ _ _ _ 23 (.tmp 13) rfl O 0 p rfl (Lib.byteCells X1) _ rfl _ Tryz.underlying23 rfl (sizeH _ (by rw [Lib.byteCells_length, L1.out])) rfl ?_) | ((with_reducible refine @wpList_at _ _ _ _ _ _ _ (.binOp .neq 23 (.tmp 99) (.tmp 100) 23) rfl ?_); refine @wpList_neq_own _ _ _ _ _ _ _ 23 _ (.tmp 99) (.tmp 100) rfl (Lib.byteCells Y3) (Lib.byteCells X1) kHash rfl rfl hash_flat (hash_fits _ K3.out) (hash_fits _ L1.out) rfl (by kernel_rfl) rfl ?_; rw [N2.out]))
   go_ret
   rw [← HV.out]
   exact ⟨rfl, O.grown⟩
 ·have hv := HV.out; rw [if_neg c4] at hv; replace HV := Lib.hid hv; clear hv
  have d4 : (h2 - 1 == h1) = false := by simpa using c4
  clear c4
  go_wp2_with (first | ((with_reducible refine @wpList_at _ _ _ _ _ _ _ (.load 3 (.tmp 72)) rfl ?_); refine @wpList_own_cell _ _ _ _ _ _ _ _ _ 3 (.tmp 72) rfl O 1 bY 1 rfl _ _ rfl _ Q1.out _ Tryz.underlying3 rfl rfl ?_) | ((with_reducible refine @wpList_at _ _ _ _ _ _ _ (.load 3 (.tmp 76)) rfl ?_); refine @wpList_own_cell _ _ _ _ _ _ _ _ _ 3 (.tmp 76) rfl O 2 bx 1 rfl _ _ rfl _ P1.out _ Tryz.underlying3 rfl rfl ?_) | ((with_reducible refine @wpList_at _ _ _ _ _ _ _ (.load 29 (.tmp 104)) rfl ?_); refine @wpList_own_cell _ _ _ _ _ _ _ _ _ 29 (.tmp 104) rfl O 2 bx 199 rfl _ _ rfl _ P199.out _ Tryz.underlying29 rfl rfl ?_) | ((with_reducible refine @wpList_at _ _ _ _ _ _ _ (.load 9 (.tmp 107)) rfl ?_); refine @wpList_own_cell _ _ _ _ _ _ _ _ _ 9 (.tmp 107) rfl O 2 bx 0 rfl _ _ rfl _ P0.out _ Tryz.underlying9 rfl rfl ?_) | ((with_reducible refine @wpList_at _ _ _ _ _ _ _ (.load 28 (.tmp 109)) rfl ?_); refine @wpList_own_part _ _ _ _ _ _ _ _ _ 28 (.tmp 109) rfl O 1 bY 163 rfl _ _ rfl y.comCells _ (fun h => LtR.com_at h HY.out) Tryz.underlying28 rfl (by rw [LtR.com_length HY.out]; exact sizeCommit) rfl ?_))
  refine (CV.out _ O.grown).mono ?_
  rintro e w ⟨rfl, g⟩
  replace O := O.call g
  clear g
  by_cases c5 : e1 = 0
  case neg =>
   have hv := HV.out; rw [if_pos c5] at hv; replace HV := Lib.hid hv; clear hv
   have d5 : (e1 != 0) = true := by simpa using c5
   clear c5
   go_wp2_with (fail)
   go_ret
   rw [← HV.out]
   exact ⟨rfl, O.grown⟩
  subst c5
  have hv := HV.out; rw [if_neg (fun h => h rfl)] at hv; replace HV := Lib.hid hv; clear hv
  obtain ⟨P, hP⟩ : ∃ P : Nat, n = P := ⟨n.toNat, by have := (HSS.out (by trivial)).1; omega⟩
  obtain ⟨T, hT⟩ : ∃ P : Nat, t = P := ⟨t.toNat, by have := HT.out.1; omega⟩
  have hP2 : P < 9223372036854775808 := by have := (HSS.out (by trivial)).2; omega
  have hT2 : T ≤ 1125899906842624 := by have := HT.out.2; omega
  subst hP hT
  have hl := HLV.out (by trivial)
  have CX : ∀ w, Calls Tryz.prog 31 #[.int .i64 P, .int .i64 T, .float .f64 o.level] w fun e w' => e = .returned (.tuple #[.bool (excL P T o.level), .int .i64 0]) ∧ w' = w := fun w => (RExc_yes P T o.level w hP2 hT2 hl.1 hl.2).mono (fun e w' h => ⟨h.1, h.2.symm⟩)
  obtain ⟨q, hq⟩ : ∃ q, excL P T o.level = q := ⟨_, rfl⟩
  rw [hq] at CX
  have hv := HV.out; rw [hq] at hv; replace HV := Lib.hid hv; clear hv
  have CU := CU.out
  rw [HST.out (HSK.out (by trivial)).1] at CU
  have CU := Lib.hid CU; replace CX := Lib.hid CX
  clear hq hl hP2 hT2
  have c199 := (O.at_ 2 rfl).row 199 _ P199.out
  have c0 := (O.at_ 0 rfl).row 0 _ rfl
  rw [Nat.zero_add] at c199 c0
  have HO := Lib.hid O
  clear O
  go_wp2_with fail
  go_quiet ((first | (go_at_call 30; with_reducible exact Calls.quiet_of_same (CU.out _ ((HO.out.drewN _).grown))) | (go_at_call 31; with_reducible exact Calls.quiet_of_same (CX.out _))))
  cases q with
  | false =>
   have hv := HV.out; rw [if_pos rfl] at hv; replace HV := Lib.hid hv; clear hv
   go_wp2_with fail
   go_ret
   rw [← HV.out]
   exact ⟨rfl, (HO.out.drewN _).grown⟩
  | true =>
   have hv := HV.out; rw [if_neg (by decide)] at hv; replace HV := Lib.hid hv; clear hv
   go_wp2_with fail
   go_ret
   rw [← HV.out]
   exact ⟨rfl, (HO.out.drewN _).grown⟩
theorem bRClient (x y z : Nat) (a : Option Addr) (n c : Nat) : Tryz.prog.built 93 [(0, .agg (⟨x, y, z⟩ : OptD).cells.toArray), (1, .slice a n c), (5, .int .i64 (-1))] = some #[.float .f64 x, .float .f64 y, .float .f64 z, .slice a n c, .slice none 0 0, .int .i64 0, .int .i64 0, .int .i64 (-1)] := by kernel_rfl
def RNewPost (X : Nat → Prop) (w : World) (l : LightD) (now : Nat) (o : OptD) (e : Ending) (w' : World) : Prop :=
 w.grownBy w' none ∧ ((bnewE l now o ≠ 0 ∧ e = .returned (.tuple #[.pointer none, .int .i64 (bnewE l now o)])) ∨
  (bnewE l now o = 0 ∧ ∃ (p : Nat) (sv : Value), e = .returned (.tuple #[.pointer (some ⟨p, 0, none⟩), .int .i64 0]) ∧ BcRep 93 X w' p sv (.slice none 0 0) (BcD.new l o) ∧ ∀ b, Foot p sv (.slice none 0 0) b → w.heap.size ≤ b))
set_option maxHeartbeats 8000000 in
theorem RNew_ok (x : LtR) (l : LightD) (now : Nat) (o : OptD) (w0 : World) (hof : x.of w0.heap.size w0 l) (hfit : l.fit) (hnow : now < 18446744073709551616) (ho : o.wf) (X : Nat → Prop) (hX : x.inn X) (hXl : ∀ b, X b → b < w0.heap.size) :
  Calls Tryz.prog 43 #[.agg x.cells.toArray, .float .f64 now, .agg o.cells.toArray] w0 (RNewPost X w0 l now o) := by
 have XW := Lib.hid (hof.wf hfit.wf)
 have CR := fun w => ROptRight_ok o w ho
 have CN := fun w => RNan_ok now w hnow
 have CE := fun w => RExpired_ok l.header.time now o w hnow hfit.wf.header.time
 have CS := fun w (g : w0.grownBy w none) => RSound_ok l.header.chain x l w hfit.wf (hof.up g (Nat.le_refl _)) (by have := hfit.seals; omega) hfit.chain hfit.chain
 have HSS := Lib.hid (fun w (h : nanF now = false) => sub_self_run now w hnow h)
 have HNF := Lib.hid (fun (h : nanF now = true) => nan_fin hnow h)
 have P0 : x.cells[0]? = some (.string l.header.chain) := by rw [← hof.header]; rfl
 have P2 : x.cells[2]? = some (.int .i64 l.header.time) := by rw [← hof.header]; rfl
 have hsk : soundL l.header.chain l = 0 → hOk l := sound_hOk
 have HB := Lib.hid (show bnewE l now o = if rightO o = false then 151 else if finB now = false then 154 else if soundL l.header.chain l ≠ 0 then soundL l.header.chain l else if expF l.header.time now o = true then 155 else 0 from rfl)
 obtain ⟨r, hr⟩ : ∃ z, rightO o = z := ⟨_, rfl⟩
 obtain ⟨n1, hn1⟩ : ∃ z, nanF now = z := ⟨_, rfl⟩
 obtain ⟨fi, hfi⟩ : ∃ z, finB now = z := ⟨_, rfl⟩
 obtain ⟨s, hs⟩ : ∃ z, soundL l.header.chain l = z := ⟨_, rfl⟩
 obtain ⟨ex, hex⟩ : ∃ z, expF l.header.time now o = z := ⟨_, rfl⟩
 rw [hr, hfi, hs, hex] at HB
 rw [hr] at CR; rw [hn1] at CN HSS HNF; rw [hs] at CS hsk; rw [hex] at CE; rw [hfi] at HSS HNF
 obtain ⟨CH, hCH⟩ : ∃ z, l.header.chain = z := ⟨_, rfl⟩
 obtain ⟨TM, hTM⟩ : ∃ z, l.header.time = z := ⟨_, rfl⟩
 rw [hCH] at P0 CS; rw [hTM] at P2 CE
 have HO := Lib.hid ho; have HFI := Lib.hid hfit; have HSK := Lib.hid hsk; have HOF := Lib.hid hof; have HXI := Lib.hid hX; have HXL := Lib.hid hXl
 replace CR := Lib.hid CR; replace CN := Lib.hid CN; replace CE := Lib.hid CE; replace CS := Lib.hid CS; replace P0 := Lib.hid P0; replace P2 := Lib.hid P2
 have O := OwF.start (fun _ => False) w0
 clear hr hn1 hfi hs hex hCH hTM hof hfit hnow ho hsk hX hXl
 go_enter Tryz.func43, Tryz.ntmps43
 go_wp2_with (first | ((with_reducible refine @wpList_at _ _ _ _ _ _ _ (.box 31 (.tmp 0)) rfl ?_); refine @wpList_of_box _ _ _ _ _ _ _ _ _ _ 31 (.tmp 0) rfl x.cells rfl O rfl ?_; clear O; intro bx w O) | ((with_reducible refine @wpList_at _ _ _ _ _ _ _ (.box 35 (.tmp 2)) rfl ?_); refine @wpList_of_box _ _ _ _ _ _ _ _ _ _ 35 (.tmp 2) rfl o.cells rfl O rfl ?_; clear O; intro bo w O) | ((with_reducible refine @wpList_at _ _ _ _ _ _ _ (.load 35 (.tmp 5)) rfl ?_); refine @wpList_of_whole _ _ _ _ _ _ _ _ _ _ 35 (.tmp 5) rfl O 0 bo rfl o.cells _ rfl _ Tryz.underlying35 rfl sizeOpt rfl ?_))
 refine (CR.out _).mono ?_
 rintro e w ⟨rfl, g⟩
 replace O := O.call g
 clear g
 go_wp2_with (fail)
 refine (CN.out _).mono ?_
 rintro e w' ⟨rfl, rfl⟩
 cases r with
 | false =>
  have hv := HB.out; rw [if_pos rfl] at hv; replace HB := Lib.hid hv; clear hv
  go_wp2_with (fail)
  go_ret2
  exact ⟨O.tch.grown (fun _ h => h.elim), .inl ⟨by rw [HB.out]; decide, by rw [HB.out]; rfl⟩⟩
 | true =>
 have hv := HB.out; rw [if_neg (by decide)] at hv; replace HB := Lib.hid hv; clear hv
 cases n1 with
 | true =>
  have hf := HNF.out (by trivial)
  have hv := HB.out
  rw [if_pos hf] at hv
  replace HB := Lib.hid hv
  clear hv hf
  go_wp2_with (fail)
  go_ret2
  exact ⟨O.tch.grown (fun _ h => h.elim), .inl ⟨by rw [HB.out]; decide, by rw [HB.out]; rfl⟩⟩
 | false =>
 obtain ⟨z, w1, h1, h2, h3⟩ := HSS.out w' (by trivial)
 cases fi with
 | false =>
  have hf : (FloatKind.f64.format.order z 0 == some Ordering.eq) = false := h3
  have hf2 : ¬ FloatKind.f64.format.order z 0 = some Ordering.eq := by simpa using hf
  have hf4 : (FloatKind.f64.format.order z 0 != some Ordering.eq) = true := by rw [bne, hf]; rfl
  have hv := HB.out; rw [if_pos rfl] at hv; replace HB := Lib.hid hv; clear hv
  replace O := O.call h2
  clear h3 h2
  go_wp2_with (fail)
  go_ret2
  exact ⟨O.tch.grown (fun _ h => h.elim), .inl ⟨by rw [HB.out]; decide, by rw [HB.out]; rfl⟩⟩
 | true =>
 have hf : (FloatKind.f64.format.order z 0 == some Ordering.eq) = true := h3
 have hf2 : FloatKind.f64.format.order z 0 = some Ordering.eq := by simpa using hf
 have hf4 : (FloatKind.f64.format.order z 0 != some Ordering.eq) = false := by rw [bne, hf]; rfl
 have hv := HB.out; rw [if_neg (by decide)] at hv; replace HB := Lib.hid hv; clear hv
 replace O := O.call h2
 clear h3 h2
 go_wp2_with (first | ((with_reducible refine @wpList_at _ _ _ _ _ _ _ (.load 9 (.tmp 28)) rfl ?_); refine @wpList_of_cell _ _ _ _ _ _ _ _ _ _ 9 (.tmp 28) rfl O 1 bx 0 rfl _ _ rfl _ P0.out _ Tryz.underlying9 rfl rfl ?_) | ((with_reducible refine @wpList_at _ _ _ _ _ _ _ (.load 31 (.tmp 3)) rfl ?_); refine @wpList_of_whole _ _ _ _ _ _ _ _ _ _ 31 (.tmp 3) rfl O 1 bx rfl x.cells _ rfl _ Tryz.underlying31 rfl (sizeLt _ XW.out) rfl ?_))
 refine (CS.out _ (O.tch.grown (fun _ h => h.elim))).mono ?_
 clear h1 hf2 hf hf4
 rintro e w ⟨rfl, g⟩
 replace O := O.call g
 clear g
 by_cases c1 : s = 0
 case neg =>
  have hv := HB.out; rw [if_pos c1] at hv; replace HB := Lib.hid hv; clear hv
  have d1 : (s != 0) = true := by simpa using c1
  have HC1 := Lib.hid c1
  clear c1
  go_wp2_with (fail)
  go_ret2
  rw [← HB.out] at HC1 ⊢
  exact ⟨O.tch.grown (fun _ h => h.elim), .inl ⟨HC1.out, rfl⟩⟩
 subst c1
 have hv := HB.out; rw [if_neg (fun h => h rfl)] at hv; replace HB := Lib.hid hv; clear hv
 go_wp2_with (first | ((with_reducible refine @wpList_at _ _ _ _ _ _ _ (.load 35 (.tmp 5)) rfl ?_); refine @wpList_of_whole _ _ _ _ _ _ _ _ _ _ 35 (.tmp 5) rfl O 0 bo rfl o.cells _ rfl _ Tryz.underlying35 rfl sizeOpt rfl ?_) | ((with_reducible refine @wpList_at _ _ _ _ _ _ _ (.load 3 (.tmp 36)) rfl ?_); refine @wpList_of_cell _ _ _ _ _ _ _ _ _ _ 3 (.tmp 36) rfl O 1 bx 2 rfl _ _ rfl _ P2.out _ Tryz.underlying3 rfl rfl ?_))
 refine (CE.out _).mono ?_
 rintro e w ⟨rfl, g⟩
 replace O := O.call g
 clear g
 cases ex with
 | true =>
  have hv := HB.out; rw [if_pos rfl] at hv; replace HB := Lib.hid hv; clear hv
  go_wp2_with (fail)
  go_ret2
  exact ⟨O.tch.grown (fun _ h => h.elim), .inl ⟨by rw [HB.out]; decide, by rw [HB.out]; rfl⟩⟩
 | false =>
 have hv := HB.out; rw [if_neg (by decide)] at hv; replace HB := Lib.hid hv; clear hv
 have H0 := Lib.hid O.tch.size
 have HOF1 := Lib.hid (HOF.out.up (O.tch.grown (fun _ h => h.elim)) (Nat.le_refl _))
 go_wp2_with (first | ((with_reducible refine @wpList_at _ _ _ _ _ _ _ (.load 35 (.tmp 5)) rfl ?_); refine @wpList_of_whole _ _ _ _ _ _ _ _ _ _ 35 (.tmp 5) rfl O 0 bo rfl o.cells _ rfl _ Tryz.underlying35 rfl sizeOpt rfl ?_) | ((with_reducible refine @wpList_at _ _ _ _ _ _ _ (.load 31 (.tmp 3)) rfl ?_); refine @wpList_of_whole _ _ _ _ _ _ _ _ _ _ 31 (.tmp 3) rfl O 1 bx rfl x.cells _ rfl _ Tryz.underlying31 rfl (sizeLt _ XW.out) rfl ?_) | ((with_reducible refine @wpList_at _ _ _ _ _ _ _ (.buildSlice 70 1 #[(0, .tmp 43)]) rfl ?_); refine wpList_of_slice1 70 _ rfl x.cells rfl 31 _ 200 Tryz.underlying70 light_inf2 (x.cells_length XW.out) (by decide) O rfl ?_; clear O; intro b8 w O) | ((with_reducible refine @wpList_at _ _ _ _ _ _ _ (.build 93 #[(0, .tmp 42), (1, .tmp 44), (5, .const (.int .i64 (-1)))]) rfl ?_); refine wpList_build_eq rfl 93 _ rfl [(0, .agg o.cells.toArray), (1, .slice (some ⟨b8, 0, none⟩) 1 1), (5, .int .i64 (-1))] (by kernel_rfl) [.float .f64 o.level, .float .f64 o.period, .float .f64 o.drift, .slice (some ⟨b8, 0, none⟩) 1 1, .slice none 0 0, .int .i64 0, .int .i64 0, .int .i64 (-1)] (bRClient o.level o.period o.drift (some ⟨b8, 0, none⟩) 1 1) ?_) | ((with_reducible refine @wpList_at _ _ _ _ _ _ _ (.box 93 (.tmp 45)) rfl ?_); refine @wpList_of_box _ _ _ _ _ _ _ _ _ _ 93 (.tmp 45) rfl [.float .f64 o.level, .float .f64 o.period, .float .f64 o.drift, .slice (some ⟨b8, 0, none⟩) 1 1, .slice none 0 0, .int .i64 0, .int .i64 0, .int .i64 (-1)] rfl O rfl ?_; clear O; intro b9 w O))
 go_ret2
 have hz0 := H0.out
 have l9 := (O.lie 0 rfl).resolve_right id; have l8 := (O.lie 1 rfl).resolve_right id
 have e8 : ∀ b, (Value.slice (some ⟨b8, 0, none⟩) 1 1).ownBlock = some b → b = b8 := fun b e => by injection e with e; exact e.symm
 refine ⟨O.tch.grown (fun _ h => h.elim), .inr ⟨HB.out, b9, .slice (some ⟨b8, 0, none⟩) 1 1, rfl, ⟨O.at_ 0 rfl, LRow.one (O.at_ 1 rfl) (HOF.out.up (O.tch.grown (fun _ h => h.elim)) (Nat.le_refl _)) HXI.out HFI.out, LRow.nil _ _, ?_, by simp [Value.ownBlock], fun b _ => by simp [Value.ownBlock], ?_, new_ok HO.out (HSK.out (by trivial))⟩, ?_⟩⟩
 ·intro e
  have := e8 b9 e
  exact O.ne (i := 0) (j := 1) rfl rfl (by decide) this
 ·intro b hb
  have h1 := HXL.out b hb
  have h2 := (O.at_ 0 rfl).lt
  exact ⟨by omega, by omega, fun e => by have := e8 b e; omega, by simp [Value.ownBlock]⟩
 ·intro b hb
  rcases hb with hb | hb | hb
  ·omega
  ·have := e8 b hb; omega
  ·cases hb
set_option maxHeartbeats 4000000 in
theorem RGoal_ok {I : Nat → Prop} {w0 : World} {p : Nat} {sv pv : Value} {c : BcD} (h : BcRep 93 I w0 p sv pv c) (n : Int) :
  Calls Tryz.prog 44 #[.pointer (some ⟨p, 0, none⟩), .int .i64 n] w0 fun e w' => e = .returned (.int .i64 (c.goal n).2) ∧ BcPost 93 I w0 p sv pv (c.goal n).1 w' := by
 by_cases q1 : 1099511627776 < n
 ·have d1 : decide (1099511627776 < n) = true := decide_eq_true q1
  have E : c.goal n = (c, 1) := by unfold BcD.goal; rw [if_pos q1]
  have HE := Lib.hid E; have H := Lib.hid h
  clear q1 E h
  go_enter Tryz.func44, Tryz.ntmps44
  go_wp2_with fail
  go_ret
  rw [HE.out]
  exact ⟨rfl, BcPost.same H.out (gb_refl _)⟩
 ·have d1 : decide (1099511627776 < n) = false := decide_eq_false q1
  obtain ⟨m, gs, os, cs, y, hm, rfl, hle, hcm, hrow, hof, hin, hfit⟩ := h.last
  have YW := Lib.hid (hof.wf hfit.wf)
  have CL := Lib.hid (fun w (gg : w0.grownBy w none) => Rlast_ok (h.grown gg) hle hcm (hrow.grown gg (by simp)) YW.out)
  have P1 : y.header.cells[1]? = some (.int .i64 (lastB c.store).header.height) := by rw [← hof.header]; rfl
  have hg := h.ok.goal q1
  have hbig : m + 1 ≤ 100000 := by have := h.ok.room; omega
  by_cases q2 : n ≤ (lastB c.store).header.height
  ·have d2 : decide (n ≤ (lastB c.store).header.height) = true := decide_eq_true q2
   have E : c.goal n = (c, 153) := by unfold BcD.goal; rw [if_neg q1, if_pos q2]
   have HE := Lib.hid E; have H := Lib.hid h
   obtain ⟨A1, hA1⟩ : ∃ z, (lastB c.store).header.height = z := ⟨_, rfl⟩
   rw [hA1] at P1 d2
   replace P1 := Lib.hid P1
   clear q1 q2 E h hm hrow hof hin hfit hg hA1
   go_enter Tryz.func44, Tryz.ntmps44
   go_wp2_with fail
   refine (CL.out _ (gb_refl _)).mono ?_
   rintro e w ⟨rfl, g⟩
   go_wp2_with (first | ((with_reducible refine @wpList_at _ _ _ _ _ _ _ (.field 31 (.tmp 9) 0) rfl ?_); refine wpList_field_part 31 (.tmp 9) 0 rfl y.cells rfl _ Tryz.underlying31 25 0 rfl _ Tryz.underlying25 rfl y.header.cells (sizeHeader _ (y.header.cells_length YW.out.header)) (LtR.hdr_field YW.out) rfl ?_) | ((with_reducible refine @wpList_at _ _ _ _ _ _ _ (.field 25 (.tmp 10) 1) rfl ?_); refine wpList_field_one 25 (.tmp 10) 1 rfl y.header.cells rfl _ Tryz.underlying25 3 1 rfl _ Tryz.underlying3 rfl _ P1.out rfl ?_))
   go_ret
   rw [HE.out]
   exact ⟨rfl, BcPost.same H.out g⟩
  ·have d2 : decide (n ≤ (lastB c.store).header.height) = false := decide_eq_false q2
   have hg := hg q2
   have CD := Lib.hid (fun w (gg : w0.grownBy w none) => Rdrop_ok (h.grown gg))
   obtain ⟨c', hc'⟩ : ∃ x, (c.goal n).1 = x := ⟨_, rfl⟩
   have E : c.goal n = (c', 0) ∧ c' = { c with pend := [], want := n, fet := 0, frm := (c.store.length : Int) - 1 } := by
    rw [← hc']; unfold BcD.goal; rw [if_neg q1, if_neg q2]; exact ⟨rfl, rfl⟩
   rw [hc'] at hg
   have HE := Lib.hid E; have H := Lib.hid h; have HG := Lib.hid hg; have HM := Lib.hid hm
   obtain ⟨A1, hA1⟩ : ∃ z, (lastB c.store).header.height = z := ⟨_, rfl⟩
   rw [hA1] at P1 d2
   replace P1 := Lib.hid P1
   have ew := IntWalk.i64_in (m : Int) (by omega)
   clear q1 q2 E h hm hrow hof hin hfit hg hA1 hc'
   go_enter Tryz.func44, Tryz.ntmps44
   go_wp2_with fail
   refine (CL.out _ (gb_refl _)).mono ?_
   rintro e w ⟨rfl, g⟩
   go_wp2_with (first | ((with_reducible refine @wpList_at _ _ _ _ _ _ _ (.field 31 (.tmp 9) 0) rfl ?_); refine wpList_field_part 31 (.tmp 9) 0 rfl y.cells rfl _ Tryz.underlying31 25 0 rfl _ Tryz.underlying25 rfl y.header.cells (sizeHeader _ (y.header.cells_length YW.out.header)) (LtR.hdr_field YW.out) rfl ?_) | ((with_reducible refine @wpList_at _ _ _ _ _ _ _ (.field 25 (.tmp 10) 1) rfl ?_); refine wpList_field_one 25 (.tmp 10) 1 rfl y.header.cells rfl _ Tryz.underlying25 3 1 rfl _ Tryz.underlying3 rfl _ P1.out rfl ?_))
   refine (CD.out _ g).mono ?_
   rintro e w2 ⟨rfl, r2, t2⟩
   have O := (OwF.start (fun b => b = p) w2).add r2.blk rfl (by simp)
   have R2 := Lib.hid r2; have T2 := Lib.hid ((Tch.of_grown (F := fun b => b = p) g).trans t2 (fun b hb _ => hb))
   clear g r2 t2
   go_wp2_with (first | ((with_reducible refine @wpList_at _ _ _ _ _ _ _ (.load 70 (.tmp 25)) rfl ?_); refine @wpList_of_cell _ _ _ _ _ _ _ _ _ _ 70 (.tmp 25) rfl O 0 p 3 rfl _ _ rfl _ rfl _ Tryz.underlying70 rfl rfl ?_) | ((with_reducible refine @wpList_at _ _ _ _ _ _ _ (.store 3 (.tmp 18) (.tmp 16)) rfl ?_); refine @wpList_of_store_cell _ _ _ _ _ _ _ _ _ _ 3 (.tmp 18) (.tmp 16) rfl O 0 p 5 rfl (.int .i64 n) rfl (by kernel_rfl) _ _ rfl (by show (5 : Nat) < 8; decide) rfl rfl ?_; clear O; intro w O; simp only [List.set_cons_zero] at O) | ((with_reducible refine @wpList_at _ _ _ _ _ _ _ (.store 3 (.tmp 21) (.const (.int .i64 0))) rfl ?_); refine @wpList_of_store_cell _ _ _ _ _ _ _ _ _ _ 3 (.tmp 21) (.const (.int .i64 0)) rfl O 0 p 6 rfl (.int .i64 0) rfl (by kernel_rfl) _ _ rfl (by show (6 : Nat) < 8; decide) rfl rfl ?_; clear O; intro w O; simp only [List.set_cons_zero] at O) | ((with_reducible refine @wpList_at _ _ _ _ _ _ _ (.store 3 (.tmp 30) (.tmp 28)) rfl ?_); refine @wpList_of_store_cell _ _ _ _ _ _ _ _ _ _ 3 (.tmp 30) (.tmp 28) rfl O 0 p 7 rfl (.int .i64 (m : Int)) rfl (by kernel_rfl) _ _ rfl (by show (7 : Nat) < 8; decide) rfl rfl ?_; clear O; intro w O; simp only [List.set_cons_zero] at O))
   go_ret
   obtain ⟨e1, e2⟩ := HE.out
   rw [e1]
   have e3 : bcCells c' (.slice (some ⟨gs, os, none⟩) (m + 1) cs) (.slice none 0 0) = bcCells { c with pend := [], want := n, fet := 0, frm := (m : Int) } (.slice (some ⟨gs, os, none⟩) (m + 1) cs) (.slice none 0 0) := by
    rw [e2, HM.out, show (((m + 1 : Nat) : Int) - 1) = (m : Int) by omega]
   refine ⟨rfl, BcPost.own (R2.out.put O.tch (by rw [e3]; exact O.at_ 0 rfl) (by rw [e2]; rfl) (.inl ⟨rfl, by rw [e2]; rfl⟩) HG.out) (T2.out.trans O.tch (fun b hb _ => hb)) (.inr rfl)⟩
set_option maxHeartbeats 4000000 in
theorem RTrace_ok {I : Nat → Prop} {w0 : World} {p : Nat} {sv pv : Value} {c : BcD} (h : BcRep 93 I w0 p sv pv c) :
  Calls Tryz.prog 49 #[.pointer (some ⟨p, 0, none⟩)] w0 fun e w' => ∃ a n k, e = .returned (.slice a n k) ∧ LRow I w' (.slice a n k) c.trace ∧ w0.grownBy w' none := by
 have HFR := Lib.hid h.ok.frm
 have F7 := Lib.hid (h.blk.cellr (bc_get _ _ _).2.2.2.2)
 by_cases q1 : c.frm < 0
 ·have E : c.trace = [] := by unfold BcD.trace; rw [if_pos q1]
  have HE := Lib.hid E
  have c7 := F7.out.at_one
  clear h E
  go_enter Tryz.func49, Tryz.ntmps49
  go_wp2_with fail
  go_ret
  rw [HE.out]
  exact ⟨_, _, _, rfl, LRow.nil _ _, gb_refl _⟩
 ·obtain ⟨m, gs, os, cs, y, hm, rfl, hle, hcm, _⟩ := h.last
  obtain ⟨f, hf⟩ : ∃ f : Nat, c.frm = (f : Int) := ⟨c.frm.toNat, by omega⟩
  have hfl := h.ok.frm.2
  rw [hm, hf] at hfl
  have E : c.trace = c.store.drop f := by unfold BcD.trace; rw [if_neg q1, hf]; rfl
  have HROW := Lib.hid (show LRow I w0 (.slice (some ⟨gs, os + f * 200, none⟩) (m + 1 - f) (cs - f)) (c.store.drop f) by
   have k := h.store
   rw [← hm] at k ⊢
   exact k.drop (by omega))
  have HE := Lib.hid E
  have c7 := F7.out.at_one
  rw [hf] at c7
  have c3 := (h.blk.cellr (bc_get _ _ _).1).at_one
  unfold maxLen at hcm
  have ewf := IntWalk.i64_in (f : Int) (by omega)
  have hcapf : ¬ cs = f := by omega
  have hfi : (f : Int) ≤ ((m + 1 : Nat) : Int) := by omega
  have hfi2 : (f : Int) ≤ (m : Int) + 1 := by omega
  have hfn : f ≤ m + 1 := by omega
  clear h E hm hf q1 hfl
  go_enter Tryz.func49, Tryz.ntmps49
  go_upto_region 3 with (fail)
  go_quiet (fail)
  go_wp2_with fail
  go_ret
  rw [HE.out]
  exact ⟨_, _, _, rfl, HROW.out.grown (dr_grown _ nq), dr_grown _ nq⟩
section
variable {T : TypeId} {I I' : Nat → Prop} {w u w' : World} {p : Nat} {sv pv pv' : Value} {c c' : BcD} {l : LightD}
theorem BcRep.later {g o cp f : Nat} (h : BcRep T I w p (.slice (some ⟨g, o, none⟩) c.store.length cp) pv c) (t : Tch (fun b => b = p) w w') (hf : f ≤ c.store.length) (hb : Blk w' p (bcCells c' (.slice (some ⟨g, o + f * 200, none⟩) (c.store.length - f) (cp - f)) pv) T)
  (hs : c'.store = c.store.drop f) (hp : c'.pend = c.pend) (ok : c'.ok) : BcRep T I w' p (.slice (some ⟨g, o + f * 200, none⟩) (c.store.length - f) (cp - f)) pv c' :=
 ⟨hb, by rw [hs]; exact (h.store.drop hf).tch t (fun b hb e => h.ps (e ▸ hb)) (fun b hb e => (h.out b hb).2.1 e), by rw [hp]; exact h.pend.tch t (fun b hb e => h.pp (e ▸ hb)) (fun b hb e => (h.out b hb).2.1 e), h.ps, h.pp, h.sp,
  fun b hb => ⟨Nat.lt_of_lt_of_le (h.out b hb).1 t.size, (h.out b hb).2⟩, ok⟩
theorem BcRep.pushX (h : BcRep T I w p sv pv c) (h1 : ∀ b, I b → I' b) (h2 : ∀ b, I' b → b < w.heap.size ∧ b ≠ p ∧ sv.ownBlock ≠ some b ∧ pv.ownBlock ≠ some b) (t1 : Tch (fun b => pv.ownBlock = some b) w u) (t2 : Tch (fun b => b = p) u w') (hL : LRow I' u pv' (c.pend ++ [l]))
  (ho : pv'.ownBlock = pv.ownBlock ∨ ∃ b, pv'.ownBlock = some b ∧ w.heap.size ≤ b) (hb : Blk w' p (bcCells c' sv pv') T) (hs : c'.store = c.store) (hp : c'.pend = c.pend ++ [l]) (ok : c'.ok) : BcRep T I' w' p sv pv' c' := by
 have hpl := h.blk.lt
 have ownp : ∀ b, pv'.ownBlock = some b → b ≠ p ∧ sv.ownBlock ≠ some b ∧ ¬ I' b := fun b hb => by
  rcases ho with e | ⟨d, e, hd⟩
  ·rw [e] at hb
   exact ⟨fun e2 => h.pp (e2 ▸ hb), fun e2 => h.sp b e2 hb, fun hi => (h2 b hi).2.2.2 hb⟩
  ·rw [hb] at e
   injection e with e
   subst e
   refine ⟨by omega, fun e2 => ?_, fun hi => ?_⟩
   ·have := h.store.lt e2; omega
   ·have := (h2 b hi).1; omega
 refine ⟨hb, ?_, ?_, h.ps, fun e => (ownp p e).1 rfl, fun b hb e => (ownp b e).2.1 hb, fun b hb => ⟨Nat.lt_of_lt_of_le (h2 b hb).1 (Nat.le_trans t1.size t2.size), (h2 b hb).2.1, (h2 b hb).2.2.1, fun e => (ownp b e).2.2 hb⟩, ok⟩
 ·rw [hs]
  exact ((h.store.tch t1 (fun b hb e => h.sp b hb e) (fun b hb e => (h.out b hb).2.2.2 e)).tch t2 (fun b hb e => h.ps (e ▸ hb)) (fun b hb e => (h.out b hb).2.1 e)).mono h1
 ·rw [hp]
  exact hL.tch t2 (fun b hb e => (ownp b hb).1 e) (fun b hb e => (h2 b hb).2.1 e)
end
set_option maxHeartbeats 4000000 in
theorem RPrune_ok {I : Nat → Prop} {w0 : World} {p : Nat} {sv pv : Value} {c : BcD} (h : BcRep 93 I w0 p sv pv c) (n : Int) (_hn : i64R n) :
  Calls Tryz.prog 47 #[.pointer (some ⟨p, 0, none⟩), .int .i64 n] w0 fun e w' => e = .returned (.int .i64 (c.prune n).2) ∧ BcPost 93 I w0 p sv pv (c.prune n).1 w' := by
 by_cases q1 : n < 1
 ·have E : c.prune n = (c, 1) := by unfold BcD.prune; rw [if_pos q1]
  have HE := Lib.hid E; have H := Lib.hid h
  clear E h
  go_enter Tryz.func47, Tryz.ntmps47
  go_wp2_with fail
  go_ret
  rw [HE.out]
  exact ⟨rfl, BcPost.same H.out (gb_refl _)⟩
 ·have hok := h.ok.pruned q1
  obtain ⟨c', hc'⟩ : ∃ x, (c.prune n).1 = x := ⟨_, rfl⟩
  have E : c.prune n = (c', 0) ∧ c' = { c with pend := [], want := 0, frm := -1, store := c.store.drop (c.store.length - n.toNat) } := by
   rw [← hc']; unfold BcD.prune; rw [if_neg q1]; exact ⟨rfl, rfl⟩
  rw [hc'] at hok
  obtain ⟨m, gs, os, cs, y, hm, rfl, hle, hcm, _⟩ := h.last
  have CD := Lib.hid (Rdrop_ok h)
  have HE := Lib.hid E; have HM := Lib.hid hm; have HOK := Lib.hid hok
  unfold maxLen at hcm
  clear E hok hc' h hm _hn
  go_enter Tryz.func47, Tryz.ntmps47
  go_wp2_with fail
  refine CD.out.mono ?_
  rintro e w2 ⟨rfl, r2, t2⟩
  have O := (OwF.start (fun b => b = p) w2).add r2.blk rfl (by simp)
  have R2 := Lib.hid r2; have T2 := Lib.hid t2
  clear r2 t2 CD
  by_cases q2 : n < ((m + 1 : Nat) : Int)
  case neg =>
   have d2 : decide (n < ((m + 1 : Nat) : Int)) = false := decide_eq_false q2
   have d2b : ¬ n < (m : Int) + 1 := by omega
   go_wp2_with (first | ((with_reducible refine @wpList_at _ _ _ _ _ _ _ (.store 3 (.tmp 11) (.const (.int .i64 (-1)))) rfl ?_); refine @wpList_of_store_cell _ _ _ _ _ _ _ _ _ _ 3 (.tmp 11) (.const (.int .i64 (-1))) rfl O 0 p 7 rfl (.int .i64 (-1)) rfl (by kernel_rfl) _ _ rfl (by show (7 : Nat) < 8; decide) rfl rfl ?_; clear O; intro w O; simp only [List.set_cons_zero] at O) | ((with_reducible refine @wpList_at _ _ _ _ _ _ _ (.load 70 (.tmp 15)) rfl ?_); refine @wpList_of_cell _ _ _ _ _ _ _ _ _ _ 70 (.tmp 15) rfl O 0 p 3 rfl _ _ rfl _ rfl _ Tryz.underlying70 rfl rfl ?_))
   go_ret
   obtain ⟨e1, e2⟩ := HE.out
   have e3 : c.store.drop (c.store.length - n.toNat) = c.store := by
    rw [show c.store.length - n.toNat = 0 by have := HM.out; omega]; rfl
   rw [e3] at e2
   rw [e1]
   have hbk := O.at_ 0 rfl
   exact ⟨rfl, BcPost.own (R2.out.put O.tch (by rw [e2]; exact hbk) (by rw [e2]; rfl) (.inl ⟨rfl, by rw [e2]; rfl⟩) HOK.out) (T2.out.trans O.tch (fun b hb _ => hb)) (.inr rfl)⟩
  have d2 : decide (n < ((m + 1 : Nat) : Int)) = true := decide_eq_true q2
  have d2b : n < (m : Int) + 1 := by omega
  obtain ⟨nn, rfl⟩ : ∃ nn : Nat, n = (nn : Int) := ⟨n.toNat, by omega⟩
  go_upto_region 6 with (first | ((with_reducible refine @wpList_at _ _ _ _ _ _ _ (.store 3 (.tmp 11) (.const (.int .i64 (-1)))) rfl ?_); refine @wpList_of_store_cell _ _ _ _ _ _ _ _ _ _ 3 (.tmp 11) (.const (.int .i64 (-1))) rfl O 0 p 7 rfl (.int .i64 (-1)) rfl (by kernel_rfl) _ _ rfl (by show (7 : Nat) < 8; decide) rfl rfl ?_; clear O; intro w O; simp only [List.set_cons_zero] at O) | ((with_reducible refine @wpList_at _ _ _ _ _ _ _ (.load 70 (.tmp 15)) rfl ?_); refine @wpList_of_cell _ _ _ _ _ _ _ _ _ _ 70 (.tmp 15) rfl O 0 p 3 rfl _ _ rfl _ rfl _ Tryz.underlying70 rfl rfl ?_))
  obtain ⟨f, hf⟩ : ∃ f, m + 1 - nn = f := ⟨_, rfl⟩
  have hsub : ((m + 1 : Nat) : Int) - (nn : Int) = (f : Int) := by omega
  have hsub2 : (m : Int) + 1 - (nn : Int) = (f : Int) := by omega
  have hfm : f ≤ m := by omega
  have ewf := IntWalk.i64_in (f : Int) (by omega)
  have hcapf : ¬ cs = f := by omega
  have hfi : (f : Int) ≤ ((m + 1 : Nat) : Int) := by omega
  have hfi2 : (f : Int) ≤ (m : Int) + 1 := by omega
  have hfn : f ≤ m + 1 := by omega
  have HF := Lib.hid hf
  have F3 := Lib.hid (O.cellr (n := 0) (k := 3) rfl rfl)
  clear hf d2 d2b q2
  replace O := O.drew
  refine wp_region_J (rdf [(4, p, 3, [(.slice (some ⟨gs, os, none⟩) (m + 1) cs)]), (8, p, 3, [(.slice (some ⟨gs, os, none⟩) (m + 1) cs)])]) [15] (by kernel_rfl) (RdA.cons (F3.out.grown (dr_grown _ 1) (by simp)) (RdA.cons (F3.out.grown (dr_grown _ 1) (by simp)) RdA.nil)) (fun hH => ?_)
  refine jp 0 ((.pointer (some ⟨p, 0, none⟩))) (Still.all hH) ?_
  simp only [Act.put, jq1, jq3, jq4, jq5, jq6]
  refine jp 1 ((.pointer (some ⟨p, 0, none⟩))) (Still.all hH) ?_
  simp only [Act.put, jq1, jq2, jq3, jq4, jq5, jq6]
  refine jp 2 ((.pointer (some ⟨p, 0, none⟩))) (Still.all hH) ?_
  simp only [Act.put, jq1, jq2, jq3, jq4, jq5, jq6]
  refine jp 3 ((.pointer (some ⟨p, 3, none⟩))) (Still.all hH) ?_
  simp only [Act.put, jq1, jq2, jq3, jq4, jq5, jq6]
  refine jr 0 4 ((.slice (some ⟨gs, os, none⟩) (m + 1) cs)) rfl rfl (yields_cell (by rfl) 70 _ rfl p 3 rfl (.slice (some ⟨gs, os, none⟩) (m + 1) cs) _ (fun W h => h) Tryz.underlying70 rfl) (Still.all hH) ?_
  simp only [Act.put, jq1, jq2, jq3, jq4, jq5, jq6]
  refine jp 5 ((.pointer (some ⟨p, 0, none⟩))) (Still.all hH) ?_
  simp only [Act.put, jq1, jq2, jq3, jq4, jq5, jq6]
  refine jp 6 ((.pointer (some ⟨p, 0, none⟩))) (Still.all hH) ?_
  simp only [Act.put, jq1, jq2, jq3, jq4, jq5, jq6]
  refine jp 7 ((.pointer (some ⟨p, 3, none⟩))) (Still.all hH) ?_
  simp only [Act.put, jq1, jq2, jq3, jq4, jq5, jq6]
  refine jr 1 8 ((.slice (some ⟨gs, os, none⟩) (m + 1) cs)) rfl rfl (yields_cell (by rfl) 70 _ rfl p 3 rfl (.slice (some ⟨gs, os, none⟩) (m + 1) cs) _ (fun W h => h) Tryz.underlying70 rfl) (Still.all hH) ?_
  simp only [Act.put, jq1, jq2, jq3, jq4, jq5, jq6]
  refine jp 9 ((.int .i64 ((m + 1 : Nat) : Int))) (Still.all hH) ?_
  simp only [Act.put, jq1, jq2, jq3, jq4, jq5, jq6]
  refine jp 10 ((.int .i64 (nn : Int))) (Still.all hH) ?_
  simp only [Act.put, jq1, jq2, jq3, jq4, jq5, jq6]
  refine jp 11 ((.int .i64 (f : Int))) (Still.all hH) ?_
  simp only [Act.put, jq1, jq2, jq3, jq4, jq5, jq6]
  refine jp 12 ((.slice (some ⟨gs, os + f * 200, none⟩) (m + 1 - f) (cs - f))) (Still.all hH) ?_
  simp only [Act.put, jq1, jq2, jq3, jq4, jq5, jq6]
  refine jp 13 ((.pointer (some ⟨p, 0, none⟩))) (Still.all hH) ?_
  simp only [Act.put, jq1, jq2, jq3, jq4, jq5, jq6]
  refine jp 14 ((.pointer (some ⟨p, 3, none⟩))) (Still.all hH) ?_
  simp only [Act.put, jq1, jq2, jq3, jq4, jq5, jq6]
  refine wpAnyJ_ready (rs := [15]) (by kernel_rfl) (by simp) ?_
  refine AllJ.turn rfl (by rfl) (by rfl) (fun K hK => ?_) (AllJ.nil)
  refine wp_of_store_cell 70 _ _ rfl O 0 p 3 rfl (.slice (some ⟨gs, os + f * 200, none⟩) (m + 1 - f) (cs - f)) rfl (by kernel_rfl) _ _ rfl (by show (3 : Nat) < 8; decide) rfl ?_
  clear O
  intro w O
  simp only [List.set_cons_zero] at O
  simp only [Act.put, jq1, jq2, jq3]
  refine hK.out _ _ (waits_all (by kernel_rfl)) ?_
  clear hK K hH
  refine wpAnyJ_done (by kernel_rfl) ?_ _
  go_wp2_with fail
  go_ret
  obtain ⟨e1, e2⟩ := HE.out
  have hff := HF.out; have hmm := HM.out
  have e3 : c.store.length - ((nn : Int)).toNat = f := by omega
  rw [e3] at e2
  rw [e1]
  have hbk := O.at_ 0 rfl
  have r3 : BcRep 93 I w p (.slice (some ⟨gs, os + f * 200, none⟩) (c.store.length - f) (cs - f)) (.slice none 0 0) c' := by
   have k := R2.out
   rw [← hmm] at k hbk
   exact BcRep.later (c := c.drop) k O.tch (by show f ≤ c.store.length; omega) (by rw [e2]; exact hbk) (by rw [e2]; rfl) (by rw [e2]; rfl) HOK.out
  exact ⟨rfl, _, _, r3, (T2.out.trans O.tch (fun b hb _ => hb)).mono (fun b hb _ => .inl hb), fun b hb => by
   rcases hb with hb | hb | hb
   ·exact .inl (.inl hb)
   ·exact .inl (.inr (.inl hb))
   ·cases hb⟩
set_option maxHeartbeats 8000000 in
theorem RGive_ok {I : Nat → Prop} {w0 : World} {p : Nat} {sv pv : Value} {c : BcD} (h : BcRep 93 I w0 p sv pv c) (x : LtR) (l : LightD) (hof : x.of w0.heap.size w0 l) (hfit : l.fit) (X : Nat → Prop) (hin : x.inn X) (hX : ∀ b, X b → b < w0.heap.size ∧ ¬ Foot p sv pv b) (now : Nat) (hnow : now < 18446744073709551616) (hroom : c.store.length + c.pend.length + 1 ≤ 100000) :
  Calls Tryz.prog 45 #[.pointer (some ⟨p, 0, none⟩), .agg x.cells.toArray, .float .f64 now] w0 fun e w' => e = .returned (.int .i64 (c.give l now).2) ∧ ∃ I' : Nat → Prop, (∀ b, I b → I' b) ∧ (∀ b, I' b → I b ∨ X b) ∧ BcPost 93 I' w0 p sv pv (c.give l now).1 w' := by
 obtain ⟨R, hRR⟩ : ∃ r, c.give l now = r := ⟨_, rfl⟩
 rw [hRR]
 have HRR := Lib.hid hRR
 clear hRR
 have XW := Lib.hid (hof.wf hfit.wf)
 obtain ⟨h0, hfst⟩ := firstB_at h.ok.some
 obtain ⟨g, o, cs, y, hsv, hle, hcm, _, hrow, hyo, _, _⟩ := h.store.get 0 h0
 rw [hfst] at hyo
 rw [Nat.zero_mul, Nat.add_zero] at hrow
 have r0 : w0.cell? ⟨g, o, none⟩ = some (.string (firstB c.store).header.chain) := by
  have := hrow 0 (.string y.header.chain) rfl
  rw [Nat.add_zero] at this
  rw [← hyo.header]; exact this
 have cW := (h.blk.cellr (bc_get _ _ _).2.2.1).at_one
 have cS := (h.blk.cellr (bc_get _ _ _).1).at_one
 rw [hsv] at cS
 have B0 : x.cells[0]? = some (.string l.header.chain) := by rw [← hof.header]; rfl
 have B1 : x.cells[1]? = some (.int .i64 l.header.height) := by rw [← hof.header]; rfl
 have H := Lib.hid h
 have hrf := give_refused (c := c) (l := l) (now := now)
 obtain ⟨W, hW⟩ : ∃ z, c.want = z := ⟨_, rfl⟩
 obtain ⟨HL, hHL⟩ : ∃ z, l.header.height = z := ⟨_, rfl⟩
 obtain ⟨C1, hC1⟩ : ∃ z, l.header.chain = z := ⟨_, rfl⟩
 obtain ⟨C0, hC0⟩ : ∃ z, (firstB c.store).header.chain = z := ⟨_, rfl⟩
 rw [hW] at cW; rw [hHL] at B1; rw [hC1] at B0; rw [hC0] at r0
 rw [hW, hHL, hC1, hC0] at hrf
 obtain ⟨n, hn⟩ : ∃ n, c.store.length = n := ⟨_, rfl⟩
 rw [hn] at h0 cS hle
 unfold maxLen at hcm
 have HCX := Lib.hid (show RowAt w0 g o [.string C0] ∧ RowAt w0 p 5 [.int .i64 W] ∧ RowAt w0 p 3 [.slice (some ⟨g, o, none⟩) n cs] from ⟨RowAt.one r0, RowAt.one cW, RowAt.one cS⟩)
 have HIN := Lib.hid hin; have HXF := Lib.hid hX; have H6 := Lib.hid (h.blk.cellr (bc_get _ _ _).2.2.2.1); have HOK := Lib.hid h.ok
 have HOF := Lib.hid hof; have HFI := Lib.hid hfit; have HNW := Lib.hid hnow; have HRM := Lib.hid hroom
 have HLT := Lib.hid (show c.want = W ∧ l.header.height = HL ∧ l.header.chain = C1 ∧ (firstB c.store).header.chain = C0 from ⟨hW, hHL, hC1, hC0⟩)
 replace hrf := Lib.hid hrf; replace B0 := Lib.hid B0; replace B1 := Lib.hid B1
 have O := OwF.start (fun _ => False) w0
 clear h hof hfit hin hX hnow hroom hsv hrow hyo hfst hW hHL hC1 hC0 hn r0 cW cS
 go_enter Tryz.func45, Tryz.ntmps45
 go_upto_region 1 with (first | ((with_reducible refine @wpList_at _ _ _ _ _ _ _ (.box 31 (.tmp 1)) rfl ?_); refine @wpList_of_box _ _ _ _ _ _ _ _ _ _ 31 (.tmp 1) rfl x.cells rfl O rfl ?_; clear O; intro bl w O))
 have r0 := (HCX.out.1.grown (O.tch.grown (fun _ h => h.elim)) (by simp)).at_one; have cW := (HCX.out.2.1.grown (O.tch.grown (fun _ h => h.elim)) (by simp)).at_one; have cS := (HCX.out.2.2.grown (O.tch.grown (fun _ h => h.elim)) (by simp)).at_one
 have b0 := (O.at_ 0 rfl).row 0 _ B0.out; have b1 := (O.at_ 0 rfl).row 1 _ B1.out
 rw [Nat.zero_add] at b0 b1
 have HO := Lib.hid O
 clear O
 by_cases q1 : W = 0
 ·have d1 : (W == 0) = true := by simpa using q1
  have HE := Lib.hid (hrf.out (.inl q1))
  clear q1
  go_quiet (fail)
  go_wp2_with fail
  go_ret
  rw [← HRR.out, HE.out]
  exact ⟨rfl, I, fun _ h => h, fun _ h => .inl h, BcPost.same H.out ((HO.out.drewN nq).tch.grown (fun _ h => h.elim))⟩
 have d1 : (W == 0) = false := by simpa using q1
 by_cases q2 : HL = W
 case neg =>
  have d2 : (HL != W) = true := by simpa using q2
  have HE := Lib.hid (hrf.out (.inr (.inl q2)))
  clear q1 q2
  go_quiet (fail)
  go_wp2_with fail
  go_ret
  rw [← HRR.out, HE.out]
  exact ⟨rfl, I, fun _ h => h, fun _ h => .inl h, BcPost.same H.out ((HO.out.drewN nq).tch.grown (fun _ h => h.elim))⟩
 have d2 : (HL != W) = false := by simpa using q2
 by_cases q3 : C1 = C0
 case neg =>
  have d3 := str_ne q3
  have HE := Lib.hid (hrf.out (.inr (.inr q3)))
  clear q1 q2
  go_quiet (fail)
  go_wp2_with fail
  go_ret
  rw [← HRR.out, HE.out]
  exact ⟨rfl, I, fun _ h => h, fun _ h => .inl h, BcPost.same H.out ((HO.out.drewN nq).tch.grown (fun _ h => h.elim))⟩
 have HQ := Lib.hid (show ¬ (c.want = 0 ∨ l.header.height ≠ c.want ∨ l.header.chain ≠ (firstB c.store).header.chain) by obtain ⟨k1, k2, k3, k4⟩ := HLT.out; rw [k1, k2, k3, k4]; simp [q1, q2, q3])
 subst q3
 clear q1 q2
 go_quiet (fail)
 clear r0 cW cS b0 b1
 have O := HO.out.drewN nq
 obtain ⟨F, hF⟩ : ∃ z, c.fet = z := ⟨_, rfl⟩
 have HFE := Lib.hid hF
 have hfr := HOK.out.fet
 rw [hF] at H6 hfr
 clear hF HO
 by_cases q4 : F = 200
 ·have HE := Lib.hid (show c.give l now = (c.drop, 162) by unfold BcD.give; rw [if_neg HQ.out, if_pos (HFE.out.trans q4)])
  subst q4
  have CD := Lib.hid (fun w (gg : w0.grownBy w none) => Rdrop_ok (H.out.grown gg))
  have G9 := O.tch.grown (fun _ h => h.elim)
  have c6 := (H6.out.grown G9 (by simp)).at_one
  have HG9 := Lib.hid G9
  clear G9 hfr
  go_wp2_with fail
  refine (CD.out _ HG9.out).mono ?_
  rintro e w2 ⟨rfl, r2, t2⟩
  go_wp2_with fail
  go_ret
  rw [← HRR.out, HE.out]
  exact ⟨rfl, I, fun _ h => h, fun _ h => .inl h, BcPost.own r2 ((Tch.of_grown HG9.out).trans t2 (fun b hb _ => hb)) (.inr rfl)⟩
 have d4 : decide (200 ≤ F) = false := decide_eq_false (by omega)
 have d4n : ¬ 200 ≤ F := by omega
 have HE := Lib.hid (show c.give l now = BcD.climb now (c.pend.length + 1) { c with fet := c.fet + 1, pend := c.pend ++ [l] } by unfold BcD.give; rw [if_neg HQ.out, if_neg (fun e => q4 (HFE.out.symm.trans e))])
 have ew := IntWalk.i64_in (F + 1) (by omega)
 have HQF := Lib.hid q4
 have HBL := Lib.hid (show pv.ownBlock ≠ some bl from fun e => by have h1 := H.out.pend.lt e; have h2 := (O.lie 0 rfl).resolve_right id; omega)
 have O2 := O.join (F := fun b => b = p) H.out.blk rfl
 have P6 := Lib.hid (show (bcCells c sv pv)[6]? = some (.int .i64 F) by rw [← HFE.out]; rfl)
 clear O hfr
 go_upto_region 7 with (first | ((with_reducible refine @wpList_at _ _ _ _ _ _ _ (.load 3 (.tmp 41)) rfl ?_); refine @wpList_of_cell _ _ _ _ _ _ _ _ _ _ 3 (.tmp 41) rfl O2 0 p 6 rfl _ _ rfl _ P6.out _ Tryz.underlying3 rfl rfl ?_) | ((with_reducible refine @wpList_at _ _ _ _ _ _ _ (.load 3 (.tmp 48)) rfl ?_); refine @wpList_of_cell _ _ _ _ _ _ _ _ _ _ 3 (.tmp 48) rfl O2 0 p 6 rfl _ _ rfl _ P6.out _ Tryz.underlying3 rfl rfl ?_) | ((with_reducible refine @wpList_at _ _ _ _ _ _ _ (.store 3 (.tmp 52) (.tmp 50)) rfl ?_); refine @wpList_of_store_cell _ _ _ _ _ _ _ _ _ _ 3 (.tmp 52) (.tmp 50) rfl O2 0 p 6 rfl (.int .i64 (F + 1)) rfl (by kernel_rfl) _ _ rfl (by show (6 : Nat) < 8; decide) rfl rfl ?_; clear O2; intro w O2; simp only [List.set_cons_zero] at O2))
 have hb1 := O2.at_ 0 rfl
 have r1 : BcRep 93 I w p sv pv { c with fet := c.fet + 1 } := H.out.put O2.tch (by rw [← HFE.out] at hb1; exact hb1) rfl (.inl ⟨rfl, rfl⟩) (HOK.out.fetched (fun e => q4 (HFE.out.symm.trans e)))
 have hofw : x.of w.heap.size w l := (HOF.out.tch O2.tch HIN.out (fun b hb e => (HXF.out b hb).2 (.inl e))).mono O2.tch.size
 have R1 := Lib.hid r1; have TA := Lib.hid O2.tch; have FB := Lib.hid (O2.at_ 1 rfl).row; have F4 := Lib.hid (r1.blk.cellr (bc_get _ _ _).2.1)
 have HOW := Lib.hid hofw
 have HI2 : Hid (∀ b, (I b ∨ X b) → b < w.heap.size ∧ b ≠ p ∧ sv.ownBlock ≠ some b ∧ pv.ownBlock ≠ some b) := Lib.hid (fun b hb => by
  rcases hb with hb | hb
  ·have k := H.out.out b hb
   exact ⟨Nat.lt_of_lt_of_le k.1 O2.tch.size, k.2⟩
  ·obtain ⟨k1, k2⟩ := HXF.out b hb
   exact ⟨Nat.lt_of_lt_of_le k1 O2.tch.size, fun e => k2 (.inl e), fun e => k2 (.inr (.inl e)), fun e => k2 (.inr (.inr e))⟩)
 have O := OwF.start (fun _ => False) w
 clear q4 d4 d4n ew O2 hb1 r1 hofw d1 d2
 replace O := O.drew
 refine wp_region_J (rdf [(4, p, 4, [pv]), (5, bl, 0, x.cells)]) [6, 7, 10] (by kernel_rfl) (RdA.cons (F4.out.grown (O.tch.grown (fun _ h => h.elim)) (by simp)) (RdA.cons (FB.out.grown (O.tch.grown (fun _ h => h.elim)) (by simp)) RdA.nil)) (fun hH => ?_)
 refine jp 0 ((.pointer (some ⟨p, 0, none⟩))) (Still.all hH) ?_
 simp only [Act.put, jq1, jq3, jq4, jq5, jq6]
 refine jp 1 ((.pointer (some ⟨p, 0, none⟩))) (Still.all hH) ?_
 simp only [Act.put, jq1, jq2, jq3, jq4, jq5, jq6]
 refine jp 2 ((.pointer (some ⟨p, 0, none⟩))) (Still.all hH) ?_
 simp only [Act.put, jq1, jq2, jq3, jq4, jq5, jq6]
 refine jp 3 ((.pointer (some ⟨p, 4, none⟩))) (Still.all hH) ?_
 simp only [Act.put, jq1, jq2, jq3, jq4, jq5, jq6]
 refine jr 0 4 (pv) rfl rfl (yields_cell (by rfl) 70 _ rfl p 4 rfl pv _ (fun W h => h) Tryz.underlying70 rfl) (Still.all hH) ?_
 simp only [Act.put, jq1, jq2, jq3, jq4, jq5, jq6]
 refine jr 1 5 ((.agg (x.cells).toArray)) rfl rfl (yieldsIf_load_mid (by rfl) 31 _ rfl bl 0 rfl x.cells _ (fun W h => h) Tryz.underlying31 rfl (sizeLt _ XW.out)) (Still.all hH) ?_
 simp only [Act.put, jq1, jq2, jq3, jq4, jq5, jq6]
 refine wpAnyJ_ready (rs := [6]) (by kernel_rfl) (by simp) ?_
 refine AllJ.keep rfl (by rfl) (by rfl) (fun K hK => ?_) (AllJ.nil)
 refine wp_of_slice1 70 _ rfl x.cells rfl 31 _ 200 Tryz.underlying70 light_inf2 (x.cells_length XW.out) (by decide) O ?_
 clear O
 intro b8 u g2 O
 simp only [Act.put, jq1, jq2, jq3, jq4, jq5, jq6]
 refine hK.out _ _ (RdA.grown hH g2) ?_
 replace hH := RdA.grown hH g2
 clear hK K
 refine wpAnyJ_ready (rs := [7]) (by kernel_rfl) (by simp) ?_
 refine AllJ.keep rfl (by rfl) (by rfl) (fun K hK => ?_) (AllJ.nil)
 refine wp_of_appL _ _ rfl ((R1.out.grown (O.tch.grown (fun _ h => h.elim))).pend.mono (J := fun b => I b ∨ X b) (fun b h => .inl h)) (HOW.out.up (O.tch.grown (fun _ h => h.elim)) (Nat.le_refl _)) (HIN.out.mono (fun b h => .inr h)) HFI.out (fun b hb => (HI2.out b hb).2.2.2) (by have := HRM.out; dsimp only; omega) rfl b8 rfl (O.row_of (g := b8) (T := 31) (by simp)) ?_
 intro a9 n9 c9 u9 hL t9 o9
 have hz9 := O.tch.size
 have o10 : (Value.slice a9 n9 c9).ownBlock = pv.ownBlock ∨ ∃ b, (Value.slice a9 n9 c9).ownBlock = some b ∧ w.heap.size ≤ b := o9.elim .inl (fun ⟨b, e, hb⟩ => .inr ⟨b, e, Nat.le_trans hz9 hb⟩)
 have t10 := (O.tch.mono (G := fun b => pv.ownBlock = some b) (fun _ h _ => h.elim)).trans t9 (fun b hb _ => hb)
 have hH9 := RdA.tch hH t9 (by intro e he; simp only [List.mem_cons, List.not_mem_nil, or_false] at he; rcases he with rfl | rfl; exact R1.out.pp; exact HBL.out)
 have OQ := (OwF.start (fun b => b = p) u9).add (t10.blk R1.out.blk R1.out.pp) rfl (by simp)
 clear O hz9
 simp only [Act.put, jq1, jq2, jq3, jq4, jq5, jq6]
 refine hK.out _ _ hH9 ?_
 replace hH := hH9
 clear hK K hH9
 refine jp 8 ((.pointer (some ⟨p, 0, none⟩))) (Still.all hH) ?_
 simp only [Act.put, jq1, jq2, jq3, jq4, jq5, jq6]
 refine jp 9 ((.pointer (some ⟨p, 4, none⟩))) (Still.all hH) ?_
 simp only [Act.put, jq1, jq2, jq3, jq4, jq5, jq6]
 refine wpAnyJ_ready (rs := [10]) (by kernel_rfl) (by simp) ?_
 refine AllJ.turn rfl (by rfl) (by rfl) (fun K hK => ?_) (AllJ.nil)
 refine wp_of_store_cell 70 _ _ rfl OQ 0 p 4 rfl (.slice a9 n9 c9) rfl (by kernel_rfl) _ _ rfl (by show (4 : Nat) < 8; decide) rfl ?_
 clear OQ
 intro w OQ
 simp only [List.set_cons_zero] at OQ
 simp only [Act.put, jq1, jq2, jq3]
 refine hK.out _ _ (waits_all (by kernel_rfl)) ?_
 clear hK K hH
 refine wpAnyJ_done (by kernel_rfl) ?_ _
 have tA := TA.out; have tB := t10; have tC := OQ.tch
 have r3 : BcRep 93 (fun b => I b ∨ X b) w p sv (.slice a9 n9 c9) { c with fet := c.fet + 1, pend := c.pend ++ [l] } :=
  R1.out.pushX (fun b hb => .inl hb) HI2.out tB tC hL o10 (OQ.at_ 0 rfl) rfl rfl ((HOK.out.fetched (fun e => by have h := HFE.out.symm.trans e; exact HQF.out h)).pushed l HRM.out)
 have TT2 : Tch (Foot p sv pv) w0 w := (tA.mono (fun b hb _ => (.inl hb : Foot p sv pv b))).trans ((tB.mono (fun b hb _ => (.inr (.inr hb) : Foot p sv pv b))).trans tC (fun b hb _ => .inl hb)) (fun b hb _ => hb)
 have ff : ∀ b, Foot p sv (.slice a9 n9 c9) b → Foot p sv pv b ∨ w0.heap.size ≤ b := fun b hb => by
  rcases hb with hb | hb | hb
  ·exact .inl (.inl hb)
  ·exact .inl (.inr (.inl hb))
  ·rcases o10 with e | ⟨d, e, hd⟩
   ·exact .inl (.inr (.inr (e ▸ hb)))
   ·rw [hb] at e
    injection e with e
    subst e
    exact .inr (Nat.le_trans tA.size hd)
 have hR := HRR.out.symm.trans HE.out
 obtain ⟨I', hI'⟩ : ∃ J : Nat → Prop, (fun b => I b ∨ X b) = J := ⟨_, rfl⟩
 have HII := Lib.hid (show (∀ b, I b → I' b) ∧ ∀ b, I' b → I b ∨ X b by rw [← hI']; exact ⟨fun b h => .inl h, fun b h => h⟩)
 rw [hI'] at r3
 have hk0 : ({ c with fet := c.fet + 1, pend := c.pend ++ [l] } : BcD).pend.length = c.pend.length + 1 := by simp
 have hST : ∃ (c1 : BcD) (sv1 pv1 : Value), c1.pend.length = c.pend.length + 1 ∧ BcRep 93 I' w p sv1 pv1 c1 ∧ Tch (Foot p sv pv) w0 w ∧ (∀ b, Foot p sv1 pv1 b → Foot p sv pv b ∨ w0.heap.size ≤ b) ∧ BcD.climb now (c.pend.length + 1) c1 = R := ⟨_, _, _, hk0, r3, TT2, ff, hR.symm⟩
 obtain ⟨K0, hK0⟩ : ∃ k, c.pend.length + 1 = k := ⟨_, rfl⟩
 rw [hK0] at hST
 have HST := Lib.hid hST
 clear tA tB tC r3 TT2 ff hR hI' hk0 hST hK0 OQ t9 t10 o9 o10 hL HE HI2 HOW R1 TA FB F4 HBL P6 HQF HFE H6 HCX HXF HIN HOF HLT HQ HRM hrf B0 B1 HRR
 go_wp2
 go_loopg [] K0 (fun k wr => ∃ (c1 : BcD) (sv1 pv1 : Value), c1.pend.length = k ∧ BcRep 93 I' wr p sv1 pv1 c1 ∧ Tch (Foot p sv pv) w0 wr ∧ (∀ b, Foot p sv1 pv1 b → Foot p sv pv b ∨ w0.heap.size ≤ b) ∧ BcD.climb now k c1 = R)
 case atStart => exact HST.out
 case round =>
  clear HST
  obtain ⟨c1, sv1, pv1, hk0, h1, t1, f1, he⟩ := hrel
  have T1 := Lib.hid t1; have F1 := Lib.hid f1
  clear t1 f1
  obtain ⟨pa, pc, hpv, hpl, hpm⟩ := h1.pend.shape
  rw [hk0] at hpv hpl
  have c4 := (h1.blk.cellr (bc_get _ _ _).2.1).at_one
  rw [hpv] at c4
  unfold maxLen at hpm
  rcases Nat.eq_zero_or_pos gk with h0k | h0k
  ·subst h0k
   have O := (OwF.start (fun b => b = p) wr).add h1.blk rfl (by simp)
   have H1 := Lib.hid h1
   have HR2 := Lib.hid (show R = ({ c1 with want := 0 }, 0) by rw [← he]; rfl)
   have HPV := Lib.hid hpv
   clear h1 he hk0 hpv
   go_wp2_with (first | ((with_reducible refine @wpList_at _ _ _ _ _ _ _ (.store 3 (.tmp 138) (.const (.int .i64 0))) rfl ?_); refine @wpList_of_store_cell _ _ _ _ _ _ _ _ _ _ 3 (.tmp 138) (.const (.int .i64 0)) rfl O 0 p 5 rfl (.int .i64 0) rfl (by kernel_rfl) _ _ rfl (by show (5 : Nat) < 8; decide) rfl rfl ?_; clear O; intro w O; simp only [List.set_cons_zero] at O))
   go_ret
   rw [HR2.out]
   refine ⟨rfl, I', HII.out.1, HII.out.2, sv1, pv1, H1.out.put O.tch (O.at_ 0 rfl) rfl (.inl ⟨rfl, rfl⟩) ?_, T1.out.trans O.tch (fun b hb _ => .inl hb), F1.out⟩
   have k := H1.out.ok
   exact ⟨k.o, k.some, ⟨Int.le_refl _, by dsimp only; decide⟩, k.fet, k.frm, k.room, k.height⟩
  obtain ⟨k, rfl⟩ : ∃ k, gk = k + 1 := ⟨gk - 1, by omega⟩
  clear h0k hpv hpl hpm c4
  have he2 := climb_next (now := now) hk0
  rw [hk0, he] at he2
  clear he
  have he := he2.symm
  clear he2
  obtain ⟨m, gs, os, cs, y, hm, rfl, hle, hcm, hrow, hof, hin, hfit⟩ := h1.last
  obtain ⟨g, o, cp, x, rfl, hle2, hcm2, hrow2, hof2, hin2, hfit2⟩ := h1.pend.lastx hk0
  have YW := Lib.hid (hof.wf hfit.wf); have XW := Lib.hid (hof2.wf hfit2.wf)
  have O := OwF.start (fun _ => False) wr
  have CL := Lib.hid (fun w (gg : wr.grownBy w none) => Rlast_ok (h1.grown gg) hle hcm (hrow.grown gg (by simp)) (hof.wf hfit.wf))
  have CP := Lib.hid (fun w (gg : wr.grownBy w none) => RStep_ok y x (lastB c1.store) (lastB c1.pend) now c1.o w hfit.wf hfit2.wf (hof.up gg (Nat.le_refl _)) (hof2.up gg (Nat.le_refl _)) HNW.out h1.ok.o (by have := hfit2.seals; omega) hfit.chain hfit2.chain)
  have F3 := Lib.hid (h1.blk.cellr (bc_get _ _ _).1); have F4 := Lib.hid (h1.blk.cellr (bc_get _ _ _).2.1); have FO := Lib.hid h1.opt
  have FX := Lib.hid hrow2
  have H1 := Lib.hid h1; have HY := Lib.hid (show y.of wr.heap.size wr (lastB c1.store) ∧ y.inn I' ∧ (lastB c1.store).fit from ⟨hof, hin, hfit⟩); have HX := Lib.hid (show x.of wr.heap.size wr (lastB c1.pend) ∧ x.inn I' ∧ (lastB c1.pend).fit from ⟨hof2, hin2, hfit2⟩)
  have HM := Lib.hid hm; have HK := Lib.hid hk0
  have c4 := F4.out.at_one
  unfold maxLen at hcm hcm2
  have hst0 : vstepL (lastB c1.store) (lastB c1.pend) now c1.o = 0 → ({ c1 with store := c1.store ++ [lastB c1.pend], pend := c1.pend.dropLast } : BcD).ok := fun e => h1.ok.push (fun e2 => by rw [e2] at hk0; simp at hk0) e
  have hst1 := fun (e : vstepL (lastB c1.store) (lastB c1.pend) now c1.o = 159) => h1.ok.wants e
  have ewk := IntWalk.i64_in (k : Int) (by omega)
  have hix : ¬ ((k : Int) + 1 ≤ (k : Int)) := by omega
  have hkc : ¬ cp < k := by omega
  obtain ⟨V, hV⟩ : ∃ v, vstepL (lastB c1.store) (lastB c1.pend) now c1.o = v := ⟨_, rfl⟩
  rw [hV] at CP he hst0 hst1
  have HE := Lib.hid he; have HS0 := Lib.hid hst0; have HS1 := Lib.hid hst1
  have HC2 := Lib.hid hcm2; have HL2 := Lib.hid hle2
  clear h1 hm hk0 hrow hof hin hfit hrow2 hof2 hin2 hfit2 he hst0 hst1 hV hle hcm
  go_upto_region 9 with (fail)
  clear c4
  replace O := O.drew
  refine wp_region_J (rdf [(3, p, 4, [(.slice (some ⟨g, o, none⟩) (k + 1) cp)]), (7, p, 4, [(.slice (some ⟨g, o, none⟩) (k + 1) cp)]), (11, g, (o + k * 200), x.cells)]) [12, 13] (by kernel_rfl) (RdA.cons (F4.out.grown (O.tch.grown (fun _ h => h.elim)) (by simp)) (RdA.cons (F4.out.grown (O.tch.grown (fun _ h => h.elim)) (by simp)) (RdA.cons (FX.out.grown (O.tch.grown (fun _ h => h.elim)) (by simp)) RdA.nil))) (fun hH => ?_)
  refine jp 0 ((.pointer (some ⟨p, 0, none⟩))) (Still.all hH) ?_
  simp only [Act.put, jq1, jq3]
  refine jp 1 ((.pointer (some ⟨p, 0, none⟩))) (Still.all hH) ?_
  simp only [Act.put, jq1, jq2, jq3, jq4, jq5, jq6]
  refine jp 2 ((.pointer (some ⟨p, 4, none⟩))) (Still.all hH) ?_
  simp only [Act.put, jq1, jq4]
  refine jr 0 3 ((.slice (some ⟨g, o, none⟩) (k + 1) cp)) rfl rfl (yields_cell (by rfl) 70 _ rfl p 4 rfl (.slice (some ⟨g, o, none⟩) (k + 1) cp) _ (fun W h => h) Tryz.underlying70 rfl) (Still.all hH) ?_
  simp only [Act.put, jq1, jq2, jq3, jq4, jq5, jq6]
  refine jp 4 ((.pointer (some ⟨p, 0, none⟩))) (Still.all hH) ?_
  simp only [Act.put, jq1, jq2, jq3, jq4, jq5, jq6]
  refine jp 5 ((.pointer (some ⟨p, 0, none⟩))) (Still.all hH) ?_
  simp only [Act.put, jq1, jq2, jq3, jq4, jq5, jq6]
  refine jp 6 ((.pointer (some ⟨p, 4, none⟩))) (Still.all hH) ?_
  simp only [Act.put, jq1, jq2, jq3, jq4, jq5, jq6]
  refine jr 1 7 ((.slice (some ⟨g, o, none⟩) (k + 1) cp)) rfl rfl (yields_cell (by rfl) 70 _ rfl p 4 rfl (.slice (some ⟨g, o, none⟩) (k + 1) cp) _ (fun W h => h) Tryz.underlying70 rfl) (Still.all hH) ?_
  simp only [Act.put, jq1, jq2, jq3, jq4, jq5, jq6]
  refine jp 8 ((.int .i64 ((k + 1 : Nat) : Int))) (Still.all hH) ?_
  simp only [Act.put, jq1, jq2, jq3, jq4, jq5, jq6]
  refine jp 9 ((.int .i64 (k : Int))) (Still.all hH) ?_
  simp only [Act.put, jq1, jq2, jq3, jq4, jq5, jq6]
  refine jp 10 ((.pointer (some ⟨g, o + k * 200, none⟩))) (Still.all hH) ?_
  simp only [Act.put, jq1, jq2, jq3, jq4, jq5, jq6]
  refine jr 2 11 ((.agg (x.cells).toArray)) rfl rfl (yieldsIf_load_mid (by rfl) 31 _ rfl g (o + k * 200) rfl x.cells _ (fun W h => h) Tryz.underlying31 rfl (sizeLt _ XW.out)) (Still.all hH) ?_
  simp only [Act.put, jq1, jq2, jq3, jq4, jq5, jq6]
  refine wpAnyJ_ready (rs := [12]) (by kernel_rfl) (by simp) ?_
  refine AllJ.keep rfl (by rfl) (by rfl) (fun K hK => ?_) (AllJ.nil)
  refine wp_of_alloc 31 rfl ZLt0 ZLt0_info O ?_
  clear O
  intro b7 u g1 O
  simp only [Act.put, jq1, jq2, jq3, jq4, jq5, jq6]
  refine hK.out _ _ (RdA.grown hH g1) ?_
  replace hH := RdA.grown hH g1
  clear hK K
  clear g1
  refine wpAnyJ_ready (rs := [13]) (by kernel_rfl) (by simp) ?_
  refine AllJ.turn rfl (by rfl) (by rfl) (fun K hK => ?_) (AllJ.nil)
  refine wp_of_store 31 _ _ rfl O 0 b7 rfl x.cells ZLt0 _ rfl rfl (LtR.cells_length _ XW.out) (LtR_one _) (sizeLt _ XW.out) ?_
  clear O
  intro w O
  simp only [List.set_cons_zero] at O
  simp only [Act.put, jq1, jq2, jq3]
  refine hK.out _ _ (waits_all (by kernel_rfl)) ?_
  clear hK K hH
  refine wpAnyJ_done (by kernel_rfl) ?_ _
  go_upto_region 10 with (fail)
  replace O := O.drew
  refine wp_region_J (rdf [(2, b7, 0, x.cells), (7, p, 0, c1.o.cells)]) [1, 8] (by kernel_rfl) (RdA.cons (O.row_of (g := b7) (T := 31) (by simp)) (RdA.cons (FO.out.grown (O.tch.grown (fun _ h => h.elim)) (by simp)) RdA.nil)) (fun hH => ?_)
  refine jp 0 ((.pointer (some ⟨p, 0, none⟩))) (Still.all hH) ?_
  simp only [Act.put, jq1, jq3, jq4, jq5, jq6]
  refine jr 0 2 ((.agg (x.cells).toArray)) rfl rfl (yieldsIf_load_mid (by rfl) 31 _ rfl b7 0 rfl x.cells _ (fun W h => h) Tryz.underlying31 rfl (sizeLt _ XW.out)) (Still.all hH) ?_
  simp only [Act.put, jq1, jq2, jq3, jq4, jq5, jq6]
  refine jp 3 ((.float .f64 now)) (Still.all hH) ?_
  simp only [Act.put, jq1, jq2, jq3]
  refine jp 4 ((.pointer (some ⟨p, 0, none⟩))) (Still.all hH) ?_
  simp only [Act.put, jq1, jq2, jq3, jq4, jq5, jq6]
  refine jp 5 ((.pointer (some ⟨p, 0, none⟩))) (Still.all hH) ?_
  simp only [Act.put, jq1, jq4]
  refine jp 6 ((.pointer (some ⟨p, 0, none⟩))) (Still.all hH) ?_
  simp only [Act.put, jq1, jq2, jq3, jq4, jq5, jq6]
  refine jr 1 7 ((.agg (c1.o.cells).toArray)) rfl rfl (yieldsIf_load_mid (by rfl) 35 _ rfl p 0 rfl c1.o.cells _ (fun W h => h) Tryz.underlying35 rfl sizeOpt) (Still.all hH) ?_
  simp only [Act.put, jq1, jq2, jq3, jq4, jq5, jq6]
  refine wpAnyJ_ready (rs := [1]) (by kernel_rfl) (by simp) ?_
  refine AllJ.keep rfl (by rfl) (by rfl) (fun K hK => ?_) (AllJ.nil)
  refine wp_call 79 _ _ (by rfl) (enters Tryz.func79 (by kernel_rfl) rfl) (by rfl) (CL.out _ (O.tch.grown (fun _ h => h.elim))) ?_
  rintro e u ⟨rfl, g1⟩
  refine ⟨_, rfl, ?_⟩
  replace O := O.call g1
  simp only [Act.put, jq1, jq2, jq3, jq4, jq5, jq6]
  refine hK.out _ _ (RdA.grown hH g1) ?_
  replace hH := RdA.grown hH g1
  clear hK K
  clear g1
  refine wpAnyJ_ready (rs := [8]) (by kernel_rfl) (by simp) ?_
  refine AllJ.keep rfl (by rfl) (by rfl) (fun K hK => ?_) (AllJ.nil)
  refine wp_call 18 _ _ (by rfl) (enters Tryz.func18 (by kernel_rfl) rfl) (by rfl) (CP.out _ (O.tch.grown (fun _ h => h.elim))) ?_
  rintro e u ⟨rfl, g1⟩
  refine ⟨_, rfl, ?_⟩
  replace O := O.call g1
  simp only [Act.put, jq1, jq2, jq3, jq4, jq5, jq6]
  refine hK.out _ _ (RdA.grown hH g1) ?_
  replace hH := RdA.grown hH g1
  clear hK K
  clear g1
  refine jp 9 ((.int .i64 V)) (Still.all hH) ?_
  simp only [Act.put, jq1, jq2, jq3, jq4, jq5, jq6]
  refine wpAnyJ_done (by kernel_rfl) ?_ _
  clear hH
  by_cases c0 : V = 0
  ·have hok := HS0.out c0
   have he := HE.out
   rw [if_pos c0] at he
   have d0 : (V == 159) = false := by rw [c0]; rfl
   subst c0
   have HE2 := Lib.hid he; have HOK1 := Lib.hid hok
   clear HE HS0 HS1 he hok CL CP
   go_upto_region 18 with (fail)
   replace O := O.drew
   refine wp_region_J (rdf [(4, p, 3, [(.slice (some ⟨gs, os, none⟩) (m + 1) cs)]), (5, b7, 0, x.cells)]) [6, 7, 10] (by kernel_rfl) (RdA.cons (F3.out.grown (O.tch.grown (fun _ h => h.elim)) (by simp)) (RdA.cons (O.row_of (g := b7) (T := 31) (by simp)) RdA.nil)) (fun hH => ?_)
   refine jp 0 ((.pointer (some ⟨p, 0, none⟩))) (Still.all hH) ?_
   simp only [Act.put, jq1, jq3, jq4, jq5, jq6]
   refine jp 1 ((.pointer (some ⟨p, 0, none⟩))) (Still.all hH) ?_
   simp only [Act.put, jq1, jq2, jq3, jq4, jq5, jq6]
   refine jp 2 ((.pointer (some ⟨p, 0, none⟩))) (Still.all hH) ?_
   simp only [Act.put, jq1, jq2, jq3, jq4, jq5, jq6]
   refine jp 3 ((.pointer (some ⟨p, 3, none⟩))) (Still.all hH) ?_
   simp only [Act.put, jq1, jq2, jq3, jq4, jq5, jq6]
   refine jr 0 4 ((.slice (some ⟨gs, os, none⟩) (m + 1) cs)) rfl rfl (yields_cell (by rfl) 70 _ rfl p 3 rfl (.slice (some ⟨gs, os, none⟩) (m + 1) cs) _ (fun W h => h) Tryz.underlying70 rfl) (Still.all hH) ?_
   simp only [Act.put, jq1, jq2, jq3, jq4, jq5, jq6]
   refine jr 1 5 ((.agg (x.cells).toArray)) rfl rfl (yieldsIf_load_mid (by rfl) 31 _ rfl b7 0 rfl x.cells _ (fun W h => h) Tryz.underlying31 rfl (sizeLt _ XW.out)) (Still.all hH) ?_
   simp only [Act.put, jq1, jq2, jq3, jq4, jq5, jq6]
   refine wpAnyJ_ready (rs := [6]) (by kernel_rfl) (by simp) ?_
   refine AllJ.keep rfl (by rfl) (by rfl) (fun K hK => ?_) (AllJ.nil)
   refine wp_of_slice1 70 _ rfl x.cells rfl 31 _ 200 Tryz.underlying70 light_inf2 (x.cells_length XW.out) (by decide) O ?_
   clear O
   intro b8 u g2 O
   simp only [Act.put, jq1, jq2, jq3, jq4, jq5, jq6]
   refine hK.out _ _ (RdA.grown hH g2) ?_
   replace hH := RdA.grown hH g2
   clear hK K
   refine wpAnyJ_ready (rs := [7]) (by kernel_rfl) (by simp) ?_
   refine AllJ.keep rfl (by rfl) (by rfl) (fun K hK => ?_) (AllJ.nil)
   refine wp_of_appL _ _ rfl (H1.out.grown (O.tch.grown (fun _ h => h.elim))).store (HX.out.1.up (O.tch.grown (fun _ h => h.elim)) (Nat.le_refl _)) HX.out.2.1 HX.out.2.2 (fun b hb => (H1.out.out b hb).2.2.1) (by have := H1.out.ok.room; omega) rfl b8 rfl (O.row_of (g := b8) (T := 31) (by simp)) ?_
   intro a9 n9 c9 u9 hL t9 o9
   have z8 := O.tch.size
   have hb7 : ¬ (Value.slice (some ⟨gs, os, none⟩) (m + 1) cs).ownBlock = some b7 := fun e => by injection e with e; have h2 := (O.lie 1 rfl).resolve_right id; have h3 := H1.out.store.lt (b := gs) rfl; dsimp only at e; omega
   have hH9 := RdA.tch hH t9 (by intro e he; simp only [List.mem_cons, List.not_mem_nil, or_false] at he; rcases he with rfl | rfl; exact H1.out.ps; exact hb7)
   have t10 := (O.tch.mono (G := fun b => (Value.slice (some ⟨gs, os, none⟩) (m + 1) cs).ownBlock = some b) (fun _ h _ => h.elim)).trans t9 (fun b hb _ => hb)
   have OQ := (OwF.start (fun b => b = p) u9).add (t10.blk H1.out.blk H1.out.ps) rfl (by simp)
   clear O
   simp only [Act.put, jq1, jq2, jq3, jq4, jq5, jq6]
   refine hK.out _ _ hH9 ?_
   replace hH := hH9
   clear hK K hH9
   refine jp 8 ((.pointer (some ⟨p, 0, none⟩))) (Still.all hH) ?_
   simp only [Act.put, jq1, jq2, jq3, jq4, jq5, jq6]
   refine jp 9 ((.pointer (some ⟨p, 3, none⟩))) (Still.all hH) ?_
   simp only [Act.put, jq1, jq2, jq3, jq4, jq5, jq6]
   refine wpAnyJ_ready (rs := [10]) (by kernel_rfl) (by simp) ?_
   refine AllJ.turn rfl (by rfl) (by rfl) (fun K hK => ?_) (AllJ.nil)
   refine wp_of_store_cell 70 _ _ rfl OQ 0 p 3 rfl (.slice a9 n9 c9) rfl (by kernel_rfl) _ _ rfl (by show (3 : Nat) < 8; decide) rfl ?_
   clear OQ
   intro w OQ
   simp only [List.set_cons_zero] at OQ
   simp only [Act.put, jq1, jq2, jq3]
   refine hK.out _ _ (waits_all (by kernel_rfl)) ?_
   clear hK K hH
   refine wpAnyJ_done (by kernel_rfl) ?_ _
   go_upto_region 19 with (fail)
   have F4b := Lib.hid (OQ.cellr (n := 0) (k := 4) rfl rfl)
   replace OQ := OQ.drew
   refine wp_region_J (rdf [(4, p, 4, [(.slice (some ⟨g, o, none⟩) (k + 1) cp)]), (8, p, 4, [(.slice (some ⟨g, o, none⟩) (k + 1) cp)])]) [14] (by kernel_rfl) (RdA.cons (F4b.out.grown (dr_grown _ 1) (by simp)) (RdA.cons (F4b.out.grown (dr_grown _ 1) (by simp)) RdA.nil)) (fun hH => ?_)
   refine jp 0 ((.pointer (some ⟨p, 0, none⟩))) (Still.all hH) ?_
   simp only [Act.put, jq1, jq3]
   refine jp 1 ((.pointer (some ⟨p, 0, none⟩))) (Still.all hH) ?_
   simp only [Act.put, jq1, jq2, jq3, jq4, jq5, jq6]
   refine jp 2 ((.pointer (some ⟨p, 0, none⟩))) (Still.all hH) ?_
   simp only [Act.put, jq1, jq4]
   refine jp 3 ((.pointer (some ⟨p, 4, none⟩))) (Still.all hH) ?_
   simp only [Act.put, jq1, jq2, jq3, jq4, jq5, jq6]
   refine jr 0 4 ((.slice (some ⟨g, o, none⟩) (k + 1) cp)) rfl rfl (yields_cell (by rfl) 70 _ rfl p 4 rfl (.slice (some ⟨g, o, none⟩) (k + 1) cp) _ (fun W h => h) Tryz.underlying70 rfl) (Still.all hH) ?_
   simp only [Act.put, jq1, jq2, jq3, jq4, jq5, jq6]
   refine jp 5 ((.pointer (some ⟨p, 0, none⟩))) (Still.all hH) ?_
   simp only [Act.put, jq1, jq2, jq3, jq4, jq5, jq6]
   refine jp 6 ((.pointer (some ⟨p, 0, none⟩))) (Still.all hH) ?_
   simp only [Act.put, jq1, jq2, jq3, jq4, jq5, jq6]
   refine jp 7 ((.pointer (some ⟨p, 4, none⟩))) (Still.all hH) ?_
   simp only [Act.put, jq1, jq2, jq3, jq4, jq5, jq6]
   refine jr 1 8 ((.slice (some ⟨g, o, none⟩) (k + 1) cp)) rfl rfl (yields_cell (by rfl) 70 _ rfl p 4 rfl (.slice (some ⟨g, o, none⟩) (k + 1) cp) _ (fun W h => h) Tryz.underlying70 rfl) (Still.all hH) ?_
   simp only [Act.put, jq1, jq2, jq3, jq4, jq5, jq6]
   refine jp 9 ((.int .i64 ((k + 1 : Nat) : Int))) (Still.all hH) ?_
   simp only [Act.put, jq1, jq2, jq3, jq4, jq5, jq6]
   refine jp 10 ((.int .i64 (k : Int))) (Still.all hH) ?_
   simp only [Act.put, jq1, jq2, jq3, jq4, jq5, jq6]
   refine jp 11 ((.slice (some ⟨g, o, none⟩) k cp)) (Still.all hH) ?_
   simp only [Act.put, jq1, jq2, jq3, jq4, jq5, jq6]
   refine jp 12 ((.pointer (some ⟨p, 0, none⟩))) (Still.all hH) ?_
   simp only [Act.put, jq1, jq2, jq3, jq4, jq5, jq6]
   refine jp 13 ((.pointer (some ⟨p, 4, none⟩))) (Still.all hH) ?_
   simp only [Act.put, jq1, jq2, jq3, jq4, jq5, jq6]
   refine wpAnyJ_ready (rs := [14]) (by kernel_rfl) (by simp) ?_
   refine AllJ.turn rfl (by rfl) (by rfl) (fun K hK => ?_) (AllJ.nil)
   refine wp_of_store_cell 70 _ _ rfl OQ 0 p 4 rfl (.slice (some ⟨g, o, none⟩) k cp) rfl (by kernel_rfl) _ _ rfl (by show (4 : Nat) < 8; decide) rfl ?_
   clear OQ
   intro w OQ
   simp only [List.set_cons_zero] at OQ
   simp only [Act.put, jq1, jq2, jq3]
   refine hK.out _ _ (waits_all (by kernel_rfl)) ?_
   clear hK K hH
   refine wpAnyJ_done (by kernel_rfl) ?_ _
   have o10 : (Value.slice a9 n9 c9).ownBlock = (Value.slice (some ⟨gs, os, none⟩) (m + 1) cs).ownBlock ∨ ∃ b, (Value.slice a9 n9 c9).ownBlock = some b ∧ wr.heap.size ≤ b := by
    rcases o9 with e | ⟨b, e, hb⟩
    ·exact .inl e
    ·exact .inr ⟨b, e, Nat.le_trans z8 hb⟩
   have zw := T1.out.size
   have t11 := T1.out.trans t10 (fun b hb hl => (F1.out b (.inr (.inl hb))).resolve_right (by omega))
   go_wp2_with fail
   go_roundg k
   case measure => omega
   case rel =>
    refine ⟨{ c1 with store := c1.store ++ [lastB c1.pend], pend := c1.pend.dropLast }, _, _, by have := HK.out; simp [this], H1.out.push t10 OQ.tch hL o10 HK.out (OQ.at_ 0 rfl) rfl rfl HOK1.out, t11.trans OQ.tch (fun b hb _ => .inl hb), ?_, HE2.out⟩
    intro b hb
    rcases hb with hb | hb | hb
    ·exact .inl (.inl hb)
    ·rcases o10 with e | ⟨d, e, hd⟩
     ·exact F1.out b (.inr (.inl (e ▸ hb)))
     ·rw [hb] at e
      injection e with e
      subst e
      exact .inr (Nat.le_trans zw hd)
    ·exact F1.out b (.inr (.inr hb))
  by_cases c2 : V = 159
  ·have he := HE.out
   rw [if_neg c0, if_pos c2] at he
   obtain ⟨hb, hok⟩ := HS1.out c2
   subst c2
   have P1 : y.header.cells[1]? = some (.int .i64 (lastB c1.store).header.height) := by rw [← HY.out.1.header]; rfl
   have P6 : x.cells[1]? = some (.int .i64 (lastB c1.pend).header.height) := by rw [← HX.out.1.header]; rfl
   obtain ⟨A1, hA1⟩ : ∃ z, (lastB c1.store).header.height = z := ⟨_, rfl⟩
   obtain ⟨B1, hB1⟩ : ∃ z, (lastB c1.pend).header.height = z := ⟨_, rfl⟩
   rw [hA1] at P1 hb he hok; rw [hB1] at P6 hb he hok
   obtain ⟨D, hD⟩ : ∃ d : Nat, B1 = A1 + d := ⟨(B1 - A1).toNat, by omega⟩
   subst hD
   have hdd : A1 + (D : Int) - A1 = D := by omega
   rw [hdd] at he hok
   have hq : (D : Int).tdiv 2 = ((D / 2 : Nat) : Int) := by rw [Int.tdiv_eq_ediv_of_nonneg (by omega)]; omega
   have hq2 : (D : Int) / 2 = ((D / 2 : Nat) : Int) := by omega
   rw [hq2] at he hok
   obtain ⟨E, hE⟩ : ∃ e : Nat, D / 2 = e := ⟨_, rfl⟩
   rw [hE] at hq hq2 he hok
   have ew1 := IntWalk.i64_in (D : Int) (by omega)
   have ew2 := IntWalk.i64_in (E : Int) (by omega)
   have ew3 := IntWalk.i64_in (A1 + (E : Int)) (by omega)
   have HE3 := Lib.hid he; have HOK1 := Lib.hid hok
   clear he hok hA1 hB1 hE hb CP HE HS0 HS1 hix ewk c0
   replace P6 := Lib.hid P6; replace P1 := Lib.hid P1
   go_wp2_with fail
   refine (CL.out _ (O.tch.grown (fun _ h => h.elim))).mono ?_
   rintro e w5 ⟨rfl, g5⟩
   replace O := O.call g5
   clear g5
   have OP := O.join (F := fun b => b = p) H1.out.blk rfl
   clear O
   go_wp2_with (first | ((with_reducible refine @wpList_at _ _ _ _ _ _ _ (.field 31 (.tmp 93) 0) rfl ?_); refine wpList_field_part 31 (.tmp 93) 0 rfl y.cells rfl _ Tryz.underlying31 25 0 rfl _ Tryz.underlying25 rfl y.header.cells (sizeHeader _ (y.header.cells_length YW.out.header)) (LtR.hdr_field YW.out) rfl ?_) | ((with_reducible refine @wpList_at _ _ _ _ _ _ _ (.field 25 (.tmp 94) 1) rfl ?_); refine wpList_field_one 25 (.tmp 94) 1 rfl y.header.cells rfl _ Tryz.underlying25 3 1 rfl _ Tryz.underlying3 rfl _ P1.out rfl ?_) | ((with_reducible refine @wpList_at _ _ _ _ _ _ _ (.load 3 (.tmp 99)) rfl ?_); refine @wpList_of_cell _ _ _ _ _ _ _ _ _ _ 3 (.tmp 99) rfl OP 1 b7 1 rfl _ _ rfl _ P6.out _ Tryz.underlying3 rfl rfl ?_) | ((with_reducible refine @wpList_at _ _ _ _ _ _ _ (.store 3 (.tmp 106) (.tmp 104)) rfl ?_); refine @wpList_of_store_cell _ _ _ _ _ _ _ _ _ _ 3 (.tmp 106) (.tmp 104) rfl OP 0 p 5 rfl (.int .i64 (A1 + (E : Int))) rfl (by kernel_rfl) _ _ rfl (by show (5 : Nat) < 8; decide) rfl rfl ?_; clear OP; intro w OP; simp only [List.set_cons_zero] at OP))
   go_ret
   rw [← HE3.out]
   refine ⟨rfl, I', HII.out.1, HII.out.2, _, _, H1.out.put OP.tch (OP.at_ 0 rfl) rfl (.inl ⟨rfl, rfl⟩) HOK1.out, T1.out.trans OP.tch (fun b hb _ => .inl hb), F1.out⟩
  ·have he := HE.out
   rw [if_neg c0, if_neg c2] at he
   have CD := Lib.hid (fun w (gg : wr.grownBy w none) => Rdrop_ok (H1.out.grown gg))
   have d0 : (V == 159) = false := by simpa using c2
   have d1 : (V != 0) = true := by simpa using c0
   have HE3 := Lib.hid he
   clear he CP HE HS0 HS1 hix ewk c0 c2
   have G9 := O.tch.grown (fun _ h => h.elim)
   go_wp2_with fail
   refine (CD.out _ G9).mono ?_
   rintro e w2 ⟨rfl, r2, t2⟩
   go_wp2_with fail
   go_ret
   rw [← HE3.out]
   refine ⟨rfl, I', HII.out.1, HII.out.2, _, _, r2, T1.out.trans ((Tch.of_grown (F := fun b => b = p) G9).trans t2 (fun b hb _ => hb)) (fun b hb _ => .inl hb), fun b hb => ?_⟩
   rcases hb with hb | hb | hb
   ·exact .inl (.inl hb)
   ·exact F1.out b (.inr (.inl hb))
   ·cases hb
end Go.Proofs.YtdhchehagfmjcaaGreatDoor
