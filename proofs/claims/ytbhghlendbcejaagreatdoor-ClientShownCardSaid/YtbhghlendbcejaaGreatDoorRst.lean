/- Walk: the document's Sound, as the plain law says. Walk: nuncioref15.Step. -/
import Derived.Test.YtbhghlendbcejaaGreatDoorVs
import Derived.Test.YtbhghlendbcejaaGreatDoorR15
import Derived.Deep.QuietTactic
import Derived.BigQuiet
namespace Go.Proofs.YtbhghlendbcejaaGreatDoor
open Go.RowKit
set_option maxRecDepth 100000

theorem check_right {ds : List ValD} (chain : ByteArray) (c : CommitD) (h : rightL ds = true) : checkL ds chain c = 0 ∨ checkL ds chain c = 158 := check_two h
theorem LtR.cblkAt (x : LtR) (hx : x.wf) (w : World) (g : Nat) (h : RowAt w g 0 x.cells) : RowAt w g 165 (Lib.byteCells x.block) := LtR.cblk_at h hx

set_option maxHeartbeats 8000000 in
theorem RSound_ok (chain : ByteArray) (x : LtR) (l : LightD) (w0 : World) (hl : l.wf) (ho : x.of w0.heap.size w0 l) (hn : l.commit.seals.length ≤ 1000) (hch : chain.size ≤ 140737488351232) (hcs : l.header.chain.size ≤ 140737488351232) :
    Calls Tryz.prog 51 #[.string chain, .agg x.cells.toArray] w0 fun e w' => e = .returned (.int .i64 (soundL chain l)) ∧ w0.grownBy w' none := by
  have O := Own.start w0
  have HX := Lib.hid (ho.wf hl)
  have hx := HX.out
  have C1 := fun w => RHeader x.header w hx.header (by rw [ho.header]; exact hcs)
  have C2 := fun w (g : w0.grownBy w none) => RCommit l.commit x.comCells w ((ho.up g (Nat.le_refl _)).com) (Nat.le_refl _) hl.commit
  have C4 := fun w (g : w0.grownBy w none) => RHashV_ok (.slice x.ta x.tn x.tc) l.set w hl.set (ho.grown g).set g.size
  have C5 := fun w (g : w0.grownBy w none) => RHashV_ok (.slice x.na x.nn x.nc) l.next w hl.next (ho.grown g).next g.size
  have C6 := fun w => RHeaderHash x.header w hx.header (by rw [ho.header]; exact hcs)
  have C7 := fun w (g : w0.grownBy w none) => RCheck_ok (.slice x.ta x.tn x.tc) l.set chain l.commit x.comCells w (ho.grown g).set hch hl.commit ((ho.up g (Nat.le_refl _)).com) hn g.size
  unfold HeaderD.val at C1
  unfold RHashes at C6
  rw [ho.header] at C1 C6
  have EX1 : blake (2 :: encHeader l.header) = hdrHash l.header := rfl
  have ES : rightL l.set = true → vhashL l.set = setHash l.set := fun h => by unfold vhashL; rw [if_pos h]
  have EN : rightL l.next = true → vhashL l.next = setHash l.next := fun h => by unfold vhashL; rw [if_pos h]
  have s1 := @sound_1 chain l; have s2 := @sound_2 chain l; have s3 := @sound_3 chain l; have s4 := @sound_4 chain l; have s5 := @sound_5 chain l; have s6 := @sound_6 chain l; have s7 := @sound_7 chain l
  have hz := @check_right l.set chain l.commit
  unfold errV at C4 C5
  have L2 := Lib.hid (vhashL_len l.set); have L3 := Lib.hid (vhashL_len l.next); have L1 := Lib.hid (show (hdrHash l.header).length = 32 from blake_len _)
  have Q1 := hl.header.set; have Q2 := hl.header.next; have Q3 := hl.commit.block
  have R1 : ∀ (w : World) (g : Nat), RowAt w g 0 x.cells → RowAt w g 35 (Lib.byteCells l.header.set) := fun _ _ h => by have := LtR.hset_at h hx; rwa [ho.header] at this
  have R2 : ∀ (w : World) (g : Nat), RowAt w g 0 x.cells → RowAt w g 67 (Lib.byteCells l.header.next) := fun _ _ h => by have := LtR.hnext_at h hx; rwa [ho.header] at this
  have R3 : ∀ (w : World) (g : Nat), RowAt w g 0 x.cells → RowAt w g 165 (Lib.byteCells l.commit.block) := fun _ _ h => by have := LtR.cblk_at h hx; rwa [ho.block] at this
  have HW := Lib.hid hl.header
  have HD := Lib.hid (show ∀ (w : World) (g : Nat), RowAt w g 0 x.cells → RowAt w g 0 l.header.cells from fun _ _ h => by have := LtR.hdr_at h hx; rwa [ho.header] at this)
  have G0 := Lib.hid (show x.cells[0]? = some (.string l.header.chain) by rw [← ho.header]; rfl)
  have G1 := Lib.hid (show x.cells[1]? = some (.int .i64 l.header.height) by rw [← ho.header]; rfl)
  have G163 := Lib.hid (show x.cells[163]? = some (.int .i64 l.commit.height) by rw [← ho.height]; exact LtR.get_height x hx)
  have G198 := Lib.hid (LtR.get_set x hx); have G199 := Lib.hid (LtR.get_next x hx)
  obtain ⟨V, hV⟩ : ∃ V, soundL chain l = V := ⟨_, rfl⟩
  obtain ⟨k1, hk1⟩ : ∃ y, okHeader l.header = y := ⟨_, rfl⟩
  obtain ⟨k2, hk2⟩ : ∃ y, okCommitN l.commit = y := ⟨_, rfl⟩
  obtain ⟨k4, hk4⟩ : ∃ y, rightL l.set = y := ⟨_, rfl⟩
  obtain ⟨k5, hk5⟩ : ∃ y, rightL l.next = y := ⟨_, rfl⟩
  rw [EX1] at C6
  obtain ⟨X1, hX1⟩ : ∃ y, hdrHash l.header = y := ⟨_, rfl⟩
  obtain ⟨X2, hX2⟩ : ∃ y, vhashL l.set = y := ⟨_, rfl⟩
  obtain ⟨X3, hX3⟩ : ∃ y, vhashL l.next = y := ⟨_, rfl⟩
  obtain ⟨Y1, hY1⟩ : ∃ y, l.header.set = y := ⟨_, rfl⟩
  obtain ⟨Y2, hY2⟩ : ∃ y, l.header.next = y := ⟨_, rfl⟩
  obtain ⟨Y3, hY3⟩ : ∃ y, l.commit.block = y := ⟨_, rfl⟩
  obtain ⟨Z2, hZ2⟩ : ∃ y, setHash l.set = y := ⟨_, rfl⟩
  obtain ⟨Z3, hZ3⟩ : ∃ y, setHash l.next = y := ⟨_, rfl⟩
  obtain ⟨m1, hm1⟩ : ∃ y, l.commit.height = y := ⟨_, rfl⟩
  obtain ⟨m2, hm2⟩ : ∃ y, l.header.height = y := ⟨_, rfl⟩
  obtain ⟨z, hz1⟩ : ∃ z, checkL l.set chain l.commit = z := ⟨_, rfl⟩
  obtain ⟨ch, hch1⟩ : ∃ z, l.header.chain = z := ⟨_, rfl⟩
  rw [hV] at s1 s2 s3 s4 s5 s6 s7 ⊢
  rw [hk1] at C1 C6 s1 s2 s3 s4 s5 s6 s7; rw [hk2] at C2 s2 s3 s4 s5 s6 s7; rw [hk4] at C4 ES s4 s5 s6 s7 hz; rw [hk5] at C5 EN s4 s5 s6 s7
  rw [hX1] at C6 L1 s6 s7; rw [hX2] at C4 L2 ES; rw [hX3] at C5 L3 EN; rw [hZ2] at ES s5 s6 s7; rw [hZ3] at EN s5 s6 s7
  rw [hY1] at R1 Q1 s5 s6 s7; rw [hY2] at R2 Q2 s5 s6 s7; rw [hY3] at R3 Q3 s6 s7; rw [hm1] at G163 s6 s7; rw [hm2] at G1 s6 s7; rw [hz1] at C7 s7 hz; rw [hch1] at G0 s3 s4 s5 s6 s7
  obtain ⟨e4, he4⟩ : ∃ y : Int, (if k4 then 0 else 71) = y := ⟨_, rfl⟩
  obtain ⟨e5, he5⟩ : ∃ y : Int, (if k5 then 0 else 71) = y := ⟨_, rfl⟩
  rw [he4] at C4; rw [he5] at C5
  obtain ⟨n1, hn1⟩ : ∃ n, (!VEq (Lib.byteCells X2) (Lib.byteCells Y1)) = n := ⟨_, rfl⟩
  obtain ⟨n2, hn2⟩ : ∃ n, (!VEq (Lib.byteCells X3) (Lib.byteCells Y2)) = n := ⟨_, rfl⟩
  obtain ⟨n3, hn3⟩ : ∃ n, (!VEq (Lib.byteCells Y3) (Lib.byteCells X1)) = n := ⟨_, rfl⟩
  have I1 := Lib.hid (hne hn1); have I2 := Lib.hid (hne hn2); have I3 := Lib.hid (hne hn3)
  have N1 := Lib.hid hn1; have N2 := Lib.hid hn2; have N3 := Lib.hid hn3
  have Q1 := Lib.hid Q1; have Q2 := Lib.hid Q2; have Q3 := Lib.hid Q3; have R1 := Lib.hid R1; have R2 := Lib.hid R2; have R3 := Lib.hid R3
  have C1 := Lib.hid C1; have C2 := Lib.hid C2; have C4 := Lib.hid C4; have C5 := Lib.hid C5; have C6 := Lib.hid C6; have C7 := Lib.hid C7
  replace ES := Lib.hid ES; replace EN := Lib.hid EN; have HE4 := Lib.hid he4; have HE5 := Lib.hid he5; have HZ := Lib.hid hz
  have T1 := Lib.hid s1; have T2 := Lib.hid s2; have T3 := Lib.hid s3; have T4 := Lib.hid s4; have T5 := Lib.hid s5; have T6 := Lib.hid s6; have T7 := Lib.hid s7
  clear hV hk1 hk2 hk4 hk5 hX1 hX2 hX3 hY1 hY2 hY3 hZ2 hZ3 hm1 hm2 hz1 hch1 hn1 hn2 hn3 he4 he5 hz s1 s2 s3 s4 s5 s6 s7 EX1 hl ho hn hch hcs hx
  go_enter Tryz.func51, Tryz.ntmps51
  go_wp2_with (first | (refine @wpList_own_box _ _ _ _ _ _ _ _ _ 31 _ rfl x.cells rfl O rfl ?_; clear O; intro b w O) | ((with_reducible refine @wpList_at _ _ _ _ _ _ _ (.load 25 (.tmp 16)) rfl ?_); refine @wpList_own_part _ _ _ _ _ _ _ _ _ 25 (.tmp 16) rfl O 0 b 0 rfl _ _ rfl l.header.cells _ (fun h => HD.out _ _ h) Tryz.underlying25 rfl (sizeHeader _ (l.header.cells_length HW.out)) rfl ?_))
  refine (C1.out _).mono ?_
  intro e w h1
  obtain ⟨a2, n2', q2, rfl, _, g⟩ := RefW.ofOk h1 (fun _ => rfl)
  replace O := O.call g
  clear g h1
  go_wp2_with (first | (refine @wpList_own_box _ _ _ _ _ _ _ _ _ 31 _ rfl x.cells rfl O rfl ?_; clear O; intro b w O) | ((with_reducible refine @wpList_at _ _ _ _ _ _ _ (.load 28 (.tmp 22)) rfl ?_); refine @wpList_own_part _ _ _ _ _ _ _ _ _ 28 (.tmp 22) rfl O 0 b 163 rfl _ _ rfl x.comCells _ (fun h => LtR.com_at h HX.out) Tryz.underlying28 rfl (by rw [LtR.com_length HX.out]; exact sizeCommit) rfl ?_))
  refine (C2.out _ O.grown).mono ?_
  intro e w h1
  obtain ⟨a3, n3', q3, rfl, _, g⟩ := RefW.ofOk h1 (fun _ => rfl)
  replace O := O.call g
  clear g h1
  cases k1 with
  | false =>
    go_wp2_with fail
    go_ret
    rw [T1.out (by trivial)]
    exact ⟨rfl, O.grown⟩
  | true =>
  cases k2 with
  | false =>
    go_wp2_with fail
    go_ret
    rw [T2.out (by trivial) (by trivial)]
    exact ⟨rfl, O.grown⟩
  | true =>
  by_cases hcc : ch = chain
  case neg =>
    have J := Lib.hid (T3.out (by trivial) (by trivial) hcc)
    have hne := str_ne hcc
    clear hcc
    go_wp2_with (first | ((with_reducible refine @wpList_at _ _ _ _ _ _ _ (.load 9 (.tmp 34)) rfl ?_); refine @wpList_own_cell _ _ _ _ _ _ _ _ _ 9 (.tmp 34) rfl O 0 b 0 rfl _ _ rfl _ G0.out _ Tryz.underlying9 rfl rfl ?_))
    go_ret
    rw [J.out]
    exact ⟨rfl, O.grown⟩
  have K3 := Lib.hid hcc
  rw [hcc] at G0
  clear hcc
  go_wp2_with (first | ((with_reducible refine @wpList_at _ _ _ _ _ _ _ (.load 9 (.tmp 34)) rfl ?_); refine @wpList_own_cell _ _ _ _ _ _ _ _ _ 9 (.tmp 34) rfl O 0 b 0 rfl _ _ rfl _ G0.out _ Tryz.underlying9 rfl rfl ?_) | ((with_reducible refine @wpList_at _ _ _ _ _ _ _ (.load 29 (.tmp 39)) rfl ?_); refine @wpList_own_cell _ _ _ _ _ _ _ _ _ 29 (.tmp 39) rfl O 0 b 198 rfl _ _ rfl _ G198.out _ Tryz.underlying29 rfl rfl ?_))
  refine (C4.out _ O.grown).mono ?_
  rintro e w ⟨rfl, g⟩
  replace O := O.call g
  clear g
  go_wp2_with (first | ((with_reducible refine @wpList_at _ _ _ _ _ _ _ (.alloc 23) rfl ?_); refine @wpList_own_alloc _ _ _ _ _ _ _ _ _ 23 rfl ZH ZH_info O rfl ?_; clear O; intro p2 w O) | ((with_reducible refine @wpList_at _ _ _ _ _ _ _ (.store 23 (.tmp 9) (.tmp 42)) rfl ?_); refine @wpList_own_store _ _ _ _ _ _ _ _ _ 23 (.tmp 9) (.tmp 42) rfl O 0 p2 rfl (Lib.byteCells X2) ZH _ rfl rfl (by rw [Lib.byteCells_length, L2.out]; rfl) (oneCell_bytes _) (sizeH _ (by rw [Lib.byteCells_length, L2.out])) rfl ?_; clear O; intro w O; simp only [List.set_cons_zero] at O) | ((with_reducible refine @wpList_at _ _ _ _ _ _ _ (.load 29 (.tmp 45)) rfl ?_); refine @wpList_own_cell _ _ _ _ _ _ _ _ _ 29 (.tmp 45) rfl O 1 b 199 rfl _ _ rfl _ G199.out _ Tryz.underlying29 rfl rfl ?_))
  refine (C5.out _ O.grown).mono ?_
  rintro e w ⟨rfl, g⟩
  replace O := O.call g
  clear g
  cases k4 with
  | false =>
    have e0 : e4 = 71 := HE4.out.symm
    subst e0
    have J := Lib.hid (T4.out (by trivial) (by trivial) K3.out (.inl (by trivial)))
    go_wp2_with (first | ((with_reducible refine @wpList_at _ _ _ _ _ _ _ (.alloc 23) rfl ?_); refine @wpList_own_alloc _ _ _ _ _ _ _ _ _ 23 rfl ZH ZH_info O rfl ?_; clear O; intro p3 w O) | ((with_reducible refine @wpList_at _ _ _ _ _ _ _ (.store 23 (.tmp 11) (.tmp 48)) rfl ?_); refine @wpList_own_store _ _ _ _ _ _ _ _ _ 23 (.tmp 11) (.tmp 48) rfl O 0 p3 rfl (Lib.byteCells X3) ZH _ rfl rfl (by rw [Lib.byteCells_length, L3.out]; rfl) (oneCell_bytes _) (sizeH _ (by rw [Lib.byteCells_length, L3.out])) rfl ?_; clear O; intro w O; simp only [List.set_cons_zero] at O))
    go_ret
    rw [J.out]
    exact ⟨rfl, O.grown⟩
  | true =>
  have e0 : e4 = 0 := HE4.out.symm
  subst e0
  cases k5 with
  | false =>
    have e0 : e5 = 71 := HE5.out.symm
    subst e0
    have J := Lib.hid (T4.out (by trivial) (by trivial) K3.out (.inr (by trivial)))
    go_wp2_with (first | ((with_reducible refine @wpList_at _ _ _ _ _ _ _ (.alloc 23) rfl ?_); refine @wpList_own_alloc _ _ _ _ _ _ _ _ _ 23 rfl ZH ZH_info O rfl ?_; clear O; intro p3 w O) | ((with_reducible refine @wpList_at _ _ _ _ _ _ _ (.store 23 (.tmp 11) (.tmp 48)) rfl ?_); refine @wpList_own_store _ _ _ _ _ _ _ _ _ 23 (.tmp 11) (.tmp 48) rfl O 0 p3 rfl (Lib.byteCells X3) ZH _ rfl rfl (by rw [Lib.byteCells_length, L3.out]; rfl) (oneCell_bytes _) (sizeH _ (by rw [Lib.byteCells_length, L3.out])) rfl ?_; clear O; intro w O; simp only [List.set_cons_zero] at O))
    go_ret
    rw [J.out]
    exact ⟨rfl, O.grown⟩
  | true =>
  have e0 : e5 = 0 := HE5.out.symm
  subst e0
  have U2 := Lib.hid (ES.out (by trivial)); have U3 := Lib.hid (EN.out (by trivial))
  cases n1 with
  | true =>
    have J := Lib.hid (T5.out (by trivial) (by trivial) K3.out (by trivial) (by trivial) (.inl (by rw [← U2.out]; exact I1.out.1 (by trivial))))
    go_wp2_with (first | ((with_reducible refine @wpList_at _ _ _ _ _ _ _ (.alloc 23) rfl ?_); refine @wpList_own_alloc _ _ _ _ _ _ _ _ _ 23 rfl ZH ZH_info O rfl ?_; clear O; intro p3 w O) | ((with_reducible refine @wpList_at _ _ _ _ _ _ _ (.store 23 (.tmp 11) (.tmp 48)) rfl ?_); refine @wpList_own_store _ _ _ _ _ _ _ _ _ 23 (.tmp 11) (.tmp 48) rfl O 0 p3 rfl (Lib.byteCells X3) ZH _ rfl rfl (by rw [Lib.byteCells_length, L3.out]; rfl) (oneCell_bytes _) (sizeH _ (by rw [Lib.byteCells_length, L3.out])) rfl ?_; clear O; intro w O; simp only [List.set_cons_zero] at O) | ((with_reducible refine @wpList_at _ _ _ _ _ _ _ (.load 23 (.tmp 9)) rfl ?_); refine @wpList_own_whole _ _ _ _ _ _ _ _ _ 23 (.tmp 9) rfl O 1 p2 rfl (Lib.byteCells X2) _ rfl _ Tryz.underlying23 rfl (sizeH _ (by rw [Lib.byteCells_length, L2.out])) rfl ?_) | ((with_reducible refine @wpList_at _ _ _ _ _ _ _ (.load 23 (.tmp 11)) rfl ?_); refine @wpList_own_whole _ _ _ _ _ _ _ _ _ 23 (.tmp 11) rfl O 0 p3 rfl (Lib.byteCells X3) _ rfl _ Tryz.underlying23 rfl (sizeH _ (by rw [Lib.byteCells_length, L3.out])) rfl ?_) | ((with_reducible refine @wpList_at _ _ _ _ _ _ _ (.load 23 (.tmp 58)) rfl ?_); refine @wpList_own_part _ _ _ _ _ _ _ _ _ 23 (.tmp 58) rfl O 2 b 35 rfl _ _ rfl (Lib.byteCells Y1) _ (fun h => R1.out _ _ h) Tryz.underlying23 rfl (sizeH _ (by rw [Lib.byteCells_length, Q1.out])) rfl ?_) | ((with_reducible refine @wpList_at _ _ _ _ _ _ _ (.binOp .neq 23 (.tmp 56) (.tmp 59) 23) rfl ?_); refine @wpList_neq_own _ _ _ _ _ _ _ 23 _ (.tmp 56) (.tmp 59) rfl (Lib.byteCells X2) (Lib.byteCells Y1) kHash rfl rfl hash_flat (hash_fits _ L2.out) (hash_fits _ Q1.out) rfl (by kernel_rfl) rfl ?_; rw [N1.out]))
    go_ret
    rw [J.out]
    exact ⟨rfl, O.grown⟩
  | false =>
  have F1 := Lib.hid (show Z2 = Y1 by rw [← U2.out]; exact Classical.not_not.1 (fun h => by have := I1.out.2 h; cases this))
  cases n2 with
  | true =>
    have J := Lib.hid (T5.out (by trivial) (by trivial) K3.out (by trivial) (by trivial) (.inr (by rw [← U3.out]; exact I2.out.1 (by trivial))))
    go_wp2_with (first | ((with_reducible refine @wpList_at _ _ _ _ _ _ _ (.alloc 23) rfl ?_); refine @wpList_own_alloc _ _ _ _ _ _ _ _ _ 23 rfl ZH ZH_info O rfl ?_; clear O; intro p3 w O) | ((with_reducible refine @wpList_at _ _ _ _ _ _ _ (.store 23 (.tmp 11) (.tmp 48)) rfl ?_); refine @wpList_own_store _ _ _ _ _ _ _ _ _ 23 (.tmp 11) (.tmp 48) rfl O 0 p3 rfl (Lib.byteCells X3) ZH _ rfl rfl (by rw [Lib.byteCells_length, L3.out]; rfl) (oneCell_bytes _) (sizeH _ (by rw [Lib.byteCells_length, L3.out])) rfl ?_; clear O; intro w O; simp only [List.set_cons_zero] at O) | ((with_reducible refine @wpList_at _ _ _ _ _ _ _ (.load 23 (.tmp 9)) rfl ?_); refine @wpList_own_whole _ _ _ _ _ _ _ _ _ 23 (.tmp 9) rfl O 1 p2 rfl (Lib.byteCells X2) _ rfl _ Tryz.underlying23 rfl (sizeH _ (by rw [Lib.byteCells_length, L2.out])) rfl ?_) | ((with_reducible refine @wpList_at _ _ _ _ _ _ _ (.load 23 (.tmp 11)) rfl ?_); refine @wpList_own_whole _ _ _ _ _ _ _ _ _ 23 (.tmp 11) rfl O 0 p3 rfl (Lib.byteCells X3) _ rfl _ Tryz.underlying23 rfl (sizeH _ (by rw [Lib.byteCells_length, L3.out])) rfl ?_) | ((with_reducible refine @wpList_at _ _ _ _ _ _ _ (.load 23 (.tmp 58)) rfl ?_); refine @wpList_own_part _ _ _ _ _ _ _ _ _ 23 (.tmp 58) rfl O 2 b 35 rfl _ _ rfl (Lib.byteCells Y1) _ (fun h => R1.out _ _ h) Tryz.underlying23 rfl (sizeH _ (by rw [Lib.byteCells_length, Q1.out])) rfl ?_) | ((with_reducible refine @wpList_at _ _ _ _ _ _ _ (.load 23 (.tmp 64)) rfl ?_); refine @wpList_own_part _ _ _ _ _ _ _ _ _ 23 (.tmp 64) rfl O 2 b 67 rfl _ _ rfl (Lib.byteCells Y2) _ (fun h => R2.out _ _ h) Tryz.underlying23 rfl (sizeH _ (by rw [Lib.byteCells_length, Q2.out])) rfl ?_) | ((with_reducible refine @wpList_at _ _ _ _ _ _ _ (.binOp .neq 23 (.tmp 56) (.tmp 59) 23) rfl ?_); refine @wpList_neq_own _ _ _ _ _ _ _ 23 _ (.tmp 56) (.tmp 59) rfl (Lib.byteCells X2) (Lib.byteCells Y1) kHash rfl rfl hash_flat (hash_fits _ L2.out) (hash_fits _ Q1.out) rfl (by kernel_rfl) rfl ?_; rw [N1.out]) | ((with_reducible refine @wpList_at _ _ _ _ _ _ _ (.binOp .neq 23 (.tmp 62) (.tmp 65) 23) rfl ?_); refine @wpList_neq_own _ _ _ _ _ _ _ 23 _ (.tmp 62) (.tmp 65) rfl (Lib.byteCells X3) (Lib.byteCells Y2) kHash rfl rfl hash_flat (hash_fits _ L3.out) (hash_fits _ Q2.out) rfl (by kernel_rfl) rfl ?_; rw [N2.out]))
    go_ret
    rw [J.out]
    exact ⟨rfl, O.grown⟩
  | false =>
  have F2 := Lib.hid (show Z3 = Y2 by rw [← U3.out]; exact Classical.not_not.1 (fun h => by have := I2.out.2 h; cases this))
  go_wp2_with (first | ((with_reducible refine @wpList_at _ _ _ _ _ _ _ (.alloc 23) rfl ?_); refine @wpList_own_alloc _ _ _ _ _ _ _ _ _ 23 rfl ZH ZH_info O rfl ?_; clear O; intro p3 w O) | ((with_reducible refine @wpList_at _ _ _ _ _ _ _ (.store 23 (.tmp 11) (.tmp 48)) rfl ?_); refine @wpList_own_store _ _ _ _ _ _ _ _ _ 23 (.tmp 11) (.tmp 48) rfl O 0 p3 rfl (Lib.byteCells X3) ZH _ rfl rfl (by rw [Lib.byteCells_length, L3.out]; rfl) (oneCell_bytes _) (sizeH _ (by rw [Lib.byteCells_length, L3.out])) rfl ?_; clear O; intro w O; simp only [List.set_cons_zero] at O) | ((with_reducible refine @wpList_at _ _ _ _ _ _ _ (.load 23 (.tmp 9)) rfl ?_); refine @wpList_own_whole _ _ _ _ _ _ _ _ _ 23 (.tmp 9) rfl O 1 p2 rfl (Lib.byteCells X2) _ rfl _ Tryz.underlying23 rfl (sizeH _ (by rw [Lib.byteCells_length, L2.out])) rfl ?_) | ((with_reducible refine @wpList_at _ _ _ _ _ _ _ (.load 23 (.tmp 11)) rfl ?_); refine @wpList_own_whole _ _ _ _ _ _ _ _ _ 23 (.tmp 11) rfl O 0 p3 rfl (Lib.byteCells X3) _ rfl _ Tryz.underlying23 rfl (sizeH _ (by rw [Lib.byteCells_length, L3.out])) rfl ?_) | ((with_reducible refine @wpList_at _ _ _ _ _ _ _ (.load 23 (.tmp 58)) rfl ?_); refine @wpList_own_part _ _ _ _ _ _ _ _ _ 23 (.tmp 58) rfl O 2 b 35 rfl _ _ rfl (Lib.byteCells Y1) _ (fun h => R1.out _ _ h) Tryz.underlying23 rfl (sizeH _ (by rw [Lib.byteCells_length, Q1.out])) rfl ?_) | ((with_reducible refine @wpList_at _ _ _ _ _ _ _ (.load 23 (.tmp 64)) rfl ?_); refine @wpList_own_part _ _ _ _ _ _ _ _ _ 23 (.tmp 64) rfl O 2 b 67 rfl _ _ rfl (Lib.byteCells Y2) _ (fun h => R2.out _ _ h) Tryz.underlying23 rfl (sizeH _ (by rw [Lib.byteCells_length, Q2.out])) rfl ?_) | ((with_reducible refine @wpList_at _ _ _ _ _ _ _ (.binOp .neq 23 (.tmp 56) (.tmp 59) 23) rfl ?_); refine @wpList_neq_own _ _ _ _ _ _ _ 23 _ (.tmp 56) (.tmp 59) rfl (Lib.byteCells X2) (Lib.byteCells Y1) kHash rfl rfl hash_flat (hash_fits _ L2.out) (hash_fits _ Q1.out) rfl (by kernel_rfl) rfl ?_; rw [N1.out]) | ((with_reducible refine @wpList_at _ _ _ _ _ _ _ (.binOp .neq 23 (.tmp 62) (.tmp 65) 23) rfl ?_); refine @wpList_neq_own _ _ _ _ _ _ _ 23 _ (.tmp 62) (.tmp 65) rfl (Lib.byteCells X3) (Lib.byteCells Y2) kHash rfl rfl hash_flat (hash_fits _ L3.out) (hash_fits _ Q2.out) rfl (by kernel_rfl) rfl ?_; rw [N2.out]) | ((with_reducible refine @wpList_at _ _ _ _ _ _ _ (.load 25 (.tmp 69)) rfl ?_); refine @wpList_own_part _ _ _ _ _ _ _ _ _ 25 (.tmp 69) rfl O 2 b 0 rfl _ _ rfl l.header.cells _ (fun h => HD.out _ _ h) Tryz.underlying25 rfl (sizeHeader _ (l.header.cells_length HW.out)) rfl ?_))
  refine (C6.out _).mono ?_
  rintro e w ⟨rfl, g⟩
  replace O := O.call g
  clear g
  by_cases hm : m1 = m2
  case neg =>
    have J := Lib.hid (T6.out (by trivial) (by trivial) K3.out (by trivial) (by trivial) ⟨F1.out, F2.out⟩ (.inl hm))
    have d : (m1 != m2) = true := by simpa using hm
    clear hm
    go_wp2_with (first | ((with_reducible refine @wpList_at _ _ _ _ _ _ _ (.alloc 23) rfl ?_); refine @wpList_own_alloc _ _ _ _ _ _ _ _ _ 23 rfl ZH ZH_info O rfl ?_; clear O; intro p1 w O) | ((with_reducible refine @wpList_at _ _ _ _ _ _ _ (.store 23 (.tmp 13) (.tmp 72)) rfl ?_); refine @wpList_own_store _ _ _ _ _ _ _ _ _ 23 (.tmp 13) (.tmp 72) rfl O 0 p1 rfl (Lib.byteCells X1) ZH _ rfl rfl (by rw [Lib.byteCells_length, L1.out]; rfl) (oneCell_bytes _) (sizeH _ (by rw [Lib.byteCells_length, L1.out])) rfl ?_; clear O; intro w O; simp only [List.set_cons_zero] at O) | ((with_reducible refine @wpList_at _ _ _ _ _ _ _ (.load 3 (.tmp 75)) rfl ?_); refine @wpList_own_cell _ _ _ _ _ _ _ _ _ 3 (.tmp 75) rfl O 3 b 163 rfl _ _ rfl _ G163.out _ Tryz.underlying3 rfl rfl ?_) | ((with_reducible refine @wpList_at _ _ _ _ _ _ _ (.load 3 (.tmp 78)) rfl ?_); refine @wpList_own_cell _ _ _ _ _ _ _ _ _ 3 (.tmp 78) rfl O 3 b 1 rfl _ _ rfl _ G1.out _ Tryz.underlying3 rfl rfl ?_))
    go_ret
    rw [J.out]
    exact ⟨rfl, O.grown⟩
  subst hm
  cases n3 with
  | true =>
    have J := Lib.hid (T6.out (by trivial) (by trivial) K3.out (by trivial) (by trivial) ⟨F1.out, F2.out⟩ (.inr (I3.out.1 (by trivial))))
    go_wp2_with (first | ((with_reducible refine @wpList_at _ _ _ _ _ _ _ (.alloc 23) rfl ?_); refine @wpList_own_alloc _ _ _ _ _ _ _ _ _ 23 rfl ZH ZH_info O rfl ?_; clear O; intro p1 w O) | ((with_reducible refine @wpList_at _ _ _ _ _ _ _ (.store 23 (.tmp 13) (.tmp 72)) rfl ?_); refine @wpList_own_store _ _ _ _ _ _ _ _ _ 23 (.tmp 13) (.tmp 72) rfl O 0 p1 rfl (Lib.byteCells X1) ZH _ rfl rfl (by rw [Lib.byteCells_length, L1.out]; rfl) (oneCell_bytes _) (sizeH _ (by rw [Lib.byteCells_length, L1.out])) rfl ?_; clear O; intro w O; simp only [List.set_cons_zero] at O) | ((with_reducible refine @wpList_at _ _ _ _ _ _ _ (.load 3 (.tmp 75)) rfl ?_); refine @wpList_own_cell _ _ _ _ _ _ _ _ _ 3 (.tmp 75) rfl O 3 b 163 rfl _ _ rfl _ G163.out _ Tryz.underlying3 rfl rfl ?_) | ((with_reducible refine @wpList_at _ _ _ _ _ _ _ (.load 3 (.tmp 78)) rfl ?_); refine @wpList_own_cell _ _ _ _ _ _ _ _ _ 3 (.tmp 78) rfl O 3 b 1 rfl _ _ rfl _ G1.out _ Tryz.underlying3 rfl rfl ?_) | ((with_reducible refine @wpList_at _ _ _ _ _ _ _ (.load 23 (.tmp 83)) rfl ?_); refine @wpList_own_part _ _ _ _ _ _ _ _ _ 23 (.tmp 83) rfl O 3 b 165 rfl _ _ rfl (Lib.byteCells Y3) _ (fun h => R3.out _ _ h) Tryz.underlying23 rfl (sizeH _ (by rw [Lib.byteCells_length, Q3.out])) rfl ?_) | ((with_reducible refine @wpList_at _ _ _ _ _ _ _ (.load 23 (.tmp 13)) rfl ?_); refine @wpList_own_whole _ _ _ _ _ _ _ _ _ 23 (.tmp 13) rfl O 0 p1 rfl (Lib.byteCells X1) _ rfl _ Tryz.underlying23 rfl (sizeH _ (by rw [Lib.byteCells_length, L1.out])) rfl ?_) | ((with_reducible refine @wpList_at _ _ _ _ _ _ _ (.binOp .neq 23 (.tmp 84) (.tmp 85) 23) rfl ?_); refine @wpList_neq_own _ _ _ _ _ _ _ 23 _ (.tmp 84) (.tmp 85) rfl (Lib.byteCells Y3) (Lib.byteCells X1) kHash rfl rfl hash_flat (hash_fits _ Q3.out) (hash_fits _ L1.out) rfl (by kernel_rfl) rfl ?_; rw [N3.out]))
    go_ret
    rw [J.out]
    exact ⟨rfl, O.grown⟩
  | false =>
  have F3 := Lib.hid (show Y3 = X1 from Classical.not_not.1 (fun h => by have := I3.out.2 h; cases this))
  have J := Lib.hid (T7.out (by trivial) (by trivial) K3.out (by trivial) (by trivial) ⟨F1.out, F2.out⟩ ⟨(by trivial), F3.out⟩)
  have hz := HZ.out (by trivial)
  rcases hz with h0 | h0
  · subst h0
    go_wp2_with (first | ((with_reducible refine @wpList_at _ _ _ _ _ _ _ (.alloc 23) rfl ?_); refine @wpList_own_alloc _ _ _ _ _ _ _ _ _ 23 rfl ZH ZH_info O rfl ?_; clear O; intro p1 w O) | ((with_reducible refine @wpList_at _ _ _ _ _ _ _ (.store 23 (.tmp 13) (.tmp 72)) rfl ?_); refine @wpList_own_store _ _ _ _ _ _ _ _ _ 23 (.tmp 13) (.tmp 72) rfl O 0 p1 rfl (Lib.byteCells X1) ZH _ rfl rfl (by rw [Lib.byteCells_length, L1.out]; rfl) (oneCell_bytes _) (sizeH _ (by rw [Lib.byteCells_length, L1.out])) rfl ?_; clear O; intro w O; simp only [List.set_cons_zero] at O) | ((with_reducible refine @wpList_at _ _ _ _ _ _ _ (.load 3 (.tmp 75)) rfl ?_); refine @wpList_own_cell _ _ _ _ _ _ _ _ _ 3 (.tmp 75) rfl O 3 b 163 rfl _ _ rfl _ G163.out _ Tryz.underlying3 rfl rfl ?_) | ((with_reducible refine @wpList_at _ _ _ _ _ _ _ (.load 3 (.tmp 78)) rfl ?_); refine @wpList_own_cell _ _ _ _ _ _ _ _ _ 3 (.tmp 78) rfl O 3 b 1 rfl _ _ rfl _ G1.out _ Tryz.underlying3 rfl rfl ?_) | ((with_reducible refine @wpList_at _ _ _ _ _ _ _ (.load 23 (.tmp 83)) rfl ?_); refine @wpList_own_part _ _ _ _ _ _ _ _ _ 23 (.tmp 83) rfl O 3 b 165 rfl _ _ rfl (Lib.byteCells Y3) _ (fun h => R3.out _ _ h) Tryz.underlying23 rfl (sizeH _ (by rw [Lib.byteCells_length, Q3.out])) rfl ?_) | ((with_reducible refine @wpList_at _ _ _ _ _ _ _ (.load 23 (.tmp 13)) rfl ?_); refine @wpList_own_whole _ _ _ _ _ _ _ _ _ 23 (.tmp 13) rfl O 0 p1 rfl (Lib.byteCells X1) _ rfl _ Tryz.underlying23 rfl (sizeH _ (by rw [Lib.byteCells_length, L1.out])) rfl ?_) | ((with_reducible refine @wpList_at _ _ _ _ _ _ _ (.binOp .neq 23 (.tmp 84) (.tmp 85) 23) rfl ?_); refine @wpList_neq_own _ _ _ _ _ _ _ 23 _ (.tmp 84) (.tmp 85) rfl (Lib.byteCells Y3) (Lib.byteCells X1) kHash rfl rfl hash_flat (hash_fits _ Q3.out) (hash_fits _ L1.out) rfl (by kernel_rfl) rfl ?_; rw [N3.out]) | ((with_reducible refine @wpList_at _ _ _ _ _ _ _ (.load 29 (.tmp 89)) rfl ?_); refine @wpList_own_cell _ _ _ _ _ _ _ _ _ 29 (.tmp 89) rfl O 3 b 198 rfl _ _ rfl _ G198.out _ Tryz.underlying29 rfl rfl ?_) | ((with_reducible refine @wpList_at _ _ _ _ _ _ _ (.load 28 (.tmp 92)) rfl ?_); refine @wpList_own_part _ _ _ _ _ _ _ _ _ 28 (.tmp 92) rfl O 3 b 163 rfl _ _ rfl x.comCells _ (fun h => LtR.com_at h HX.out) Tryz.underlying28 rfl (by rw [LtR.com_length HX.out]; exact sizeCommit) rfl ?_))
    refine (C7.out _ O.grown).mono ?_
    rintro e w ⟨rfl, g⟩
    replace O := O.call g
    clear g
    go_wp2_with fail
    go_ret
    rw [J.out]
    exact ⟨rfl, O.grown⟩
  · subst h0
    go_wp2_with (first | ((with_reducible refine @wpList_at _ _ _ _ _ _ _ (.alloc 23) rfl ?_); refine @wpList_own_alloc _ _ _ _ _ _ _ _ _ 23 rfl ZH ZH_info O rfl ?_; clear O; intro p1 w O) | ((with_reducible refine @wpList_at _ _ _ _ _ _ _ (.store 23 (.tmp 13) (.tmp 72)) rfl ?_); refine @wpList_own_store _ _ _ _ _ _ _ _ _ 23 (.tmp 13) (.tmp 72) rfl O 0 p1 rfl (Lib.byteCells X1) ZH _ rfl rfl (by rw [Lib.byteCells_length, L1.out]; rfl) (oneCell_bytes _) (sizeH _ (by rw [Lib.byteCells_length, L1.out])) rfl ?_; clear O; intro w O; simp only [List.set_cons_zero] at O) | ((with_reducible refine @wpList_at _ _ _ _ _ _ _ (.load 3 (.tmp 75)) rfl ?_); refine @wpList_own_cell _ _ _ _ _ _ _ _ _ 3 (.tmp 75) rfl O 3 b 163 rfl _ _ rfl _ G163.out _ Tryz.underlying3 rfl rfl ?_) | ((with_reducible refine @wpList_at _ _ _ _ _ _ _ (.load 3 (.tmp 78)) rfl ?_); refine @wpList_own_cell _ _ _ _ _ _ _ _ _ 3 (.tmp 78) rfl O 3 b 1 rfl _ _ rfl _ G1.out _ Tryz.underlying3 rfl rfl ?_) | ((with_reducible refine @wpList_at _ _ _ _ _ _ _ (.load 23 (.tmp 83)) rfl ?_); refine @wpList_own_part _ _ _ _ _ _ _ _ _ 23 (.tmp 83) rfl O 3 b 165 rfl _ _ rfl (Lib.byteCells Y3) _ (fun h => R3.out _ _ h) Tryz.underlying23 rfl (sizeH _ (by rw [Lib.byteCells_length, Q3.out])) rfl ?_) | ((with_reducible refine @wpList_at _ _ _ _ _ _ _ (.load 23 (.tmp 13)) rfl ?_); refine @wpList_own_whole _ _ _ _ _ _ _ _ _ 23 (.tmp 13) rfl O 0 p1 rfl (Lib.byteCells X1) _ rfl _ Tryz.underlying23 rfl (sizeH _ (by rw [Lib.byteCells_length, L1.out])) rfl ?_) | ((with_reducible refine @wpList_at _ _ _ _ _ _ _ (.binOp .neq 23 (.tmp 84) (.tmp 85) 23) rfl ?_); refine @wpList_neq_own _ _ _ _ _ _ _ 23 _ (.tmp 84) (.tmp 85) rfl (Lib.byteCells Y3) (Lib.byteCells X1) kHash rfl rfl hash_flat (hash_fits _ Q3.out) (hash_fits _ L1.out) rfl (by kernel_rfl) rfl ?_; rw [N3.out]) | ((with_reducible refine @wpList_at _ _ _ _ _ _ _ (.load 29 (.tmp 89)) rfl ?_); refine @wpList_own_cell _ _ _ _ _ _ _ _ _ 29 (.tmp 89) rfl O 3 b 198 rfl _ _ rfl _ G198.out _ Tryz.underlying29 rfl rfl ?_) | ((with_reducible refine @wpList_at _ _ _ _ _ _ _ (.load 28 (.tmp 92)) rfl ?_); refine @wpList_own_part _ _ _ _ _ _ _ _ _ 28 (.tmp 92) rfl O 3 b 163 rfl _ _ rfl x.comCells _ (fun h => LtR.com_at h HX.out) Tryz.underlying28 rfl (by rw [LtR.com_length HX.out]; exact sizeCommit) rfl ?_))
    refine (C7.out _ O.grown).mono ?_
    rintro e w ⟨rfl, g⟩
    replace O := O.call g
    clear g
    go_wp2_with fail
    go_ret
    rw [J.out]
    exact ⟨rfl, O.grown⟩

theorem sum_total {ds : List ValD} (h : rightL ds = true) : (sumL ds).getD (-1) = totalL ds := by
  obtain ⟨n, e, _⟩ := rightL_sum h
  unfold totalL
  rw [if_pos h, e]; rfl
set_option maxHeartbeats 8000000 in
theorem RStep_ok (x y : LtR) (a b : LightD) (now : Nat) (o : OptD) (w0 : World) (ha : a.wf) (hb : b.wf) (ox : x.of w0.heap.size w0 a) (oy : y.of w0.heap.size w0 b) (hnow : now < 18446744073709551616) (ho : o.wf) (nb : b.commit.seals.length ≤ 1000)
    (hca : a.header.chain.size ≤ 140737488351232) (hcb : b.header.chain.size ≤ 140737488351232) :
    Calls Tryz.prog 22 #[.agg x.cells.toArray, .agg y.cells.toArray, .float .f64 now, .agg o.cells.toArray] w0 fun e w' => e = .returned (.int .i64 (vstepL a b now o)) ∧ w0.grownBy w' none := by
  have O := Own.start w0
  have HX := Lib.hid (ox.wf ha); have HY := Lib.hid (oy.wf hb); have OX := Lib.hid ox
  have hx := HX.out; have hy := HY.out
  have CR := fun w => ROptRight_ok o w ho
  have CF := fun w => finite_ok now w hnow
  have CE := fun w => RExpired_ok a.header.time now o w hnow ha.header.time
  have CS := fun w (g : w0.grownBy w none) => RSound_ok a.header.chain y b w hb (oy.up g (Nat.le_refl _)) nb hca hcb
  have CH := fun w => RHeaderHash x.header w hx.header (by rw [ox.header]; exact hca)
  have CV := fun w (g : w0.grownBy w none) => RShared_ok (.slice x.na x.nn x.nc) a.next a.header.chain b.commit y.comCells w (ox.grown g).next hca hb.commit ((oy.up g (Nat.le_refl _)).com) nb g.size
  have CU : ∀ w, w0.grownBy w none → Calls Tryz.prog 55 #[.slice x.na x.nn x.nc] w fun e w' => e = .returned (.int .i64 ((sumL a.next).getD (-1))) ∧ w' = w := fun w g => (RSumV_ok (.slice x.na x.nn x.nc) a.next w (ox.grown g).next).mono (fun e w' h => ⟨h.1, h.2.symm⟩)
  have hsubE : finB now = true → ∃ z, floatBits .sub .f64 (i2f b.header.time) now = some z := fun h => by
    obtain ⟨z, h1, _⟩ := sub_fin (i2f_fin b.header.time ⟨hb.header.time.1, by have := hb.header.time.2; omega⟩).1 ((finB_iff hnow).1 h)
    exact ⟨z, h1⟩
  have P0 := Lib.hid (show x.cells[0]? = some (.string a.header.chain) by rw [← ox.header]; rfl)
  have P1 := Lib.hid (show x.cells[1]? = some (.int .i64 a.header.height) by rw [← ox.header]; rfl)
  have P2 := Lib.hid (show x.cells[2]? = some (.int .i64 a.header.time) by rw [← ox.header]; rfl)
  have Q1 := Lib.hid (show y.cells[1]? = some (.int .i64 b.header.height) by rw [← oy.header]; rfl)
  have Q2 := Lib.hid (show y.cells[2]? = some (.int .i64 b.header.time) by rw [← oy.header]; rfl)
  have P199 := Lib.hid (LtR.get_next x hx)
  have HW := Lib.hid ha.header
  have HD := Lib.hid (show ∀ (w : World) (g : Nat), RowAt w g 0 x.cells → RowAt w g 0 a.header.cells from fun _ _ h => by have := LtR.hdr_at h hx; rwa [ox.header] at this)
  have hha := ha.header.height; have hhb := hb.header.height
  have K1 := hb.header.set; have K2 := ha.header.next; have K3 := hb.header.last
  have R1 : ∀ (w : World) (g : Nat), RowAt w g 0 y.cells → RowAt w g 35 (Lib.byteCells b.header.set) := fun _ _ h => by have := LtR.hset_at h hy; rwa [oy.header] at this
  have R2 : ∀ (w : World) (g : Nat), RowAt w g 0 x.cells → RowAt w g 67 (Lib.byteCells a.header.next) := fun _ _ h => by have := LtR.hnext_at h hx; rwa [ox.header] at this
  have R3 : ∀ (w : World) (g : Nat), RowAt w g 0 y.cells → RowAt w g 3 (Lib.byteCells b.header.last) := fun _ _ h => by have := LtR.last_at h hy; rwa [oy.header] at this
  have L1 := Lib.hid (show (hdrHash a.header).length = 32 from blake_len _)
  unfold RHashes at CH
  rw [ox.header] at CH
  have EX1 : blake (2 :: encHeader a.header) = hdrHash a.header := rfl
  rw [EX1] at CH
  have hs := @shared_small a.next a.header.chain b.commit nb
  have hsk := @shared_ok a.next a.header.chain b.commit
  have ht := total_small a.next
  have hst := @sum_total a.next
  have hlv := fun (h : rightO o = true) => ((rightO_iff ho).1 h).1
  -- letters
  have EV : vstepL a b now o = if rightO o = false then 151 else if finB now = false then 154 else if expF a.header.time now o = true then 155 else
    if b.header.height ≤ a.header.height ∨ b.header.time ≤ a.header.time then 153 else
    if gtF (subF (i2f b.header.time) now) o.drift = true then 156 else
    if soundL a.header.chain b ≠ 0 then soundL a.header.chain b else
    if b.header.height - 1 = a.header.height then (if b.header.set ≠ a.header.next then 157 else if okHeader a.header = false ∨ b.header.last ≠ hdrHash a.header then 153 else 0) else
    (if (sharedL a.next a.header.chain b.commit).2 ≠ 0 then 159 else if excL (sharedL a.next a.header.chain b.commit).1 (totalL a.next) o.level = false then 159 else 0) := rfl
  rw [EV]
  obtain ⟨r, hr⟩ : ∃ z, rightO o = z := ⟨_, rfl⟩
  obtain ⟨fi, hfi⟩ : ∃ z, finB now = z := ⟨_, rfl⟩
  obtain ⟨ex, hex⟩ : ∃ z, expF a.header.time now o = z := ⟨_, rfl⟩
  obtain ⟨s, hs0⟩ : ∃ z, soundL a.header.chain b = z := ⟨_, rfl⟩
  obtain ⟨gt, hgt⟩ : ∃ z, gtF (subF (i2f b.header.time) now) o.drift = z := ⟨_, rfl⟩
  obtain ⟨k, hk⟩ : ∃ z, okHeader a.header = z := ⟨_, rfl⟩
  obtain ⟨X1, hX1⟩ : ∃ z, hdrHash a.header = z := ⟨_, rfl⟩
  obtain ⟨Y1, hY1⟩ : ∃ z, b.header.set = z := ⟨_, rfl⟩
  obtain ⟨Y2, hY2⟩ : ∃ z, a.header.next = z := ⟨_, rfl⟩
  obtain ⟨Y3, hY3⟩ : ∃ z, b.header.last = z := ⟨_, rfl⟩
  obtain ⟨h1, eh1⟩ : ∃ z, a.header.height = z := ⟨_, rfl⟩
  obtain ⟨t1, et1⟩ : ∃ z, a.header.time = z := ⟨_, rfl⟩
  obtain ⟨h2, eh2⟩ : ∃ z, b.header.height = z := ⟨_, rfl⟩
  obtain ⟨t2, et2⟩ : ∃ z, b.header.time = z := ⟨_, rfl⟩
  obtain ⟨n, hn⟩ : ∃ z, (sharedL a.next a.header.chain b.commit).1 = z := ⟨_, rfl⟩
  obtain ⟨e1, he1⟩ : ∃ z, (sharedL a.next a.header.chain b.commit).2 = z := ⟨_, rfl⟩
  obtain ⟨t, ht1⟩ : ∃ z, totalL a.next = z := ⟨_, rfl⟩
  rw [hr] at CR hlv ⊢; rw [hfi] at CF hsubE ⊢; rw [hex] at CE ⊢; rw [hs0] at CS ⊢; rw [hgt]; rw [hk] at CH ⊢; rw [hX1] at CH L1 ⊢
  rw [hY1] at K1 R1 ⊢; rw [hY2] at K2 R2 ⊢; rw [hY3] at K3 R3 ⊢
  rw [hn, he1] at CV hs ⊢; rw [ht1] at ht hst ⊢
  rw [he1] at hsk
  unfold subF i2f at hgt
  unfold i2f at hsubE
  unfold gtF ordF at hgt
  rw [eh1] at P1 hha ⊢; rw [et1] at P2 CE ⊢; rw [eh2] at Q1 hhb ⊢; rw [et2] at Q2 hsubE hgt ⊢
  obtain ⟨n1, hn1⟩ : ∃ n, (!VEq (Lib.byteCells Y1) (Lib.byteCells Y2)) = n := ⟨_, rfl⟩
  obtain ⟨n2, hn2⟩ : ∃ n, (!VEq (Lib.byteCells Y3) (Lib.byteCells X1)) = n := ⟨_, rfl⟩
  have I1 := Lib.hid (hne hn1); have I2 := Lib.hid (hne hn2); have N1 := Lib.hid hn1; have N2 := Lib.hid hn2
  obtain ⟨V, hV⟩ : ∃ V, (if r = false then (151 : Int) else if fi = false then 154 else if ex = true then 155 else if h2 ≤ h1 ∨ t2 ≤ t1 then 153 else if gt = true then 156 else if s ≠ 0 then s else if h2 - 1 = h1 then (if Y1 ≠ Y2 then 157 else if k = false ∨ Y3 ≠ X1 then 153 else 0) else
    (if e1 ≠ 0 then 159 else if excL n t o.level = false then 159 else 0)) = V := ⟨_, rfl⟩
  rw [hV]
  have HV := Lib.hid hV
  replace CR := Lib.hid CR; replace CF := Lib.hid CF; replace CE := Lib.hid CE; replace CS := Lib.hid CS; replace CH := Lib.hid CH; replace CV := Lib.hid CV; replace CU := Lib.hid CU
  have HS := Lib.hid hsubE; have HG := Lib.hid hgt; have HHa := Lib.hid hha; have HHb := Lib.hid hhb
  replace R1 := Lib.hid R1; replace R2 := Lib.hid R2; replace R3 := Lib.hid R3; replace K1 := Lib.hid K1; replace K2 := Lib.hid K2; replace K3 := Lib.hid K3
  have HSS := Lib.hid hs; have HSK := Lib.hid hsk; have HT := Lib.hid ht; have HST := Lib.hid hst; have HLV := Lib.hid hlv
  clear hV hr hfi hex hs0 hgt hsubE eh1 et1 eh2 et2 ha hb ox oy ho nb hca hcb hnow hha hhb hn1 hn2 hk hX1 hY1 hY2 hY3 hn he1 ht1 hs hsk ht hst hlv EX1 EV hx hy
  go_enter Tryz.func22, Tryz.ntmps22
  go_wp2_with (first | ((with_reducible refine @wpList_at _ _ _ _ _ _ _ (.box 31 (.tmp 0)) rfl ?_); refine @wpList_own_box _ _ _ _ _ _ _ _ _ 31 (.tmp 0) rfl x.cells rfl O rfl ?_; clear O; intro bx w O) | ((with_reducible refine @wpList_at _ _ _ _ _ _ _ (.box 31 (.tmp 1)) rfl ?_); refine @wpList_own_box _ _ _ _ _ _ _ _ _ 31 (.tmp 1) rfl y.cells rfl O rfl ?_; clear O; intro bY w O) | ((with_reducible refine @wpList_at _ _ _ _ _ _ _ (.box 43 (.tmp 3)) rfl ?_); refine @wpList_own_box _ _ _ _ _ _ _ _ _ 43 (.tmp 3) rfl o.cells rfl O rfl ?_; clear O; intro bo w O) | ((with_reducible refine @wpList_at _ _ _ _ _ _ _ (.load 43 (.tmp 7)) rfl ?_); refine @wpList_own_whole _ _ _ _ _ _ _ _ _ 43 (.tmp 7) rfl O 0 bo rfl o.cells _ rfl _ Tryz.underlying43 rfl sizeOpt rfl ?_))
  refine (CR.out _).mono ?_
  rintro e w ⟨rfl, g⟩
  replace O := O.call g
  clear g
  go_wp2_with (fail)
  refine (CF.out _).mono ?_
  rintro e w ⟨rfl, g⟩
  replace O := O.call g
  clear g
  cases r with
  | false =>
    have hv := HV.out; rw [if_pos rfl] at hv; replace HV := Lib.hid hv; clear hv
    go_wp2_with (fail)
    go_ret
    rw [← HV.out]
    exact ⟨rfl, O.grown⟩
  | true =>
  have hv := HV.out; rw [if_neg (by decide)] at hv; replace HV := Lib.hid hv; clear hv
  cases fi with
  | false =>
    have hv := HV.out; rw [if_pos rfl] at hv; replace HV := Lib.hid hv; clear hv
    go_wp2_with (fail)
    go_ret
    rw [← HV.out]
    exact ⟨rfl, O.grown⟩
  | true =>
  have hv := HV.out; rw [if_neg (by decide)] at hv; replace HV := Lib.hid hv; clear hv
  go_wp2_with (first | ((with_reducible refine @wpList_at _ _ _ _ _ _ _ (.load 43 (.tmp 7)) rfl ?_); refine @wpList_own_whole _ _ _ _ _ _ _ _ _ 43 (.tmp 7) rfl O 0 bo rfl o.cells _ rfl _ Tryz.underlying43 rfl sizeOpt rfl ?_) | ((with_reducible refine @wpList_at _ _ _ _ _ _ _ (.load 3 (.tmp 29)) rfl ?_); refine @wpList_own_cell _ _ _ _ _ _ _ _ _ 3 (.tmp 29) rfl O 2 bx 2 rfl _ _ rfl _ P2.out _ Tryz.underlying3 rfl rfl ?_))
  refine (CE.out _).mono ?_
  rintro e w ⟨rfl, g⟩
  replace O := O.call g
  clear g
  cases ex with
  | true =>
    have hv := HV.out; rw [if_pos rfl] at hv; replace HV := Lib.hid hv; clear hv
    go_wp2_with (fail)
    go_ret
    rw [← HV.out]
    exact ⟨rfl, O.grown⟩
  | false =>
  have hv := HV.out; rw [if_neg (by decide)] at hv; replace HV := Lib.hid hv; clear hv
  by_cases c1 : h2 ≤ h1
  · have hv := HV.out; rw [if_pos (.inl c1)] at hv; replace HV := Lib.hid hv; clear hv
    go_wp2_with (first | ((with_reducible refine @wpList_at _ _ _ _ _ _ _ (.load 3 (.tmp 38)) rfl ?_); refine @wpList_own_cell _ _ _ _ _ _ _ _ _ 3 (.tmp 38) rfl O 1 bY 1 rfl _ _ rfl _ Q1.out _ Tryz.underlying3 rfl rfl ?_) | ((with_reducible refine @wpList_at _ _ _ _ _ _ _ (.load 3 (.tmp 41)) rfl ?_); refine @wpList_own_cell _ _ _ _ _ _ _ _ _ 3 (.tmp 41) rfl O 2 bx 1 rfl _ _ rfl _ P1.out _ Tryz.underlying3 rfl rfl ?_))
    go_ret
    rw [← HV.out]
    exact ⟨rfl, O.grown⟩
  by_cases c2 : t2 ≤ t1
  · have hv := HV.out; rw [if_pos (.inr c2)] at hv; replace HV := Lib.hid hv; clear hv
    have d1 : decide (h2 ≤ h1) = false := decide_eq_false c1
    have d2 : decide (t2 ≤ t1) = true := decide_eq_true c2
    clear c1 c2
    go_wp2_with (first | ((with_reducible refine @wpList_at _ _ _ _ _ _ _ (.load 3 (.tmp 38)) rfl ?_); refine @wpList_own_cell _ _ _ _ _ _ _ _ _ 3 (.tmp 38) rfl O 1 bY 1 rfl _ _ rfl _ Q1.out _ Tryz.underlying3 rfl rfl ?_) | ((with_reducible refine @wpList_at _ _ _ _ _ _ _ (.load 3 (.tmp 41)) rfl ?_); refine @wpList_own_cell _ _ _ _ _ _ _ _ _ 3 (.tmp 41) rfl O 2 bx 1 rfl _ _ rfl _ P1.out _ Tryz.underlying3 rfl rfl ?_) | ((with_reducible refine @wpList_at _ _ _ _ _ _ _ (.load 3 (.tmp 46)) rfl ?_); refine @wpList_own_cell _ _ _ _ _ _ _ _ _ 3 (.tmp 46) rfl O 1 bY 2 rfl _ _ rfl _ Q2.out _ Tryz.underlying3 rfl rfl ?_) | ((with_reducible refine @wpList_at _ _ _ _ _ _ _ (.load 3 (.tmp 49)) rfl ?_); refine @wpList_own_cell _ _ _ _ _ _ _ _ _ 3 (.tmp 49) rfl O 2 bx 2 rfl _ _ rfl _ P2.out _ Tryz.underlying3 rfl rfl ?_))
    go_ret
    rw [← HV.out]
    exact ⟨rfl, O.grown⟩
  have hv := HV.out; rw [if_neg (fun h => h.elim c1 c2)] at hv; replace HV := Lib.hid hv; clear hv
  have d1 : decide (h2 ≤ h1) = false := decide_eq_false c1
  have d2 : decide (t2 ≤ t1) = false := decide_eq_false c2
  have C1 := Lib.hid c1
  clear c1 c2
  obtain ⟨z, hz⟩ := HS.out (by trivial)
  have hgt := HG.out
  rw [hz] at hgt
  have hgt : (FloatKind.f64.format.order z o.drift == some Ordering.gt) = gt := hgt
  have hsub := fun w => run_float_arith (P := Tryz.prog) w .sub 41 .f64 (floatOfInt .f64 t2) now z hz
  clear hz
  cases gt with
  | true =>
    have hv := HV.out; rw [if_pos rfl] at hv; replace HV := Lib.hid hv; clear hv
    go_wp2_with (first | ((with_reducible refine @wpList_at _ _ _ _ _ _ _ (.load 3 (.tmp 38)) rfl ?_); refine @wpList_own_cell _ _ _ _ _ _ _ _ _ 3 (.tmp 38) rfl O 1 bY 1 rfl _ _ rfl _ Q1.out _ Tryz.underlying3 rfl rfl ?_) | ((with_reducible refine @wpList_at _ _ _ _ _ _ _ (.load 3 (.tmp 41)) rfl ?_); refine @wpList_own_cell _ _ _ _ _ _ _ _ _ 3 (.tmp 41) rfl O 2 bx 1 rfl _ _ rfl _ P1.out _ Tryz.underlying3 rfl rfl ?_) | ((with_reducible refine @wpList_at _ _ _ _ _ _ _ (.load 3 (.tmp 46)) rfl ?_); refine @wpList_own_cell _ _ _ _ _ _ _ _ _ 3 (.tmp 46) rfl O 1 bY 2 rfl _ _ rfl _ Q2.out _ Tryz.underlying3 rfl rfl ?_) | ((with_reducible refine @wpList_at _ _ _ _ _ _ _ (.load 3 (.tmp 49)) rfl ?_); refine @wpList_own_cell _ _ _ _ _ _ _ _ _ 3 (.tmp 49) rfl O 2 bx 2 rfl _ _ rfl _ P2.out _ Tryz.underlying3 rfl rfl ?_) | ((with_reducible refine @wpList_at _ _ _ _ _ _ _ (.load 3 (.tmp 55)) rfl ?_); refine @wpList_own_cell _ _ _ _ _ _ _ _ _ 3 (.tmp 55) rfl O 1 bY 2 rfl _ _ rfl _ Q2.out _ Tryz.underlying3 rfl rfl ?_) | ((with_reducible refine @wpList_at _ _ _ _ _ _ _ (.load 41 (.tmp 60)) rfl ?_); refine @wpList_own_cell _ _ _ _ _ _ _ _ _ 41 (.tmp 60) rfl O 0 bo 2 rfl _ _ rfl _ rfl _ Tryz.underlying41 rfl rfl ?_))
    go_ret
    rw [← HV.out]
    exact ⟨rfl, O.grown⟩
  | false =>
  have hv := HV.out; rw [if_neg (by decide)] at hv; replace HV := Lib.hid hv; clear hv
  go_wp2_with (first | ((with_reducible refine @wpList_at _ _ _ _ _ _ _ (.load 31 (.tmp 5)) rfl ?_); refine @wpList_own_whole _ _ _ _ _ _ _ _ _ 31 (.tmp 5) rfl O 1 bY rfl y.cells _ rfl _ Tryz.underlying31 rfl (sizeLt y HY.out) rfl ?_) | ((with_reducible refine @wpList_at _ _ _ _ _ _ _ (.load 3 (.tmp 38)) rfl ?_); refine @wpList_own_cell _ _ _ _ _ _ _ _ _ 3 (.tmp 38) rfl O 1 bY 1 rfl _ _ rfl _ Q1.out _ Tryz.underlying3 rfl rfl ?_) | ((with_reducible refine @wpList_at _ _ _ _ _ _ _ (.load 3 (.tmp 41)) rfl ?_); refine @wpList_own_cell _ _ _ _ _ _ _ _ _ 3 (.tmp 41) rfl O 2 bx 1 rfl _ _ rfl _ P1.out _ Tryz.underlying3 rfl rfl ?_) | ((with_reducible refine @wpList_at _ _ _ _ _ _ _ (.load 3 (.tmp 46)) rfl ?_); refine @wpList_own_cell _ _ _ _ _ _ _ _ _ 3 (.tmp 46) rfl O 1 bY 2 rfl _ _ rfl _ Q2.out _ Tryz.underlying3 rfl rfl ?_) | ((with_reducible refine @wpList_at _ _ _ _ _ _ _ (.load 3 (.tmp 49)) rfl ?_); refine @wpList_own_cell _ _ _ _ _ _ _ _ _ 3 (.tmp 49) rfl O 2 bx 2 rfl _ _ rfl _ P2.out _ Tryz.underlying3 rfl rfl ?_) | ((with_reducible refine @wpList_at _ _ _ _ _ _ _ (.load 3 (.tmp 55)) rfl ?_); refine @wpList_own_cell _ _ _ _ _ _ _ _ _ 3 (.tmp 55) rfl O 1 bY 2 rfl _ _ rfl _ Q2.out _ Tryz.underlying3 rfl rfl ?_) | ((with_reducible refine @wpList_at _ _ _ _ _ _ _ (.load 41 (.tmp 60)) rfl ?_); refine @wpList_own_cell _ _ _ _ _ _ _ _ _ 41 (.tmp 60) rfl O 0 bo 2 rfl _ _ rfl _ rfl _ Tryz.underlying41 rfl rfl ?_) | ((with_reducible refine @wpList_at _ _ _ _ _ _ _ (.load 9 (.tmp 64)) rfl ?_); refine @wpList_own_cell _ _ _ _ _ _ _ _ _ 9 (.tmp 64) rfl O 2 bx 0 rfl _ _ rfl _ P0.out _ Tryz.underlying9 rfl rfl ?_))
  refine (CS.out _ O.grown).mono ?_
  rintro e w ⟨rfl, g⟩
  replace O := O.call g
  clear g hsub hgt
  by_cases c3 : s = 0
  case neg =>
    have hv := HV.out; rw [if_pos c3] at hv; replace HV := Lib.hid hv; clear hv
    have d3 : (s != 0) = true := by simpa using c3
    clear c3
    go_wp2_with (fail)
    go_ret
    rw [← HV.out]
    exact ⟨rfl, O.grown⟩
  subst c3
  have hv := HV.out; rw [if_neg (fun h => h rfl)] at hv; replace HV := Lib.hid hv; clear hv
  have hw := IntWalk.i64_in (h2 - 1) (by have := HHa.out.1; have := HHb.out.2; have := C1.out; omega)
  by_cases c4 : h2 - 1 = h1
  · have hv := HV.out; rw [if_pos c4] at hv; replace HV := Lib.hid hv; clear hv
    have d4 : (h2 - 1 == h1) = true := by simpa using c4
    clear c4
    go_wp2_with (first | ((with_reducible refine @wpList_at _ _ _ _ _ _ _ (.load 3 (.tmp 72)) rfl ?_); refine @wpList_own_cell _ _ _ _ _ _ _ _ _ 3 (.tmp 72) rfl O 1 bY 1 rfl _ _ rfl _ Q1.out _ Tryz.underlying3 rfl rfl ?_) | ((with_reducible refine @wpList_at _ _ _ _ _ _ _ (.load 3 (.tmp 76)) rfl ?_); refine @wpList_own_cell _ _ _ _ _ _ _ _ _ 3 (.tmp 76) rfl O 2 bx 1 rfl _ _ rfl _ P1.out _ Tryz.underlying3 rfl rfl ?_) | ((with_reducible refine @wpList_at _ _ _ _ _ _ _ (.load 25 (.tmp 80)) rfl ?_); refine @wpList_own_part _ _ _ _ _ _ _ _ _ 25 (.tmp 80) rfl O 2 bx 0 rfl _ _ rfl a.header.cells _ (fun h => HD.out _ _ h) Tryz.underlying25 rfl (sizeHeader _ (a.header.cells_length HW.out)) rfl ?_))
    refine (CH.out _).mono ?_
    rintro e w ⟨rfl, g⟩
    replace O := O.call g
    clear g
    cases n1 with
    | true =>
      have hv := HV.out; rw [if_pos (I1.out.1 (by trivial))] at hv; replace HV := Lib.hid hv; clear hv
      go_wp2_with (first | ((with_reducible refine @wpList_at _ _ _ _ _ _ _ (.alloc 23) rfl ?_); refine @wpList_own_alloc _ _ _ _ _ _ _ _ _ 23 rfl ZH ZH_info O rfl ?_; clear O; intro p w O) | ((with_reducible refine @wpList_at _ _ _ _ _ _ _ (.store 23 (.tmp 13) (.tmp 83)) rfl ?_); refine @wpList_own_store _ _ _ _ _ _ _ _ _ 23 (.tmp 13) (.tmp 83) rfl O 0 p rfl (Lib.byteCells X1) ZH _ rfl rfl (by rw [Lib.byteCells_length, L1.out]; rfl) (oneCell_bytes _) (sizeH _ (by rw [Lib.byteCells_length, L1.out])) rfl ?_; clear O; intro w O; simp only [List.set_cons_zero] at O) | ((with_reducible refine @wpList_at _ _ _ _ _ _ _ (.load 23 (.tmp 87)) rfl ?_); refine @wpList_own_part _ _ _ _ _ _ _ _ _ 23 (.tmp 87) rfl O 2 bY 35 rfl _ _ rfl (Lib.byteCells Y1) _ (fun h => R1.out _ _ h) Tryz.underlying23 rfl (sizeH _ (by rw [Lib.byteCells_length, K1.out])) rfl ?_) | ((with_reducible refine @wpList_at _ _ _ _ _ _ _ (.load 23 (.tmp 90)) rfl ?_); refine @wpList_own_part _ _ _ _ _ _ _ _ _ 23 (.tmp 90) rfl O 3 bx 67 rfl _ _ rfl (Lib.byteCells Y2) _ (fun h => R2.out _ _ h) Tryz.underlying23 rfl (sizeH _ (by rw [Lib.byteCells_length, K2.out])) rfl ?_) | ((with_reducible refine @wpList_at _ _ _ _ _ _ _ (.binOp .neq 23 (.tmp 88) (.tmp 91) 23) rfl ?_); refine @wpList_neq_own _ _ _ _ _ _ _ 23 _ (.tmp 88) (.tmp 91) rfl (Lib.byteCells Y1) (Lib.byteCells Y2) kHash rfl rfl hash_flat (hash_fits _ K1.out) (hash_fits _ K2.out) rfl (by kernel_rfl) rfl ?_; rw [N1.out]))
      go_ret
      rw [← HV.out]
      exact ⟨rfl, O.grown⟩
    | false =>
    have hv := HV.out; rw [if_neg (fun h => by have := I1.out.2 h; cases this)] at hv; replace HV := Lib.hid hv; clear hv
    cases k with
    | false =>
      have hv := HV.out; rw [if_pos (.inl rfl)] at hv; replace HV := Lib.hid hv; clear hv
      go_wp2_with (first | ((with_reducible refine @wpList_at _ _ _ _ _ _ _ (.alloc 23) rfl ?_); refine @wpList_own_alloc _ _ _ _ _ _ _ _ _ 23 rfl ZH ZH_info O rfl ?_; clear O; intro p w O) | ((with_reducible refine @wpList_at _ _ _ _ _ _ _ (.store 23 (.tmp 13) (.tmp 83)) rfl ?_); refine @wpList_own_store _ _ _ _ _ _ _ _ _ 23 (.tmp 13) (.tmp 83) rfl O 0 p rfl (Lib.byteCells X1) ZH _ rfl rfl (by rw [Lib.byteCells_length, L1.out]; rfl) (oneCell_bytes _) (sizeH _ (by rw [Lib.byteCells_length, L1.out])) rfl ?_; clear O; intro w O; simp only [List.set_cons_zero] at O) | ((with_reducible refine @wpList_at _ _ _ _ _ _ _ (.load 23 (.tmp 87)) rfl ?_); refine @wpList_own_part _ _ _ _ _ _ _ _ _ 23 (.tmp 87) rfl O 2 bY 35 rfl _ _ rfl (Lib.byteCells Y1) _ (fun h => R1.out _ _ h) Tryz.underlying23 rfl (sizeH _ (by rw [Lib.byteCells_length, K1.out])) rfl ?_) | ((with_reducible refine @wpList_at _ _ _ _ _ _ _ (.load 23 (.tmp 90)) rfl ?_); refine @wpList_own_part _ _ _ _ _ _ _ _ _ 23 (.tmp 90) rfl O 3 bx 67 rfl _ _ rfl (Lib.byteCells Y2) _ (fun h => R2.out _ _ h) Tryz.underlying23 rfl (sizeH _ (by rw [Lib.byteCells_length, K2.out])) rfl ?_) | ((with_reducible refine @wpList_at _ _ _ _ _ _ _ (.binOp .neq 23 (.tmp 88) (.tmp 91) 23) rfl ?_); refine @wpList_neq_own _ _ _ _ _ _ _ 23 _ (.tmp 88) (.tmp 91) rfl (Lib.byteCells Y1) (Lib.byteCells Y2) kHash rfl rfl hash_flat (hash_fits _ K1.out) (hash_fits _ K2.out) rfl (by kernel_rfl) rfl ?_; rw [N1.out]))
      go_ret
      rw [← HV.out]
      exact ⟨rfl, O.grown⟩
    | true =>
    cases n2 with
    | true =>
      have hv := HV.out; rw [if_pos (.inr (I2.out.1 (by trivial)))] at hv; replace HV := Lib.hid hv; clear hv
      go_wp2_with (first | ((with_reducible refine @wpList_at _ _ _ _ _ _ _ (.alloc 23) rfl ?_); refine @wpList_own_alloc _ _ _ _ _ _ _ _ _ 23 rfl ZH ZH_info O rfl ?_; clear O; intro p w O) | ((with_reducible refine @wpList_at _ _ _ _ _ _ _ (.store 23 (.tmp 13) (.tmp 83)) rfl ?_); refine @wpList_own_store _ _ _ _ _ _ _ _ _ 23 (.tmp 13) (.tmp 83) rfl O 0 p rfl (Lib.byteCells X1) ZH _ rfl rfl (by rw [Lib.byteCells_length, L1.out]; rfl) (oneCell_bytes _) (sizeH _ (by rw [Lib.byteCells_length, L1.out])) rfl ?_; clear O; intro w O; simp only [List.set_cons_zero] at O) | ((with_reducible refine @wpList_at _ _ _ _ _ _ _ (.load 23 (.tmp 87)) rfl ?_); refine @wpList_own_part _ _ _ _ _ _ _ _ _ 23 (.tmp 87) rfl O 2 bY 35 rfl _ _ rfl (Lib.byteCells Y1) _ (fun h => R1.out _ _ h) Tryz.underlying23 rfl (sizeH _ (by rw [Lib.byteCells_length, K1.out])) rfl ?_) | ((with_reducible refine @wpList_at _ _ _ _ _ _ _ (.load 23 (.tmp 90)) rfl ?_); refine @wpList_own_part _ _ _ _ _ _ _ _ _ 23 (.tmp 90) rfl O 3 bx 67 rfl _ _ rfl (Lib.byteCells Y2) _ (fun h => R2.out _ _ h) Tryz.underlying23 rfl (sizeH _ (by rw [Lib.byteCells_length, K2.out])) rfl ?_) | ((with_reducible refine @wpList_at _ _ _ _ _ _ _ (.binOp .neq 23 (.tmp 88) (.tmp 91) 23) rfl ?_); refine @wpList_neq_own _ _ _ _ _ _ _ 23 _ (.tmp 88) (.tmp 91) rfl (Lib.byteCells Y1) (Lib.byteCells Y2) kHash rfl rfl hash_flat (hash_fits _ K1.out) (hash_fits _ K2.out) rfl (by kernel_rfl) rfl ?_; rw [N1.out]) | ((with_reducible refine @wpList_at _ _ _ _ _ _ _ (.load 23 (.tmp 98)) rfl ?_); refine @wpList_own_part _ _ _ _ _ _ _ _ _ 23 (.tmp 98) rfl O 2 bY 3 rfl _ _ rfl (Lib.byteCells Y3) _ (fun h => R3.out _ _ h) Tryz.underlying23 rfl (sizeH _ (by rw [Lib.byteCells_length, K3.out])) rfl ?_) | ((with_reducible refine @wpList_at _ _ _ _ _ _ _ (.load 23 (.tmp 13)) rfl ?_); refine @wpList_own_whole _ _ _ _ _ _ _ _ _ 23 (.tmp 13) rfl O 0 p rfl (Lib.byteCells X1) _ rfl _ Tryz.underlying23 rfl (sizeH _ (by rw [Lib.byteCells_length, L1.out])) rfl ?_) | ((with_reducible refine @wpList_at _ _ _ _ _ _ _ (.binOp .neq 23 (.tmp 99) (.tmp 100) 23) rfl ?_); refine @wpList_neq_own _ _ _ _ _ _ _ 23 _ (.tmp 99) (.tmp 100) rfl (Lib.byteCells Y3) (Lib.byteCells X1) kHash rfl rfl hash_flat (hash_fits _ K3.out) (hash_fits _ L1.out) rfl (by kernel_rfl) rfl ?_; rw [N2.out]))
      go_ret
      rw [← HV.out]
      exact ⟨rfl, O.grown⟩
    | false =>
      have hv := HV.out; rw [if_neg (fun h => by rcases h with h | h; cases h; have := I2.out.2 h; cases this)] at hv; replace HV := Lib.hid hv; clear hv
      go_wp2_with (first | ((with_reducible refine @wpList_at _ _ _ _ _ _ _ (.alloc 23) rfl ?_); refine @wpList_own_alloc _ _ _ _ _ _ _ _ _ 23 rfl ZH ZH_info O rfl ?_; clear O; intro p w O) | ((with_reducible refine @wpList_at _ _ _ _ _ _ _ (.store 23 (.tmp 13) (.tmp 83)) rfl ?_); refine @wpList_own_store _ _ _ _ _ _ _ _ _ 23 (.tmp 13) (.tmp 83) rfl O 0 p rfl (Lib.byteCells X1) ZH _ rfl rfl (by rw [Lib.byteCells_length, L1.out]; rfl) (oneCell_bytes _) (sizeH _ (by rw [Lib.byteCells_length, L1.out])) rfl ?_; clear O; intro w O; simp only [List.set_cons_zero] at O) | ((with_reducible refine @wpList_at _ _ _ _ _ _ _ (.load 23 (.tmp 87)) rfl ?_); refine @wpList_own_part _ _ _ _ _ _ _ _ _ 23 (.tmp 87) rfl O 2 bY 35 rfl _ _ rfl (Lib.byteCells Y1) _ (fun h => R1.out _ _ h) Tryz.underlying23 rfl (sizeH _ (by rw [Lib.byteCells_length, K1.out])) rfl ?_) | ((with_reducible refine @wpList_at _ _ _ _ _ _ _ (.load 23 (.tmp 90)) rfl ?_); refine @wpList_own_part _ _ _ _ _ _ _ _ _ 23 (.tmp 90) rfl O 3 bx 67 rfl _ _ rfl (Lib.byteCells Y2) _ (fun h => R2.out _ _ h) Tryz.underlying23 rfl (sizeH _ (by rw [Lib.byteCells_length, K2.out])) rfl ?_) | ((with_reducible refine @wpList_at _ _ _ _ _ _ _ (.binOp .neq 23 (.tmp 88) (.tmp 91) 23) rfl ?_); refine @wpList_neq_own _ _ _ _ _ _ _ 23 _ (.tmp 88) (.tmp 91) rfl (Lib.byteCells Y1) (Lib.byteCells Y2) kHash rfl rfl hash_flat (hash_fits _ K1.out) (hash_fits _ K2.out) rfl (by kernel_rfl) rfl ?_; rw [N1.out]) | ((with_reducible refine @wpList_at _ _ _ _ _ _ _ (.load 23 (.tmp 98)) rfl ?_); refine @wpList_own_part _ _ _ _ _ _ _ _ _ 23 (.tmp 98) rfl O 2 bY 3 rfl _ _ rfl (Lib.byteCells Y3) _ (fun h => R3.out _ _ h) Tryz.underlying23 rfl (sizeH _ (by rw [Lib.byteCells_length, K3.out])) rfl ?_) | ((with_reducible refine @wpList_at _ _ _ _ _ _ _ (.load 23 (.tmp 13)) rfl ?_); refine @wpList_own_whole _ _ _ _ _ _ _ _ _ 23 (.tmp 13) rfl O 0 p rfl (Lib.byteCells X1) _ rfl _ Tryz.underlying23 rfl (sizeH _ (by rw [Lib.byteCells_length, L1.out])) rfl ?_) | ((with_reducible refine @wpList_at _ _ _ _ _ _ _ (.binOp .neq 23 (.tmp 99) (.tmp 100) 23) rfl ?_); refine @wpList_neq_own _ _ _ _ _ _ _ 23 _ (.tmp 99) (.tmp 100) rfl (Lib.byteCells Y3) (Lib.byteCells X1) kHash rfl rfl hash_flat (hash_fits _ K3.out) (hash_fits _ L1.out) rfl (by kernel_rfl) rfl ?_; rw [N2.out]))
      go_ret
      rw [← HV.out]
      exact ⟨rfl, O.grown⟩
  · have hv := HV.out; rw [if_neg c4] at hv; replace HV := Lib.hid hv; clear hv
    have d4 : (h2 - 1 == h1) = false := by simpa using c4
    clear c4
    go_wp2_with (first | ((with_reducible refine @wpList_at _ _ _ _ _ _ _ (.load 3 (.tmp 72)) rfl ?_); refine @wpList_own_cell _ _ _ _ _ _ _ _ _ 3 (.tmp 72) rfl O 1 bY 1 rfl _ _ rfl _ Q1.out _ Tryz.underlying3 rfl rfl ?_) | ((with_reducible refine @wpList_at _ _ _ _ _ _ _ (.load 3 (.tmp 76)) rfl ?_); refine @wpList_own_cell _ _ _ _ _ _ _ _ _ 3 (.tmp 76) rfl O 2 bx 1 rfl _ _ rfl _ P1.out _ Tryz.underlying3 rfl rfl ?_) | ((with_reducible refine @wpList_at _ _ _ _ _ _ _ (.load 29 (.tmp 104)) rfl ?_); refine @wpList_own_cell _ _ _ _ _ _ _ _ _ 29 (.tmp 104) rfl O 2 bx 199 rfl _ _ rfl _ P199.out _ Tryz.underlying29 rfl rfl ?_) | ((with_reducible refine @wpList_at _ _ _ _ _ _ _ (.load 9 (.tmp 107)) rfl ?_); refine @wpList_own_cell _ _ _ _ _ _ _ _ _ 9 (.tmp 107) rfl O 2 bx 0 rfl _ _ rfl _ P0.out _ Tryz.underlying9 rfl rfl ?_) | ((with_reducible refine @wpList_at _ _ _ _ _ _ _ (.load 28 (.tmp 109)) rfl ?_); refine @wpList_own_part _ _ _ _ _ _ _ _ _ 28 (.tmp 109) rfl O 1 bY 163 rfl _ _ rfl y.comCells _ (fun h => LtR.com_at h HY.out) Tryz.underlying28 rfl (by rw [LtR.com_length HY.out]; exact sizeCommit) rfl ?_))
    refine (CV.out _ O.grown).mono ?_
    rintro e w ⟨rfl, g⟩
    replace O := O.call g
    clear g
    by_cases c5 : e1 = 0
    case neg =>
      have hv := HV.out; rw [if_pos c5] at hv; replace HV := Lib.hid hv; clear hv
      have d5 : (e1 != 0) = true := by simpa using c5
      clear c5
      go_wp2_with (fail)
      go_ret
      rw [← HV.out]
      exact ⟨rfl, O.grown⟩
    subst c5
    have hv := HV.out; rw [if_neg (fun h => h rfl)] at hv; replace HV := Lib.hid hv; clear hv
    obtain ⟨P, hP⟩ : ∃ P : Nat, n = P := ⟨n.toNat, by have := (HSS.out (by trivial)).1; omega⟩
    obtain ⟨T, hT⟩ : ∃ P : Nat, t = P := ⟨t.toNat, by have := HT.out.1; omega⟩
    have hP2 : P < 9223372036854775808 := by have := (HSS.out (by trivial)).2; omega
    have hT2 : T ≤ 1125899906842624 := by have := HT.out.2; omega
    subst hP hT
    have hl := HLV.out (by trivial)
    have CX : ∀ w, Calls Tryz.prog 54 #[.int .i64 P, .int .i64 T, .float .f64 o.level] w fun e w' => e = .returned (.tuple #[.bool (excL P T o.level), .int .i64 0]) ∧ w' = w := fun w => (RExc_yes P T o.level w hP2 hT2 hl.1 hl.2).mono (fun e w' h => ⟨h.1, h.2.symm⟩)
    obtain ⟨q, hq⟩ : ∃ q, excL P T o.level = q := ⟨_, rfl⟩
    rw [hq] at CX
    have hv := HV.out; rw [hq] at hv; replace HV := Lib.hid hv; clear hv
    have CU := CU.out
    rw [HST.out (HSK.out (by trivial)).1] at CU
    have CU := Lib.hid CU; replace CX := Lib.hid CX
    clear hq hl hP2 hT2
    have c199 := (O.at_ 2 rfl).row 199 _ P199.out
    have c0 := (O.at_ 0 rfl).row 0 _ rfl
    rw [Nat.zero_add] at c199 c0
    have HO := Lib.hid O
    clear O
    go_wp2_with fail
    go_quiet ((first | (go_at_call 55; with_reducible exact Calls.quiet_of_same (CU.out _ ((HO.out.drewN _).grown))) | (go_at_call 54; with_reducible exact Calls.quiet_of_same (CX.out _))))
    cases q with
    | false =>
      have hv := HV.out; rw [if_pos rfl] at hv; replace HV := Lib.hid hv; clear hv
      go_wp2_with fail
      go_ret
      rw [← HV.out]
      exact ⟨rfl, (HO.out.drewN _).grown⟩
    | true =>
      have hv := HV.out; rw [if_neg (by decide)] at hv; replace HV := Lib.hid hv; clear hv
      go_wp2_with fail
      go_ret
      rw [← HV.out]
      exact ⟨rfl, (HO.out.drewN _).grown⟩

end Go.Proofs.YtbhghlendbcejaaGreatDoor
