/- Walk: nunciolaw20.ChannelNames. -/
import Derived.Test.YtlahdaanfhedoaaDoorCh6
namespace Go.Proofs.YtlahdaanfhedoaaDoor
open Go.RowKit Go.Maps
set_option maxRecDepth 100000

theorem ZH_fits : Fits kHash ZH = true := by rw [← ZH_bytesC]; exact hash_fits _ rfl
set_option maxHeartbeats 8000000 in
theorem ChannelNames_any (x y : ByteArray) (hx : x.size ≤ maxLen) (hy : y.size ≤ maxLen) (v : PacketD) (hv : v.wf) (w0 : World) (hR : RowAt w0 0 0 (wCells rootsL)) :
    Calls Tryd.prog 3 #[.string x, .string y, .agg v.cells.toArray] w0 fun e w' => e = .returned (.bool true) ∧ w0.grownBy w' none := by
  have O := OwF.start (fun _ => False) w0
  have CA := Lib.hid (fun w (g : w0.grownBy w none) => alive20_ok w (hR.grown g (by simp)))
  have HR := Lib.hid hR; have HV := Lib.hid hv
  have CN0 := Lib.hid (fun w => chNew_ok x y hx hy w)
  have CR := Lib.hid (fun w => RNew20_ok x y hx hy w)
  clear hR hx hy
  by_cases hbig : 1000 < v.data.size
  · have d : decide ((1000 : Int) < (v.data.size : Int)) = true := by simp; omega
    clear hbig hv
    go_enter Tryd.func3, Tryd.ntmps3
    go_wp2_with (first | ((with_reducible refine @wpList_at _ _ _ _ _ _ _ (.box 23 (.tmp 2)) rfl ?_); refine @wpList_of_box _ _ _ _ _ _ _ _ _ _ 23 (.tmp 2) rfl v.cells rfl O rfl ?_; clear O; intro b5 w O) | ((with_reducible refine @wpList_at _ _ _ _ _ _ _ (.load 9 (.tmp 15)) rfl ?_); refine @wpList_of_cell _ _ _ _ _ _ _ _ _ _ 9 (.tmp 15) rfl O 0 b5 2 rfl _ _ rfl _ rfl _ Tryd.underlying9 rfl rfl ?_))
    refine (CA.out _ (O.tch.grown (fun _ h => h.elim))).mono ?_
    rintro e w ⟨rfl, g⟩
    replace O := O.call g
    clear g
    go_wp2_with fail
    go_ret
    exact ⟨rfl, O.tch.grown (fun _ h => h.elim)⟩
  have d : decide ((1000 : Int) < (v.data.size : Int)) = false := by simp; omega
  clear hbig
  cases hk : okPacket v with
  | true =>
    have CH := Lib.hid (fun w hR => cHash_ok v hv w hR)
    have CRH := Lib.hid (fun w => RHash20_ok v hv w)
    unfold RHashP at CRH

    rw [show errP v = 0 by unfold errP; rw [hk]; rfl] at CH
    rw [hk] at CRH
    have LP := Lib.hid (hashP_len v)
    have N1 := Lib.hid (show VEq (Lib.byteCells (hashP v)) (Lib.byteCells (hashP v)) = true by rw [VEq.bytes]; simp)
    obtain ⟨P1, hP1⟩ : ∃ z, hashP v = z := ⟨_, rfl⟩
    rw [hP1] at CH CRH LP N1
    clear hk hv hP1
    go_enter Tryd.func3, Tryd.ntmps3
    go_wp2_with (first | ((with_reducible refine @wpList_at _ _ _ _ _ _ _ (.box 23 (.tmp 2)) rfl ?_); refine @wpList_of_box _ _ _ _ _ _ _ _ _ _ 23 (.tmp 2) rfl v.cells rfl O rfl ?_; clear O; intro b5 w O) | ((with_reducible refine @wpList_at _ _ _ _ _ _ _ (.load 9 (.tmp 15)) rfl ?_); refine @wpList_of_cell _ _ _ _ _ _ _ _ _ _ 9 (.tmp 15) rfl O 0 b5 2 rfl _ _ rfl _ rfl _ Tryd.underlying9 rfl rfl ?_))
    refine (CN0.out _).mono ?_
    rintro e w ⟨g, h⟩
    replace O := O.call g
    clear g
    rcases h with ⟨h0, rfl⟩ | ⟨h0, p, bm, rfl, _⟩
    · have CR1 := CR.out
      rw [h0] at CR1
      have CR2 := Lib.hid CR1
      clear CR1 h0
      go_wp2_with fail
      refine (CR2.out _).mono ?_
      rintro e w ⟨P, rfl, g⟩
      replace O := O.call g
      clear g
      go_wp2_with (first | ((with_reducible refine @wpList_at _ _ _ _ _ _ _ (.load 23 (.tmp 5)) rfl ?_); refine @wpList_of_whole _ _ _ _ _ _ _ _ _ _ 23 (.tmp 5) rfl O 0 b5 rfl v.cells _ rfl _ Tryd.underlying23 rfl (PacketD.size v HV.out) rfl ?_))
      refine (CH.out _ (HR.out.grown (O.tch.grown (fun _ h => h.elim)) (by simp))).mono ?_
      rintro e w ⟨rfl, g⟩
      replace O := O.call g
      clear g
      go_wp2_with (first | ((with_reducible refine @wpList_at _ _ _ _ _ _ _ (.alloc 33) rfl ?_); refine @wpList_of_alloc _ _ _ _ _ _ _ _ _ _ 33 rfl ZH ZH_info O rfl ?_; clear O; intro b11 w O) | ((with_reducible refine @wpList_at _ _ _ _ _ _ _ (.store 33 (.tmp 11) (.tmp 35)) rfl ?_); refine @wpList_of_store _ _ _ _ _ _ _ _ _ _ 33 (.tmp 11) (.tmp 35) rfl O 0 b11 rfl (Lib.byteCells P1) ZH _ rfl rfl (by rw [Lib.byteCells_length, LP.out]; rfl) (oneCell_bytes _) (sizeH _ (by rw [Lib.byteCells_length, LP.out])) rfl ?_; clear O; intro w O; simp only [List.set_cons_zero] at O) | ((with_reducible refine @wpList_at _ _ _ _ _ _ _ (.load 23 (.tmp 5)) rfl ?_); refine @wpList_of_whole _ _ _ _ _ _ _ _ _ _ 23 (.tmp 5) rfl O 1 b5 rfl v.cells _ rfl _ Tryd.underlying23 rfl (PacketD.size v HV.out) rfl ?_))
      refine (CRH.out _).mono ?_
      rintro e w ⟨X, hx32, hxe, rfl, g⟩
      replace O := O.call g
      obtain rfl : P1 = X := (hxe (by trivial)).symm
      have LX := Lib.hid hx32
      clear g hx32 hxe
      go_wp2_with (first | ((with_reducible refine @wpList_at _ _ _ _ _ _ _ (.alloc 33) rfl ?_); refine @wpList_of_alloc _ _ _ _ _ _ _ _ _ _ 33 rfl ZH ZH_info O rfl ?_; clear O; intro b13 w O) | ((with_reducible refine @wpList_at _ _ _ _ _ _ _ (.store 33 (.tmp 13) (.tmp 40)) rfl ?_); refine @wpList_of_store _ _ _ _ _ _ _ _ _ _ 33 (.tmp 13) (.tmp 40) rfl O 0 b13 rfl (Lib.byteCells P1) ZH _ rfl rfl (by rw [Lib.byteCells_length, LP.out]; rfl) (oneCell_bytes _) (sizeH _ (by rw [Lib.byteCells_length, LP.out])) rfl ?_; clear O; intro w O; simp only [List.set_cons_zero] at O))
      refine (CA.out _ (O.tch.grown (fun _ h => h.elim))).mono ?_
      rintro e w ⟨rfl, g⟩
      replace O := O.call g
      clear g
      go_wp2_with (first | ((with_reducible refine @wpList_at _ _ _ _ _ _ _ (.load 33 (.tmp 11)) rfl ?_); refine @wpList_of_whole _ _ _ _ _ _ _ _ _ _ 33 (.tmp 11) rfl O 1 b11 rfl (Lib.byteCells P1) _ rfl _ Tryd.underlying33 rfl (sizeH _ (by rw [Lib.byteCells_length, LP.out])) rfl ?_) | ((with_reducible refine @wpList_at _ _ _ _ _ _ _ (.load 33 (.tmp 13)) rfl ?_); refine @wpList_of_whole _ _ _ _ _ _ _ _ _ _ 33 (.tmp 13) rfl O 0 b13 rfl (Lib.byteCells P1) _ rfl _ Tryd.underlying33 rfl (sizeH _ (by rw [Lib.byteCells_length, LP.out])) rfl ?_) | ((with_reducible refine @wpList_at _ _ _ _ _ _ _ (.binOp .eql 33 (.tmp 59) (.tmp 60) 33) rfl ?_); refine wpList_eql_flat rfl 33 _ _ _ rfl (Lib.byteCells P1) (Lib.byteCells P1) kHash rfl rfl hash_flat (hash_fits _ LP.out) (hash_fits _ LP.out) rfl (by kernel_rfl) ?_; rw [N1.out]))
      go_ret
      exact ⟨rfl, O.tch.grown (fun _ h => h.elim)⟩
    · have CR1 := CR.out
      rw [h0] at CR1
      have CR2 := Lib.hid CR1
      clear CR1 h0
      go_wp2_with fail
      refine (CR2.out _).mono ?_
      rintro e w ⟨P, rfl, g⟩
      replace O := O.call g
      clear g
      go_wp2_with (first | ((with_reducible refine @wpList_at _ _ _ _ _ _ _ (.load 23 (.tmp 5)) rfl ?_); refine @wpList_of_whole _ _ _ _ _ _ _ _ _ _ 23 (.tmp 5) rfl O 0 b5 rfl v.cells _ rfl _ Tryd.underlying23 rfl (PacketD.size v HV.out) rfl ?_))
      refine (CH.out _ (HR.out.grown (O.tch.grown (fun _ h => h.elim)) (by simp))).mono ?_
      rintro e w ⟨rfl, g⟩
      replace O := O.call g
      clear g
      go_wp2_with (first | ((with_reducible refine @wpList_at _ _ _ _ _ _ _ (.alloc 33) rfl ?_); refine @wpList_of_alloc _ _ _ _ _ _ _ _ _ _ 33 rfl ZH ZH_info O rfl ?_; clear O; intro b11 w O) | ((with_reducible refine @wpList_at _ _ _ _ _ _ _ (.store 33 (.tmp 11) (.tmp 35)) rfl ?_); refine @wpList_of_store _ _ _ _ _ _ _ _ _ _ 33 (.tmp 11) (.tmp 35) rfl O 0 b11 rfl (Lib.byteCells P1) ZH _ rfl rfl (by rw [Lib.byteCells_length, LP.out]; rfl) (oneCell_bytes _) (sizeH _ (by rw [Lib.byteCells_length, LP.out])) rfl ?_; clear O; intro w O; simp only [List.set_cons_zero] at O) | ((with_reducible refine @wpList_at _ _ _ _ _ _ _ (.load 23 (.tmp 5)) rfl ?_); refine @wpList_of_whole _ _ _ _ _ _ _ _ _ _ 23 (.tmp 5) rfl O 1 b5 rfl v.cells _ rfl _ Tryd.underlying23 rfl (PacketD.size v HV.out) rfl ?_))
      refine (CRH.out _).mono ?_
      rintro e w ⟨X, hx32, hxe, rfl, g⟩
      replace O := O.call g
      obtain rfl : P1 = X := (hxe (by trivial)).symm
      have LX := Lib.hid hx32
      clear g hx32 hxe
      go_wp2_with (first | ((with_reducible refine @wpList_at _ _ _ _ _ _ _ (.alloc 33) rfl ?_); refine @wpList_of_alloc _ _ _ _ _ _ _ _ _ _ 33 rfl ZH ZH_info O rfl ?_; clear O; intro b13 w O) | ((with_reducible refine @wpList_at _ _ _ _ _ _ _ (.store 33 (.tmp 13) (.tmp 40)) rfl ?_); refine @wpList_of_store _ _ _ _ _ _ _ _ _ _ 33 (.tmp 13) (.tmp 40) rfl O 0 b13 rfl (Lib.byteCells P1) ZH _ rfl rfl (by rw [Lib.byteCells_length, LP.out]; rfl) (oneCell_bytes _) (sizeH _ (by rw [Lib.byteCells_length, LP.out])) rfl ?_; clear O; intro w O; simp only [List.set_cons_zero] at O))
      refine (CA.out _ (O.tch.grown (fun _ h => h.elim))).mono ?_
      rintro e w ⟨rfl, g⟩
      replace O := O.call g
      clear g
      go_wp2_with (first | ((with_reducible refine @wpList_at _ _ _ _ _ _ _ (.load 33 (.tmp 11)) rfl ?_); refine @wpList_of_whole _ _ _ _ _ _ _ _ _ _ 33 (.tmp 11) rfl O 1 b11 rfl (Lib.byteCells P1) _ rfl _ Tryd.underlying33 rfl (sizeH _ (by rw [Lib.byteCells_length, LP.out])) rfl ?_) | ((with_reducible refine @wpList_at _ _ _ _ _ _ _ (.load 33 (.tmp 13)) rfl ?_); refine @wpList_of_whole _ _ _ _ _ _ _ _ _ _ 33 (.tmp 13) rfl O 0 b13 rfl (Lib.byteCells P1) _ rfl _ Tryd.underlying33 rfl (sizeH _ (by rw [Lib.byteCells_length, LP.out])) rfl ?_) | ((with_reducible refine @wpList_at _ _ _ _ _ _ _ (.binOp .eql 33 (.tmp 59) (.tmp 60) 33) rfl ?_); refine wpList_eql_flat rfl 33 _ _ _ rfl (Lib.byteCells P1) (Lib.byteCells P1) kHash rfl rfl hash_flat (hash_fits _ LP.out) (hash_fits _ LP.out) rfl (by kernel_rfl) ?_; rw [N1.out]))
      go_ret
      exact ⟨rfl, O.tch.grown (fun _ h => h.elim)⟩
  | false =>
    have CH := Lib.hid (fun w hR => cHash_ok v hv w hR)
    have CRH := Lib.hid (fun w => RHash20_ok v hv w)
    unfold RHashP at CRH

    rw [show errP v = 61 by unfold errP; rw [hk]; rfl] at CH
    rw [hk] at CRH
    have LP := Lib.hid (hashP_len v)
    have N1 := Lib.hid (show VEq (Lib.byteCells (hashP v)) ZH = true by unfold hashP; rw [hk, if_neg (by decide), ← ZH_bytesC, VEq.bytes]; simp)
    obtain ⟨P1, hP1⟩ : ∃ z, hashP v = z := ⟨_, rfl⟩
    rw [hP1] at CH CRH LP N1
    clear hk hv hP1
    go_enter Tryd.func3, Tryd.ntmps3
    go_wp2_with (first | ((with_reducible refine @wpList_at _ _ _ _ _ _ _ (.box 23 (.tmp 2)) rfl ?_); refine @wpList_of_box _ _ _ _ _ _ _ _ _ _ 23 (.tmp 2) rfl v.cells rfl O rfl ?_; clear O; intro b5 w O) | ((with_reducible refine @wpList_at _ _ _ _ _ _ _ (.load 9 (.tmp 15)) rfl ?_); refine @wpList_of_cell _ _ _ _ _ _ _ _ _ _ 9 (.tmp 15) rfl O 0 b5 2 rfl _ _ rfl _ rfl _ Tryd.underlying9 rfl rfl ?_))
    refine (CN0.out _).mono ?_
    rintro e w ⟨g, h⟩
    replace O := O.call g
    clear g
    rcases h with ⟨h0, rfl⟩ | ⟨h0, p, bm, rfl, _⟩
    · have CR1 := CR.out
      rw [h0] at CR1
      have CR2 := Lib.hid CR1
      clear CR1 h0
      go_wp2_with fail
      refine (CR2.out _).mono ?_
      rintro e w ⟨P, rfl, g⟩
      replace O := O.call g
      clear g
      go_wp2_with (first | ((with_reducible refine @wpList_at _ _ _ _ _ _ _ (.load 23 (.tmp 5)) rfl ?_); refine @wpList_of_whole _ _ _ _ _ _ _ _ _ _ 23 (.tmp 5) rfl O 0 b5 rfl v.cells _ rfl _ Tryd.underlying23 rfl (PacketD.size v HV.out) rfl ?_))
      refine (CH.out _ (HR.out.grown (O.tch.grown (fun _ h => h.elim)) (by simp))).mono ?_
      rintro e w ⟨rfl, g⟩
      replace O := O.call g
      clear g
      go_wp2_with (first | ((with_reducible refine @wpList_at _ _ _ _ _ _ _ (.alloc 33) rfl ?_); refine @wpList_of_alloc _ _ _ _ _ _ _ _ _ _ 33 rfl ZH ZH_info O rfl ?_; clear O; intro b11 w O) | ((with_reducible refine @wpList_at _ _ _ _ _ _ _ (.store 33 (.tmp 11) (.tmp 35)) rfl ?_); refine @wpList_of_store _ _ _ _ _ _ _ _ _ _ 33 (.tmp 11) (.tmp 35) rfl O 0 b11 rfl (Lib.byteCells P1) ZH _ rfl rfl (by rw [Lib.byteCells_length, LP.out]; rfl) (oneCell_bytes _) (sizeH _ (by rw [Lib.byteCells_length, LP.out])) rfl ?_; clear O; intro w O; simp only [List.set_cons_zero] at O) | ((with_reducible refine @wpList_at _ _ _ _ _ _ _ (.load 23 (.tmp 5)) rfl ?_); refine @wpList_of_whole _ _ _ _ _ _ _ _ _ _ 23 (.tmp 5) rfl O 1 b5 rfl v.cells _ rfl _ Tryd.underlying23 rfl (PacketD.size v HV.out) rfl ?_))
      refine (CRH.out _).mono ?_
      rintro e w ⟨X, hx32, hxe, rfl, g⟩
      replace O := O.call g

      have LX := Lib.hid hx32
      clear g hx32 hxe
      go_wp2_with (first | ((with_reducible refine @wpList_at _ _ _ _ _ _ _ (.alloc 33) rfl ?_); refine @wpList_of_alloc _ _ _ _ _ _ _ _ _ _ 33 rfl ZH ZH_info O rfl ?_; clear O; intro b13 w O) | ((with_reducible refine @wpList_at _ _ _ _ _ _ _ (.store 33 (.tmp 13) (.tmp 40)) rfl ?_); refine @wpList_of_store _ _ _ _ _ _ _ _ _ _ 33 (.tmp 13) (.tmp 40) rfl O 0 b13 rfl (Lib.byteCells X) ZH _ rfl rfl (by rw [Lib.byteCells_length, LX.out]; rfl) (oneCell_bytes _) (sizeH _ (by rw [Lib.byteCells_length, LX.out])) rfl ?_; clear O; intro w O; simp only [List.set_cons_zero] at O) | (refine wpList_build_eq rfl 33 _ rfl [] (by kernel_rfl) ZH bHashC ?_) | ((with_reducible refine @wpList_at _ _ _ _ _ _ _ (.store 33 (.tmp 13) (.tmp 44)) rfl ?_); refine @wpList_of_store _ _ _ _ _ _ _ _ _ _ 33 (.tmp 13) (.tmp 44) rfl O 0 b13 rfl ZH (Lib.byteCells X) _ rfl rfl (by rw [Lib.byteCells_length, LX.out]; rfl) ZH_one (sizeH _ ZH_length) rfl ?_; clear O; intro w O; simp only [List.set_cons_zero] at O))
      refine (CA.out _ (O.tch.grown (fun _ h => h.elim))).mono ?_
      rintro e w ⟨rfl, g⟩
      replace O := O.call g
      clear g
      go_wp2_with (first | ((with_reducible refine @wpList_at _ _ _ _ _ _ _ (.load 33 (.tmp 11)) rfl ?_); refine @wpList_of_whole _ _ _ _ _ _ _ _ _ _ 33 (.tmp 11) rfl O 1 b11 rfl (Lib.byteCells P1) _ rfl _ Tryd.underlying33 rfl (sizeH _ (by rw [Lib.byteCells_length, LP.out])) rfl ?_) | ((with_reducible refine @wpList_at _ _ _ _ _ _ _ (.load 33 (.tmp 13)) rfl ?_); refine @wpList_of_whole _ _ _ _ _ _ _ _ _ _ 33 (.tmp 13) rfl O 0 b13 rfl ZH _ rfl _ Tryd.underlying33 rfl (sizeH _ ZH_length) rfl ?_) | ((with_reducible refine @wpList_at _ _ _ _ _ _ _ (.binOp .eql 33 (.tmp 59) (.tmp 60) 33) rfl ?_); refine wpList_eql_flat rfl 33 _ _ _ rfl (Lib.byteCells P1) ZH kHash rfl rfl hash_flat (hash_fits _ LP.out) ZH_fits rfl (by kernel_rfl) ?_; rw [N1.out]))
      go_ret
      exact ⟨rfl, O.tch.grown (fun _ h => h.elim)⟩
    · have CR1 := CR.out
      rw [h0] at CR1
      have CR2 := Lib.hid CR1
      clear CR1 h0
      go_wp2_with fail
      refine (CR2.out _).mono ?_
      rintro e w ⟨P, rfl, g⟩
      replace O := O.call g
      clear g
      go_wp2_with (first | ((with_reducible refine @wpList_at _ _ _ _ _ _ _ (.load 23 (.tmp 5)) rfl ?_); refine @wpList_of_whole _ _ _ _ _ _ _ _ _ _ 23 (.tmp 5) rfl O 0 b5 rfl v.cells _ rfl _ Tryd.underlying23 rfl (PacketD.size v HV.out) rfl ?_))
      refine (CH.out _ (HR.out.grown (O.tch.grown (fun _ h => h.elim)) (by simp))).mono ?_
      rintro e w ⟨rfl, g⟩
      replace O := O.call g
      clear g
      go_wp2_with (first | ((with_reducible refine @wpList_at _ _ _ _ _ _ _ (.alloc 33) rfl ?_); refine @wpList_of_alloc _ _ _ _ _ _ _ _ _ _ 33 rfl ZH ZH_info O rfl ?_; clear O; intro b11 w O) | ((with_reducible refine @wpList_at _ _ _ _ _ _ _ (.store 33 (.tmp 11) (.tmp 35)) rfl ?_); refine @wpList_of_store _ _ _ _ _ _ _ _ _ _ 33 (.tmp 11) (.tmp 35) rfl O 0 b11 rfl (Lib.byteCells P1) ZH _ rfl rfl (by rw [Lib.byteCells_length, LP.out]; rfl) (oneCell_bytes _) (sizeH _ (by rw [Lib.byteCells_length, LP.out])) rfl ?_; clear O; intro w O; simp only [List.set_cons_zero] at O) | ((with_reducible refine @wpList_at _ _ _ _ _ _ _ (.load 23 (.tmp 5)) rfl ?_); refine @wpList_of_whole _ _ _ _ _ _ _ _ _ _ 23 (.tmp 5) rfl O 1 b5 rfl v.cells _ rfl _ Tryd.underlying23 rfl (PacketD.size v HV.out) rfl ?_))
      refine (CRH.out _).mono ?_
      rintro e w ⟨X, hx32, hxe, rfl, g⟩
      replace O := O.call g

      have LX := Lib.hid hx32
      clear g hx32 hxe
      go_wp2_with (first | ((with_reducible refine @wpList_at _ _ _ _ _ _ _ (.alloc 33) rfl ?_); refine @wpList_of_alloc _ _ _ _ _ _ _ _ _ _ 33 rfl ZH ZH_info O rfl ?_; clear O; intro b13 w O) | ((with_reducible refine @wpList_at _ _ _ _ _ _ _ (.store 33 (.tmp 13) (.tmp 40)) rfl ?_); refine @wpList_of_store _ _ _ _ _ _ _ _ _ _ 33 (.tmp 13) (.tmp 40) rfl O 0 b13 rfl (Lib.byteCells X) ZH _ rfl rfl (by rw [Lib.byteCells_length, LX.out]; rfl) (oneCell_bytes _) (sizeH _ (by rw [Lib.byteCells_length, LX.out])) rfl ?_; clear O; intro w O; simp only [List.set_cons_zero] at O) | (refine wpList_build_eq rfl 33 _ rfl [] (by kernel_rfl) ZH bHashC ?_) | ((with_reducible refine @wpList_at _ _ _ _ _ _ _ (.store 33 (.tmp 13) (.tmp 44)) rfl ?_); refine @wpList_of_store _ _ _ _ _ _ _ _ _ _ 33 (.tmp 13) (.tmp 44) rfl O 0 b13 rfl ZH (Lib.byteCells X) _ rfl rfl (by rw [Lib.byteCells_length, LX.out]; rfl) ZH_one (sizeH _ ZH_length) rfl ?_; clear O; intro w O; simp only [List.set_cons_zero] at O))
      refine (CA.out _ (O.tch.grown (fun _ h => h.elim))).mono ?_
      rintro e w ⟨rfl, g⟩
      replace O := O.call g
      clear g
      go_wp2_with (first | ((with_reducible refine @wpList_at _ _ _ _ _ _ _ (.load 33 (.tmp 11)) rfl ?_); refine @wpList_of_whole _ _ _ _ _ _ _ _ _ _ 33 (.tmp 11) rfl O 1 b11 rfl (Lib.byteCells P1) _ rfl _ Tryd.underlying33 rfl (sizeH _ (by rw [Lib.byteCells_length, LP.out])) rfl ?_) | ((with_reducible refine @wpList_at _ _ _ _ _ _ _ (.load 33 (.tmp 13)) rfl ?_); refine @wpList_of_whole _ _ _ _ _ _ _ _ _ _ 33 (.tmp 13) rfl O 0 b13 rfl ZH _ rfl _ Tryd.underlying33 rfl (sizeH _ ZH_length) rfl ?_) | ((with_reducible refine @wpList_at _ _ _ _ _ _ _ (.binOp .eql 33 (.tmp 59) (.tmp 60) 33) rfl ?_); refine wpList_eql_flat rfl 33 _ _ _ rfl (Lib.byteCells P1) ZH kHash rfl rfl hash_flat (hash_fits _ LP.out) ZH_fits rfl (by kernel_rfl) ?_; rw [N1.out]))
      go_ret
      exact ⟨rfl, O.tch.grown (fun _ h => h.elim)⟩

end Go.Proofs.YtlahdaanfhedoaaDoor
