/- Walk: nunciolaw20's alive. -/
import Derived.Test.YtlahdaanfhedoaaDoorCh3
namespace Go.Proofs.YtlahdaanfhedoaaDoor
open Go.RowKit Go.Maps
set_option maxRecDepth 100000

def aS : ByteArray := ⟨#[97]⟩
def bS : ByteArray := ⟨#[98]⟩
def hiS : ByteArray := ⟨#[104, 105]⟩
theorem new_ab : newE20 aS bS = 0 := by decide +kernel
theorem okp_ab : okPacket ⟨1, aS, hiS, 9⟩ = true := by decide +kernel
theorem wfp_ab : (⟨1, aS, hiS, 9⟩ : PacketD).wf := ⟨by show (-9223372036854775808 : Int) ≤ 1 ∧ (1 : Int) < 9223372036854775808; decide, by show (1 : Nat) ≤ 2 ^ 63 - 1; decide, by show (2 : Nat) ≤ 2 ^ 63 - 1; decide, by show (-9223372036854775808 : Int) ≤ 9 ∧ (9 : Int) < 9223372036854775808; decide⟩
set_option maxHeartbeats 4000000 in
theorem alive20_ok (w0 : World) (hR : RowAt w0 0 0 (wCells rootsL)) : Calls Tryd.prog 5 #[] w0 fun e w' => e = .returned (.bool true) ∧ w0.grownBy w' none := by
  have HR := Lib.hid hR
  have CN := Lib.hid (chNew_ok aS bS (by unfold maxLen aS; decide) (by unfold maxLen bS; decide) w0)
  have HRL := Lib.hid (World.block_lt_of_cell? w0 ⟨0, 0 + 0, none⟩ (hR 0 _ rfl))
  clear hR
  go_enter Tryd.func5, Tryd.ntmps5
  go_wp2_with fail
  refine CN.out.mono ?_
  rintro e w ⟨g1, h⟩
  rcases h with ⟨h0, _⟩ | ⟨_, p, bm, rfl, H, hp, hbm⟩
  · rw [new_ab] at h0; cases h0
  have HG := Lib.hid g1; have HP := Lib.hid (show p ≠ 0 from fun e => by have := HRL.out; omega)
  have CS := Lib.hid (send1_ok H hiS 9 wfp_ab okp_ab HP.out (HR.out.grown g1 (by simp)))
  have HPB := Lib.hid (show w0.heap.size ≤ p ∧ w0.heap.size ≤ bm from ⟨hp, hbm⟩)
  clear H hp hbm g1 CN
  go_wp2_with fail
  refine CS.out.mono ?_
  rintro e w2 ⟨rfl, ⟨s, H⟩, t⟩
  have g2 : w0.grownBy w2 none := ((Tch.of_grown (F := fun b => b = p ∨ b = bm) HG.out).trans t (fun b hb _ => hb)).grown (fun b hb => by have := HPB.out; rcases hb with rfl | rfl <;> omega)
  have HG2 := Lib.hid g2; have HH := Lib.hid H
  have HV := Lib.hid wfp_ab
  clear g2 t H CS HG
  have O := OwF.start (fun _ => False) w2
  obtain ⟨v0, hv0⟩ : ∃ v : PacketD, (⟨1, aS, hiS, 9⟩ : PacketD) = v := ⟨_, rfl⟩
  rw [hv0] at HV ⊢
  have hs0 : v0.seq = 1 := by rw [← hv0]
  have HS0 := Lib.hid hs0
  clear hs0 hv0
  go_wp2_with (first | ((with_reducible refine @wpList_at _ _ _ _ _ _ _ (.alloc 23) rfl ?_); refine @wpList_of_alloc _ _ _ _ _ _ _ _ _ _ 23 rfl ZPk ZPk_info O rfl ?_; clear O; intro b3 w O) | ((with_reducible refine @wpList_at _ _ _ _ _ _ _ (.store 23 (.tmp 3) (.tmp 19)) rfl ?_); refine @wpList_of_store _ _ _ _ _ _ _ _ _ _ 23 (.tmp 3) (.tmp 19) rfl O 0 b3 rfl v0.cells ZPk _ rfl rfl rfl (PacketD_one _) (PacketD.size v0 HV.out) rfl ?_; clear O; intro w O; simp only [List.set_cons_zero] at O))
  have CE := Lib.hid (entries1_ok (HH.out.grown (O.tch.grown (fun _ h => h.elim))))
  refine CE.out.mono ?_
  rintro e w3 ⟨g, o, c, rfl, hc, hr, g3⟩
  replace O := O.call g3
  have CX := Lib.hid (chNext_ok (HH.out.grown (O.tch.grown (fun _ h => h.elim))))
  have R1 := Lib.hid hr; have HC := Lib.hid hc
  clear g3 CE hr hc
  have hs1 := HS0.out
  go_wp2_with (first | ((with_reducible refine @wpList_at _ _ _ _ _ _ _ (.load 3 (.tmp 26)) rfl ?_); refine @wpList_of_cell _ _ _ _ _ _ _ _ _ _ 3 (.tmp 26) rfl O 0 b3 0 rfl _ _ rfl _ rfl _ Tryd.underlying3 rfl rfl ?_))
  refine CX.out.mono ?_
  rintro e w4 ⟨rfl, g4⟩
  have c0 := (R1.out.grown g4 (by simp)) 0 _ rfl
  rw [Nat.add_zero] at c0
  replace O := O.call g4
  have hc1 : ¬ (1 : Int) ≤ 0 := by decide
  have hkk : (kCommit1.toList == [99, 111, 109, 109, 105, 116, 47, 49]) = true := by decide +kernel
  clear g4 CX
  go_wp2_with fail
  go_ret
  exact ⟨rfl, HG2.out.trans (O.tch.grown (fun _ h => h.elim))⟩

end Go.Proofs.YtlahdaanfhedoaaDoor
