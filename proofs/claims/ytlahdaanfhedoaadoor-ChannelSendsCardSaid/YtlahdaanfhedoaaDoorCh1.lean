/- Walks: packets between chains: blake.Text, channel.Hash. -/
import Derived.Test.YtlahdaanfhedoaaDoorBkW
import Derived.Test.YtlahdaanfhedoaaDoorDecPacket
import Derived.Test.YtlahdaanfhedoaaDoorRefB
import Derived.Test.YtlahdaanfhedoaaDoorDrw
import Derived.Maps.OwnSet
namespace Go.Proofs.YtlahdaanfhedoaaDoor
open Go.RowKit Go.Maps
set_option maxRecDepth 100000

def figL : List UInt8 := [48, 49, 50, 51, 52, 53, 54, 55, 56, 57, 97, 98, 99, 100, 101, 102]
def fig (n : Nat) : UInt8 := figL.getD n 0
/-- a text's figures -/
def hexL (l : List UInt8) : List UInt8 := l.flatMap fun c => [fig (c.toNat / 16), fig (c.toNat % 16)]
theorem hexL_len (l : List UInt8) : (hexL l).length = 2 * l.length := by
  unfold hexL
  induction l with
  | nil => rfl
  | cons c l ih => rw [List.flatMap_cons, List.length_append, ih, List.length_cons]; simp; omega
theorem hexL_snoc (l : List UInt8) (c : UInt8) : hexL (l ++ [c]) = hexL l ++ [fig (c.toNat / 16), fig (c.toNat % 16)] := by unfold hexL; rw [List.flatMap_append]; simp
def figS : ByteArray := ⟨#[48, 49, 50, 51, 52, 53, 54, 55, 56, 57, 97, 98, 99, 100, 101, 102]⟩
theorem wp_bs2 {o : Oper} {a : Act} {w : World} {K : Act → World → Prop} {Q : Exit → Act → World → Prop} (x y : Operand) (ho : o.op = .buildSlice 59 2 #[(0, x), (1, y)]) {u v : Int} (hx : a.eval x = .int .u8 u) (hy : a.eval y = .int .u8 v)
    (h : K (a.put o.dst (.slice (some ⟨w.heap.size, 0, none⟩) 2 2)) (w.alloc (.cells #[.int .u8 u, .int .u8 v] 5))) : o.wp Tryd.prog a w K Q := by
  cases hq : Tryd.prog.info? 5 with
  | none => exact absurd hq (by rw [show (Tryd.prog.info? 5) = none ↔ (Tryd.prog.info? 5).isNone = true by simp]; decide +kernel)
  | some i =>
    have hi : (Tryd.prog.info? 5).map (fun i => (i.zero, i.size)) = some (some (.int .u8 0), 1) := by kernel_rfl
    have hi' : i.zero = some (.int .u8 0) ∧ i.size = 1 := by simpa [hq] using hi
    have hr := run_buildSlice_all (P := Tryd.prog) w 59 5 i (.int .u8 0) 1 Tryd.underlying59 hq hi'.1 hi'.2 [.int .u8 u, .int .u8 v] (by simp [Value.cells]) (by simp)
    have hr2 : (Instr.buildSlice 59 2 #[(0, .int .u8 u), (1, .int .u8 v)]).run Tryd.prog w = .ok (.slice (some ⟨w.heap.size, 0, none⟩) 2 2) (w.alloc (.cells #[.int .u8 u, .int .u8 v] 5)) := hr
    unfold Oper.wp execOp
    simp only [ho, List.map_toArray, List.map_cons, List.map_nil, hx, hy, Sem.run_bind, hr2, Result.andThen_ok]
    exact h
theorem run_fig (n : Nat) (hn : n < 16) (w : World) : (Instr.index 9 (.string figS) (.int .u8 (n : Int))).run Tryd.prog w = .ok (.int .u8 ((fig n).toNat : Int)) w := by
  have h : n = 0 ∨ n = 1 ∨ n = 2 ∨ n = 3 ∨ n = 4 ∨ n = 5 ∨ n = 6 ∨ n = 7 ∨ n = 8 ∨ n = 9 ∨ n = 10 ∨ n = 11 ∨ n = 12 ∨ n = 13 ∨ n = 14 ∨ n = 15 := by omega
  rcases h with rfl | rfl | rfl | rfl | rfl | rfl | rfl | rfl | rfl | rfl | rfl | rfl | rfl | rfl | rfl | rfl <;> rfl
theorem below_grown_ {w0 w w' : World} (h : Below w0.heap.size w w') (g : w0.grownBy w none) : w0.grownBy w' none := ⟨h.os.trans g.os, h.tape.trans g.tape, h.output.trans g.output, Nat.le_trans g.size h.size, fun k hk hr => (h.block k hk).trans (g.block k hk hr)⟩
theorem dr1 (w : World) : w.grownBy w.drew none := ⟨rfl, rfl, rfl, Nat.le_refl _, fun _ _ _ => rfl⟩
theorem OwnB.len1 {B : Nat} {a : Option Addr} {n c : Nat} {l : List UInt8} {w : World} (h : OwnB B (.slice a n c) l w) : n = l.length := by
  obtain ⟨_, ⟨h1, h2⟩ | ⟨_, _, _, h1, _⟩⟩ := h
  · injection h1 with _ h1 _; omega
  · injection h1 with _ h1 _
theorem run_fig_op {o : Oper} {a : Act} (x : Operand) (ho : o.op = .index 9 (.const (.string figS)) x) (n : Nat) (hn : n < 16) (hx : a.eval x = .int .u8 (n : Int)) (w : World) : (execOp a.eval o).run Tryd.prog w = .ok (.value (.int .u8 ((fig n).toNat : Int))) w := by
  have hc : a.eval (.const (.string figS)) = .string figS := rfl
  unfold execOp
  simp only [ho, hx, hc, Sem.run_bind, run_fig n hn, Result.andThen_ok, Sem.run_pure]
theorem and15 (u : UInt8) : Go.bits BinOp.and IntKind.u8 (u.toNat : Int) 15 = ((u.toNat % 16 : Nat) : Int) :=
  (show ∀ n : Fin 256, Go.bits BinOp.and IntKind.u8 (n.val : Int) 15 = ((n.val % 16 : Nat) : Int) by decide +kernel) ⟨u.toNat, u.toNat_lt⟩
theorem run_index_hash (B : List UInt8) (hB : B.length = 32) (j : Nat) (hj : j < 32) (w : World) :
    (Instr.index 33 (.agg (Lib.byteCells B).toArray) (.int .i64 j)).run Tryd.prog w = .ok (.int .u8 ((B.getD j 0).toNat : Int)) w := by
  have hji : (j : Int) < 32 := by omega
  have hc : (Lib.byteCells B)[j]? = some (.int .u8 ((B.getD j 0).toNat : Int)) := by
    rw [byteCells_get B j (by omega)]; simp [List.getD, List.getElem?_eq_getElem (show j < B.length by omega)]
  have hs : (sizeOf 5).run Tryd.prog w = .ok 1 w := by kernel_rfl
  have hagg : (isAgg 5).run Tryd.prog w = .ok false w := by kernel_rfl
  have h0 : (0 : Int) ≤ (j : Int) ∧ (j : Int) < 32 := ⟨by omega, hji⟩
  unfold Instr.index
  simp [asIntOf, Sem.run_bind, run_underlying Tryd.underlying33, hs, Nat.not_le.2 hj, part, hc]
set_option maxHeartbeats 2000000 in
theorem bText_ok (l : List UInt8) (hl : l.length = 32) (w0 : World) : Calls Tryd.prog 22 #[.agg (Lib.byteCells l).toArray] w0 fun e w' => e = .returned (.string ⟨(hexL l).toArray⟩) ∧ w0.grownBy w' none := by
  have O := OwF.start (fun _ => False) w0
  have HL := Lib.hid hl
  clear hl
  go_enter Tryd.func22, Tryd.ntmps22
  go_wp2_with (first | (refine @wpList_of_box _ _ _ _ _ _ _ _ _ _ 33 _ rfl (Lib.byteCells l) rfl O rfl ?_; clear O; intro b w O) | ((with_reducible refine @wpList_at _ _ _ _ _ _ _ (.load 33 (.tmp 1)) rfl ?_); refine @wpList_of_whole _ _ _ _ _ _ _ _ _ _ 33 (.tmp 1) rfl O 0 b rfl (Lib.byteCells l) _ rfl _ Tryd.underlying33 rfl (sizeH _ (by rw [Lib.byteCells_length, HL.out])) rfl ?_))
  have HO := Lib.hid O
  go_loopw [3, 7] (fun v i wr => ∃ k : Nat, k ≤ 32 ∧ i = .int .i64 k ∧ OwnB w0.heap.size v (hexL (l.take k)) wr ∧ w0.grownBy wr none) (fun _ i _ => 32 - (intOf i).toNat)
  case atStart => exact ⟨0, Nat.zero_le _, rfl, World.ownsRow_nil _ _ _ _, O.tch.grown (fun _ h => h.elim)⟩
  case round =>
    obtain ⟨k, hk, rfl, ho, hg⟩ := hrel
    obtain ⟨a1, n1, c1, hv⟩ := ho.shape
    subst hv
    have HO2 := Lib.hid ho; have HG := Lib.hid hg
    clear ho hg
    by_cases hlt : k < 32
    · have hk2 : k < l.length := by rw [HL.out]; exact hlt
      obtain ⟨u, hu⟩ : ∃ u, l[k] = u := ⟨_, rfl⟩
      have HS := Lib.hid (show hexL (l.take (k + 1)) = hexL (l.take k) ++ [fig (u.toNat / 16), fig (u.toNat % 16)] by rw [List.take_succ_eq_append_getElem hk2, hu, hexL_snoc])
      have hidx := fun w => run_index_hash l HL.out k hlt w
      rw [show l.getD k 0 = u by rw [← hu]; simp [List.getD, List.getElem?_eq_getElem hk2]] at hidx
      have hq1 : u.toNat / 16 < 16 := by have := u.toNat_lt; omega
      have hq2 : u.toNat % 16 < 16 := Nat.mod_lt _ (by decide)
      have HQ1 := Lib.hid hq1; have HQ2 := Lib.hid hq2
      clear hq1 hq2
      have hand := and15 u
      clear hk2 hu
      go_upto_region 5 with fail
      refine wp_region_J (rdf []) [7, 8] (by kernel_rfl) RdA.nil (fun hH => ?_)
      refine jp 0 ((.slice a1 n1 c1)) (Still.all hH) ?_
      simp only [Act.put, jq1, jq3, jq4, jq5, jq6]
      refine jp 1 ((.int .u8 (u.toNat : Int))) (Still.all hH) ?_
      simp only [Act.put, jq1, jq2, jq3, jq4, jq5, jq6]
      refine jp 2 ((.int .u8 ((u.toNat / 16 : Nat) : Int))) (Still.all hH) ?_
      simp only [Act.put, jq1, jq2, jq3, jq4, jq5, jq6]
      refine jp 3 ((.int .u8 ((fig (u.toNat / 16)).toNat : Int))) (Still.all hH) ?_ (hy := (Or.inl ⟨by rfl, fun W _ => run_fig_op _ rfl _ HQ1.out rfl W⟩))
      simp only [Act.put, jq1, jq2, jq3, jq4, jq5, jq6]
      refine jp 4 ((.int .u8 (u.toNat : Int))) (Still.all hH) ?_
      simp only [Act.put, jq1, jq2, jq3, jq4, jq5, jq6]
      refine jp 5 ((.int .u8 ((u.toNat % 16 : Nat) : Int))) (Still.all hH) ?_
      simp only [Act.put, jq1, jq2, jq3, jq4, jq5, jq6]
      refine jp 6 ((.int .u8 ((fig (u.toNat % 16)).toNat : Int))) (Still.all hH) ?_ (hy := (Or.inl ⟨by rfl, fun W _ => run_fig_op _ rfl _ HQ2.out rfl W⟩))
      simp only [Act.put, jq1, jq2, jq3, jq4, jq5, jq6]
      refine wpAnyJ_ready (rs := [7]) (by kernel_rfl) (by simp) ?_
      refine AllJ.turn rfl (by rfl) (by rfl) (fun K hK => ?_) (AllJ.nil)
      refine wp_bs2 _ _ rfl rfl rfl ?_
      obtain ⟨W2, hW2⟩ : ∃ W2, wr.drew.alloc (.cells #[.int .u8 ((fig (u.toNat / 16)).toNat : Int), .int .u8 ((fig (u.toNat % 16)).toNat : Int)] 5) = W2 := ⟨_, rfl⟩
      have g2 : wr.grownBy W2 none := hW2 ▸ (dr1 wr).trans (World.grownBy_alloc _ _ none)
      have HO3 := Lib.hid (HO2.out.kept g2); have HG2 := Lib.hid (HG.out.trans g2)
      have HRD := Lib.hid (show RdB W2 (.slice (some ⟨wr.drew.heap.size, 0, none⟩) 2 2) [fig (u.toNat / 16), fig (u.toNat % 16)] from ⟨_, _, rfl, Nat.le_refl _, by unfold maxLen; simp, Or.inr ⟨wr.drew.heap.size, 0, rfl, by rw [← hW2]; simp, hW2 ▸ RowAt_box wr.drew [.int .u8 ((fig (u.toNat / 16)).toNat : Int), .int .u8 ((fig (u.toNat % 16)).toNat : Int)] _⟩⟩)
      have HLE := Lib.hid (HG2.out.size)
      clear g2
      simp only [Act.put, jq1, jq2, jq3, jq4, jq5, jq6]
      rw [hW2]
      clear hW2
      refine hK.out _ _ (waits_all (by kernel_rfl)) ?_
      clear hK K hH
      refine wpAnyJ_ready (rs := [8]) (by kernel_rfl) (by simp) ?_
      refine AllJ.turn rfl (by rfl) (by rfl) (fun K hK => ?_) (AllJ.nil)
      refine wp_app _ _ rfl rfl HO3.out (m := [fig (u.toNat / 16), fig (u.toNat % 16)]) rfl HRD.out (by rw [hexL_len, List.length_take]; simp; omega) HLE.out ?_
      intro a' n' c' w' hown' hb'
      simp only [Act.put, jq1, jq2, jq3, jq4, jq5, jq6]
      refine hK.out _ _ (waits_all (by kernel_rfl)) ?_
      clear hK K
      refine jp 9 ((.slice a' n' c')) (Still.none (by kernel_rfl)) ?_
      simp only [Act.put, jq1, jq2, jq3, jq4, jq5, jq6]
      refine wpAnyJ_done (by kernel_rfl) ?_ _
      go_wp2_with fail
      exact ⟨⟨k + 1, by omega, by go_num, by rw [HS.out]; exact hown', below_grown_ hb' HG2.out⟩, by simp [intOf]; omega⟩
    · obtain rfl : k = 32 := by omega
      obtain ⟨a1, n1, c1, hv⟩ := HO2.out.shape
      have h2 := HO2.out
      rw [List.take_of_length_le (by rw [HL.out]; exact Nat.le_refl _)] at h2
      have hcv := h2.rd.conv
      go_wp2_with fail
      go_ret
      exact ⟨rfl, HG.out⟩

theorem bHashC : Tryd.prog.built 33 [] = some ZH.toArray := by kernel_rfl
/-- a packet's hash -/
def hashP (v : PacketD) : List UInt8 := if okPacket v = true then blake (6 :: encPacket v) else List.replicate 32 0
theorem hashP_len (v : PacketD) : (hashP v).length = 32 := by unfold hashP; split; · exact blake_len _
                                                              · rfl
def errP (v : PacketD) : Int := if okPacket v = true then 0 else 61
theorem ZH_bytesC : Lib.byteCells (List.replicate 32 0) = ZH := by kernel_rfl
set_option maxHeartbeats 2000000 in
theorem cHash_ok (v : PacketD) (hv : v.wf) (w0 : World) (hR : RowAt w0 0 0 (wCells rootsL)) : Calls Tryd.prog 8 #[.agg v.cells.toArray] w0 fun e w' => e = .returned (.tuple #[.agg (Lib.byteCells (hashP v)).toArray, .int .i64 (errP v)]) ∧ w0.grownBy w' none := by
  have O := OwF.start (fun _ => False) w0
  have HV := Lib.hid hv; have HR := Lib.hid hR
  have HLN := Lib.hid (hashP_len v)
  cases hk : okPacket v with
  | true =>
    have CE := Lib.hid (fun w => EncodePacket_yes v w hv hk)
    have HP := Lib.hid (show hashP v = blake (6 :: encPacket v) by unfold hashP; rw [hk]; rfl)
    have HE := Lib.hid (show errP v = 0 by unfold errP; rw [hk]; rfl)
    have HLE := Lib.hid (encPacket_len v hv hk)
    obtain ⟨X, hX⟩ : ∃ z, hashP v = z := ⟨_, rfl⟩
    rw [hX] at HP HLN ⊢
    clear hk hv hR hX
    go_enter Tryd.func8, Tryd.ntmps8
    go_wp2_with (first | (refine @wpList_of_box _ _ _ _ _ _ _ _ _ _ 23 _ rfl v.cells rfl O rfl ?_; clear O; intro b1 w O) | ((with_reducible refine @wpList_at _ _ _ _ _ _ _ (.alloc 33) rfl ?_); refine @wpList_of_alloc _ _ _ _ _ _ _ _ _ _ 33 rfl ZH ZH_info O rfl ?_; clear O; intro b2 w O) | ((with_reducible refine @wpList_at _ _ _ _ _ _ _ (.load 23 (.tmp 1)) rfl ?_); refine @wpList_of_whole _ _ _ _ _ _ _ _ _ _ 23 (.tmp 1) rfl O 1 b1 rfl v.cells _ rfl _ Tryd.underlying23 rfl (PacketD.size v HV.out) rfl ?_))
    refine (CE.out _).mono ?_
    rintro e w ⟨a, n, c, rfl, ho, hb⟩
    replace O := O.call (below_grown hb)
    obtain rfl := OwnB.len1 ho
    have E4 := Lib.hid ho.rd
    clear hb ho
    go_wp2_with fail
    have g2 : w.grownBy (w.alloc (.cells #[.slice a (encPacket v).length c] 59)) none := World.grownBy_alloc w _ none
    obtain ⟨w2, hw2⟩ : ∃ w2, w.alloc (.cells #[.slice a (encPacket v).length c] 59) = w2 := ⟨_, rfl⟩
    have r2 : RdL w2 (.slice (some ⟨w.heap.size, 0, none⟩) 1 1) [encPacket v] := by
      refine ⟨_, 1, [.slice a (encPacket v).length c], rfl, Nat.le_refl _, by simp [maxLen], rfl, fun i l' hi => ?_, Or.inr ⟨_, 0, rfl, ?_, ?_⟩⟩
      · have hi0 : i = 0 := by have := (List.getElem?_eq_some_iff.1 hi).1; simp at this; exact this
        subst hi0
        injection hi with hi
        subst hi
        exact ⟨_, rfl, hw2 ▸ E4.out.grown g2⟩
      · rw [← hw2]; simp
      · rw [← hw2]; exact RowAt_box w [.slice a (encPacket v).length c] _
    rw [hw2] at g2 ⊢
    replace O := O.call g2
    have e1 : [encPacket v].flatten = encPacket v := by simp
    have C := Join_ok 6 [encPacket v] _ w2 r2 (by rw [e1]; have := HLE.out; omega) (HR.out.grown (O.tch.grown (fun _ h => h.elim)) (by simp))
    rw [e1, ← HP.out] at C
    clear hw2 g2 r2 e1
    refine C.mono ?_
    rintro e w3 ⟨rfl, g3⟩
    replace O := O.call g3
    clear g3 C
    go_wp2_with (first | ((with_reducible refine @wpList_at _ _ _ _ _ _ _ (.store 33 (.tmp 2) (.tmp 17)) rfl ?_); refine @wpList_of_store _ _ _ _ _ _ _ _ _ _ 33 (.tmp 2) (.tmp 17) rfl O 0 b2 rfl (Lib.byteCells X) ZH _ rfl rfl (by rw [Lib.byteCells_length, HLN.out]; rfl) (oneCell_bytes _) (sizeH _ (by rw [Lib.byteCells_length, HLN.out])) rfl ?_; clear O; intro w O; simp only [List.set_cons_zero] at O))
    rw [HE.out]
    refine bodyPost_ret (results_cell_tmp rfl _ _ ⟨b2, 0, none⟩ _ _ rfl rfl (run_loadVar_part _ _ _ 33 (Lib.byteCells X) _ (O.row_of (g := b2) (T := 33) (by simp)) Tryd.underlying33 rfl (sizeH _ (by rw [Lib.byteCells_length, HLN.out])))) rfl ?_
    exact ⟨rfl, O.tch.grown (fun _ h => h.elim)⟩
  | false =>
    have CE := Lib.hid (fun w => EncodePacket_no v w hv hk)
    have HP := Lib.hid (show hashP v = List.replicate 32 0 by unfold hashP; rw [hk]; rfl)
    have HE := Lib.hid (show errP v = 61 by unfold errP; rw [hk]; rfl)
    clear hk hv hR
    go_enter Tryd.func8, Tryd.ntmps8
    go_wp2_with (first | (refine @wpList_of_box _ _ _ _ _ _ _ _ _ _ 23 _ rfl v.cells rfl O rfl ?_; clear O; intro b1 w O) | ((with_reducible refine @wpList_at _ _ _ _ _ _ _ (.alloc 33) rfl ?_); refine @wpList_of_alloc _ _ _ _ _ _ _ _ _ _ 33 rfl ZH ZH_info O rfl ?_; clear O; intro b2 w O) | ((with_reducible refine @wpList_at _ _ _ _ _ _ _ (.load 23 (.tmp 1)) rfl ?_); refine @wpList_of_whole _ _ _ _ _ _ _ _ _ _ 23 (.tmp 1) rfl O 1 b1 rfl v.cells _ rfl _ Tryd.underlying23 rfl (PacketD.size v HV.out) rfl ?_))
    refine (CE.out _).mono ?_
    rintro e w ⟨rfl, hb⟩
    replace O := O.call (below_grown hb)
    clear hb
    go_wp2_with (first | (refine wpList_build_eq rfl 33 _ rfl [] (by kernel_rfl) ZH bHashC ?_) | ((with_reducible refine @wpList_at _ _ _ _ _ _ _ (.store 33 (.tmp 2) (.tmp 13)) rfl ?_); refine @wpList_of_store _ _ _ _ _ _ _ _ _ _ 33 (.tmp 2) (.tmp 13) rfl O 0 b2 rfl ZH ZH _ rfl rfl rfl ZH_one (sizeH _ ZH_length) rfl ?_; clear O; intro w O; simp only [List.set_cons_zero] at O))
    rw [HE.out, HP.out, ZH_bytesC]
    refine bodyPost_ret (results_cell_tmp rfl _ _ ⟨b2, 0, none⟩ _ _ rfl rfl (run_loadVar_part _ _ _ 33 ZH _ (O.row_of (g := b2) (T := 33) (by simp)) Tryd.underlying33 rfl (sizeH _ ZH_length))) rfl ?_
    exact ⟨rfl, O.tch.grown (fun _ h => h.elim)⟩

end Go.Proofs.YtlahdaanfhedoaaDoor
