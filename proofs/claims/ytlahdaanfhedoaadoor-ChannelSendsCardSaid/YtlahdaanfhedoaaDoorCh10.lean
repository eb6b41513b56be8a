/- Walks: a channel: Send, Entries, whatever it has. -/
import Derived.Test.YtlahdaanfhedoaaDoorCh9
import Derived.Maps.RangeWalk
namespace Go.Proofs.YtlahdaanfhedoaaDoor
open Go.RowKit Go.Maps
set_option maxRecDepth 100000

def SendQ (w0 : World) (p bm : Nat) (x y : ByteArray) (m n : Nat) (D : DataW Value) (v : PacketD) (e : Ending) (w' : World) : Prop :=
  e = .returned (.tuple #[.agg v.cells.toArray, .int .i64 0]) ∧ ChRep w' p bm x y ((m + 1 : Nat) : Int) (n + 1) (D.put (.string (keyS kCommit m).data.toList) (.held (itemV ⟨(hexL (hashP v)).toArray⟩))) ∧ Tch (fun b => b = p ∨ b = bm) w0 w'
set_option maxHeartbeats 8000000 in
theorem sendN_ok {w0 : World} {p bm : Nat} {x y : ByteArray} {m n : Nat} {D : DataW Value} (hm1 : m < 100) (hn1 : n < 1000) (h : ChRep w0 p bm x y (m : Int) n D) (data : ByteArray) (tm : Int) (hv : (⟨(m : Int), x, data, tm⟩ : PacketD).wf) (hok : okPacket ⟨(m : Int), x, data, tm⟩ = true) (hp : p ≠ 0) (hR : RowAt w0 0 0 (wCells rootsL)) :
    Calls Tryd.prog 10 #[.pointer (some ⟨p, 0, none⟩), .string data, .int .i64 tm] w0 (SendQ w0 p bm x y m n D ⟨(m : Int), x, data, tm⟩) := by
  have O := (OwF.start (fun b => b = p) w0).add h.blk rfl (by simp)
  have H := Lib.hid h
  obtain ⟨v, hvd⟩ : ∃ v : PacketD, (⟨(m : Int), x, data, tm⟩ : PacketD) = v := ⟨_, rfl⟩
  have hb := bPkt v
  rw [← hvd] at hb
  dsimp only at hb
  rw [hvd] at hv hok hb ⊢
  have HV := Lib.hid hv; have BP := Lib.hid hb
  have CH := Lib.hid (fun w hR => cHash_ok v hv w hR)
  have HE := Lib.hid (show errP v = 0 by unfold errP; rw [hok]; rfl)
  have CR := Lib.hid (fun w (t : Tch (fun b => b = p) w0 w) => t.row hR (fun e => hp e.symm))
  have LX := Lib.hid (hashP_len v)
  obtain ⟨X, hX⟩ : ∃ z, hashP v = z := ⟨_, rfl⟩
  rw [hX] at CH LX
  rw [HE.out] at CH
  have CTX := Lib.hid (fun w => bText_ok X LX.out w)
  obtain ⟨S, hS⟩ : ∃ z : ByteArray, ⟨(hexL X).toArray⟩ = z := ⟨_, rfl⟩
  rw [hS] at CTX
  have CK := Lib.hid (fun w => (key_ok kCommit (by decide) m hm1 w).mono (fun e w' h => (⟨h.1, h.2 ▸ World.grownBy.refl _ _⟩ : e = .returned (.string (keyS kCommit m)) ∧ w.grownBy w' none)))
  have HMN := Lib.hid (show m < 100 ∧ n < 1000 from ⟨hm1, hn1⟩)
  obtain ⟨KK, hKK⟩ : ∃ z, keyS kCommit m = z := ⟨_, rfl⟩
  have HKS := Lib.hid (show KK.size ≤ maxLen by rw [← hKK]; unfold keyS; have := dig_size m; rw [ByteArray.size_append, ByteArray.size_append]; show 6 + 1 + (digS m).size ≤ 9223372036854775807; omega)
  rw [hKK] at CK
  unfold SendQ
  rw [hX, hS, hKK]
  have ewm := IntWalk.i64_in ((m : Int) + 1) (by omega)
  clear h hv hb hok hR hX hvd hS hp hKK hm1 hn1
  go_enter Tryd.func10, Tryd.ntmps10
  go_upto_region 3 with (first | ((with_reducible refine @wpList_at _ _ _ _ _ _ _ (.alloc 23) rfl ?_); refine @wpList_of_alloc _ _ _ _ _ _ _ _ _ _ 23 rfl ZPk ZPk_info O rfl ?_; clear O; intro b6 w O))
  replace O := O.drew
  refine wp_region_J (rdf [(3, p, 2, [(.int .i64 (m : Int))]), (7, p, 0, [(.string x)])]) [11, 12] (by kernel_rfl) (RdA.cons (O.cellr (n := 1) rfl rfl) (RdA.cons (O.cellr (n := 1) rfl rfl) RdA.nil)) (fun hH => ?_)
  refine jp 0 ((.pointer (some ⟨p, 0, none⟩))) (Still.all hH) ?_
  simp only [Act.put, jq1, jq2, jq3, jq4, jq5, jq6]
  refine jp 1 ((.pointer (some ⟨p, 0, none⟩))) (Still.all hH) ?_
  simp only [Act.put, jq1, jq2, jq3, jq4, jq5, jq6]
  refine jp 2 ((.pointer (some ⟨p, 2, none⟩))) (Still.all hH) ?_
  simp only [Act.put, jq1, jq2, jq3, jq4, jq5, jq6]
  refine jr 0 3 ((.int .i64 (m : Int))) rfl rfl (yields_cell (by rfl) 3 _ rfl p 2 rfl (.int .i64 (m : Int)) _ (fun W h => h) Tryd.underlying3 rfl) (Still.all hH) ?_
  simp only [Act.put, jq1, jq2, jq3, jq4, jq5, jq6]
  refine jp 4 ((.pointer (some ⟨p, 0, none⟩))) (Still.all hH) ?_
  simp only [Act.put, jq1, jq2, jq3, jq4, jq5, jq6]
  refine jp 5 ((.pointer (some ⟨p, 0, none⟩))) (Still.all hH) ?_
  simp only [Act.put, jq1, jq2, jq3, jq4, jq5, jq6]
  refine jp 6 ((.pointer (some ⟨p, 0, none⟩))) (Still.all hH) ?_
  simp only [Act.put, jq1, jq2, jq3, jq4, jq5, jq6]
  refine jr 1 7 ((.string x)) rfl rfl (yields_cell (by rfl) 9 _ rfl p 0 rfl (.string x) _ (fun W h => h) Tryd.underlying9 rfl) (Still.all hH) ?_
  simp only [Act.put, jq1, jq2, jq3, jq4, jq5, jq6]
  refine jp 8 ((.string data)) (Still.all hH) ?_
  simp only [Act.put, jq1, jq2, jq3, jq4, jq5, jq6]
  refine jp 9 ((.int .i64 tm)) (Still.all hH) ?_
  simp only [Act.put, jq1, jq2, jq3, jq4, jq5, jq6]
  refine jp 10 ((.agg v.cells.toArray)) (Still.all hH) ?_ (hy := (Or.inl ⟨by rfl, fun W _ => run_build_opC 23 _ rfl [(0, .int .i64 (m : Int)), (1, .string x), (2, .string data), (3, .int .i64 tm)] (by kernel_rfl) v.cells BP.out⟩))
  simp only [Act.put, jq1, jq2, jq3, jq4, jq5, jq6]
  refine wpAnyJ_ready (rs := [11]) (by kernel_rfl) (by simp) ?_
  refine AllJ.keep rfl (by rfl) (by rfl) (fun K hK => ?_) (AllJ.nil)
  refine wp_of_alloc 23 rfl ZPk ZPk_info O ?_
  clear O
  intro b8 u g1 O
  simp only [Act.put, jq1, jq2, jq3, jq4, jq5, jq6]
  refine hK.out _ _ (RdA.grown hH g1) ?_
  replace hH := RdA.grown hH g1
  clear hK K
  clear g1
  refine wpAnyJ_ready (rs := [12]) (by kernel_rfl) (by simp) ?_
  refine AllJ.turn rfl (by rfl) (by rfl) (fun K hK => ?_) (AllJ.nil)
  refine wp_of_store 23 _ _ rfl O 0 b8 rfl v.cells ZPk _ rfl rfl rfl (PacketD_one _) (PacketD.size v HV.out) ?_
  clear O
  intro u O
  simp only [List.set_cons_zero] at O
  simp only [Act.put, jq1, jq2, jq3, jq4, jq5, jq6]
  refine hK.out _ _ (waits_all (by kernel_rfl)) ?_
  clear hK K hH
  refine wpAnyJ_done (by kernel_rfl) ?_ _
  go_wp2_with (first | ((with_reducible refine @wpList_at _ _ _ _ _ _ _ (.load 23 (.tmp 8)) rfl ?_); refine @wpList_of_whole _ _ _ _ _ _ _ _ _ _ 23 (.tmp 8) rfl O 0 b8 rfl v.cells _ rfl _ Tryd.underlying23 rfl (PacketD.size v HV.out) rfl ?_))
  refine (CH.out _ (CR.out _ O.tch)).mono ?_
  rintro e w ⟨rfl, g⟩
  replace O := O.call g
  clear g
  go_upto_region 7 with (first | ((with_reducible refine @wpList_at _ _ _ _ _ _ _ (.alloc 33) rfl ?_); refine @wpList_of_alloc _ _ _ _ _ _ _ _ _ _ 33 rfl ZH ZH_info O rfl ?_; clear O; intro b9 w O) | ((with_reducible refine @wpList_at _ _ _ _ _ _ _ (.store 33 (.tmp 9) (.tmp 28)) rfl ?_); refine @wpList_of_store _ _ _ _ _ _ _ _ _ _ 33 (.tmp 9) (.tmp 28) rfl O 0 b9 rfl (Lib.byteCells X) ZH _ rfl rfl (by rw [Lib.byteCells_length, LX.out]; rfl) (oneCell_bytes _) (sizeH _ (by rw [Lib.byteCells_length, LX.out])) rfl ?_; clear O; intro w O; simp only [List.set_cons_zero] at O))
  replace O := O.drew
  refine wp_region_J (rdf [(3, p, 3, [(.map (some bm))]), (7, p, 2, [(.int .i64 (m : Int))]), (9, b9, 0, (Lib.byteCells X))]) [8, 10, 12] (by kernel_rfl) (RdA.cons (O.cellr (n := 3) rfl rfl) (RdA.cons (O.cellr (n := 3) rfl rfl) (RdA.cons (O.at_ 0 rfl).row RdA.nil))) (fun hH => ?_)
  refine jp 0 ((.pointer (some ⟨p, 0, none⟩))) (Still.all hH) ?_
  simp only [Act.put, jq1, jq2, jq3, jq4, jq5, jq6]
  refine jp 1 ((.pointer (some ⟨p, 0, none⟩))) (Still.all hH) ?_
  simp only [Act.put, jq1, jq2, jq3, jq4, jq5, jq6]
  refine jp 2 ((.pointer (some ⟨p, 3, none⟩))) (Still.all hH) ?_
  simp only [Act.put, jq1, jq2, jq3, jq4, jq5, jq6]
  refine jr 0 3 ((.map (some bm))) rfl rfl (yields_cell (by rfl) 62 _ rfl p 3 rfl (.map (some bm)) _ (fun W h => h) Tryd.underlying62 rfl) (Still.all hH) ?_
  simp only [Act.put, jq1, jq2, jq3, jq4, jq5, jq6]
  refine jp 4 ((.pointer (some ⟨p, 0, none⟩))) (Still.all hH) ?_
  simp only [Act.put, jq1, jq2, jq3, jq4, jq5, jq6]
  refine jp 5 ((.pointer (some ⟨p, 0, none⟩))) (Still.all hH) ?_
  simp only [Act.put, jq1, jq2, jq3, jq4, jq5, jq6]
  refine jp 6 ((.pointer (some ⟨p, 2, none⟩))) (Still.all hH) ?_
  simp only [Act.put, jq1, jq2, jq3, jq4, jq5, jq6]
  refine jr 1 7 ((.int .i64 (m : Int))) rfl rfl (yields_cell (by rfl) 3 _ rfl p 2 rfl (.int .i64 (m : Int)) _ (fun W h => h) Tryd.underlying3 rfl) (Still.all hH) ?_
  simp only [Act.put, jq1, jq2, jq3, jq4, jq5, jq6]
  refine jr 2 9 ((.agg ((Lib.byteCells X)).toArray)) rfl rfl (yieldsIf_load_mid (by rfl) 33 _ rfl b9 0 rfl (Lib.byteCells X) _ (fun W h => h) Tryd.underlying33 rfl (sizeH _ (by rw [Lib.byteCells_length, LX.out]))) (Still.all hH) ?_
  simp only [Act.put, jq1, jq2, jq3, jq4, jq5, jq6]
  refine wpAnyJ_ready (rs := [8]) (by kernel_rfl) (by simp) ?_
  refine AllJ.keep rfl (by rfl) (by rfl) (fun K hK => ?_) (AllJ.nil)
  refine wp_call 23 _ _ (by rfl) (enters Tryd.func23 (by kernel_rfl) rfl) (by rfl) (CK.out _) ?_
  rintro e u ⟨rfl, g1⟩
  refine ⟨_, rfl, ?_⟩
  replace O := O.call g1
  simp only [Act.put, jq1, jq2, jq3, jq4, jq5, jq6]
  refine hK.out _ _ (RdA.grown hH g1) ?_
  replace hH := RdA.grown hH g1
  clear hK K
  clear g1
  refine wpAnyJ_ready (rs := [10]) (by kernel_rfl) (by simp) ?_
  refine AllJ.keep rfl (by rfl) (by rfl) (fun K hK => ?_) (AllJ.nil)
  refine wp_call 22 _ _ (by rfl) (enters Tryd.func22 (by kernel_rfl) rfl) (by rfl) (CTX.out _) ?_
  rintro e u ⟨rfl, g1⟩
  refine ⟨_, rfl, ?_⟩
  replace O := O.call g1
  simp only [Act.put, jq1, jq2, jq3, jq4, jq5, jq6]
  refine hK.out _ _ (RdA.grown hH g1) ?_
  replace hH := RdA.grown hH g1
  clear hK K
  clear g1
  refine jp 11 ((itemV S)) (Still.all hH) ?_ (hy := (Or.inl ⟨by rfl, fun W _ => run_build_opC 72 _ rfl [(0, .string S)] (by kernel_rfl) [.string S] (bItem S)⟩))
  simp only [Act.put, jq1, jq2, jq3, jq4, jq5, jq6]
  refine wpAnyJ_ready (rs := [12]) (by kernel_rfl) (by simp) ?_
  refine AllJ.turn rfl (by rfl) (by rfl) (fun K hK => ?_) (AllJ.nil)
  have hm := ownsMap_tchC H.out.map O.tch (fun e => H.out.ne e.symm)
  obtain ⟨w4, hrun, hm4, ht4⟩ := hm.store strmap_keyed Tryd.underlying62 (by have := HMN.out.2; unfold maxLen; omega) (str_key KK HKS.out) (show heldS (itemV S) = some (.held _, []) from rfl)
  have HRUN := Lib.hid hrun; have HM4 := Lib.hid hm4; have HT4 := Lib.hid ht4.grown
  clear hm hrun hm4 ht4
  refine wp_mapPutC 62 _ _ _ rfl rfl rfl rfl HRUN.out ?_
  simp only [Act.put, jq1, jq2, jq3, jq4, jq5, jq6]
  refine hK.out _ _ (waits_all (by kernel_rfl)) ?_
  clear hK K hH
  refine wpAnyJ_done (by kernel_rfl) ?_ _
  have t4 := Tch.of_grown1 (F := fun b => b = bm) HT4.out rfl
  have hpb := H.out.ne; have hbl := H.out.map.lt; have hpl := H.out.blk.lt
  have n86 : b8 ≠ b6 := O.ne (i := 1) (j := 2) rfl rfl (by decide)
  have n8p : b8 ≠ p := O.ne (i := 1) (j := 3) rfl rfl (by decide)
  have n6p : b6 ≠ p := O.ne (i := 2) (j := 3) rfl rfl (by decide)
  have l8 : w0.heap.size ≤ b8 := (O.lie 1 rfl).resolve_right n8p
  have l6 : w0.heap.size ≤ b6 := (O.lie 2 rfl).resolve_right n6p
  have A1 := (O.tch.mono (G := fun b => b = p ∨ b = bm) (fun b hb _ => .inl hb)).trans t4 (fun b hb _ => .inr hb)
  have O4 := (((OwF.start (fun b => b = p ∨ b = b6 ∨ b = b8) w4).add (t4.blk (O.at_ 3 rfl) hpb) (.inl rfl) (by simp)).add (t4.blk (O.at_ 2 rfl) (by omega)) (.inr (.inl rfl)) (by simpa using n6p)).add (t4.blk (O.at_ 1 rfl) (by omega)) (.inr (.inr rfl)) (by simpa using ⟨n86, n8p⟩)
  have HA := Lib.hid A1; have HL8 := Lib.hid l8; have HL6 := Lib.hid l6
  clear t4 A1 O HT4 HRUN hpb hbl hpl n86 n8p n6p l8 l6
  go_wp2_with (first | ((with_reducible refine @wpList_at _ _ _ _ _ _ _ (.load 3 (.tmp 48)) rfl ?_); refine @wpList_of_cell _ _ _ _ _ _ _ _ _ _ 3 (.tmp 48) rfl O4 2 p 2 rfl _ _ rfl _ rfl _ Tryd.underlying3 rfl rfl ?_) | ((with_reducible refine @wpList_at _ _ _ _ _ _ _ (.store 3 (.tmp 52) (.tmp 50)) rfl ?_); refine @wpList_of_store_cell _ _ _ _ _ _ _ _ _ _ 3 (.tmp 52) (.tmp 50) rfl O4 2 p 2 rfl (.int .i64 ((m + 1 : Nat) : Int)) rfl (by kernel_rfl) _ _ rfl (by show (2 : Nat) < 4; decide) rfl rfl ?_; clear O4; intro w O4; simp only [List.set_cons_zero, List.set_cons_succ] at O4) | ((with_reducible refine @wpList_at _ _ _ _ _ _ _ (.load 23 (.tmp 8)) rfl ?_); refine @wpList_of_whole _ _ _ _ _ _ _ _ _ _ 23 (.tmp 8) rfl O4 0 b8 rfl v.cells _ rfl _ Tryd.underlying23 rfl (PacketD.size v HV.out) rfl ?_) | ((with_reducible refine @wpList_at _ _ _ _ _ _ _ (.store 23 (.tmp 6) (.tmp 53)) rfl ?_); refine @wpList_of_store _ _ _ _ _ _ _ _ _ _ 23 (.tmp 6) (.tmp 53) rfl O4 1 b6 rfl v.cells ZPk _ rfl rfl rfl (PacketD_one _) (PacketD.size v HV.out) rfl ?_; clear O4; intro w O4; simp only [List.set_cons_zero, List.set_cons_succ] at O4))
  refine bodyPost_ret (results_cell_tmp rfl _ _ ⟨b6, 0, none⟩ _ _ rfl rfl (run_loadVar_part _ _ _ 23 v.cells _ (O4.row_of (g := b6) (T := 23) (by simp)) Tryd.underlying23 rfl (PacketD.size v HV.out))) rfl ?_
  have l8 := HL8.out; have l6 := HL6.out; have hbl := H.out.map.lt; have hne := H.out.ne
  exact ⟨rfl, ⟨O4.at_ 2 rfl, ownsMap_tchC HM4.out O4.tch (by rintro (e | e | e) <;> omega), H.out.ne⟩, HA.out.trans O4.tch (by rintro b (rfl | rfl | rfl) hl <;> first | exact .inl rfl | omega)⟩

theorem grown_new_x : True := trivial
end Go.Proofs.YtlahdaanfhedoaaDoor
