/- Walks: a channel: Send, Entries; nunciolaw20's alive. -/
import Derived.Test.YtlahdaanfhedoaaDoorCh2
import Derived.Maps.RangeWalk
namespace Go.Proofs.YtlahdaanfhedoaaDoor
open Go.RowKit Go.Maps
set_option maxRecDepth 100000

section
variable {H : Type} {P : Program} {k : TypeId} {R : Value → Option (DataW H × List MemPlace)} {w w' : World} {b n : Nat} {D : DataW H} {G : Nat → Prop}
theorem ownsMap_tchC (h : w.ownsMap P k R b n D) (t : Tch G w w') (hb : ¬ G b) : w'.ownsMap P k R b n D := by
  have hlt := h.lt
  obtain ⟨es, clock, hq, F, hs, hD⟩ := h
  exact ⟨es, clock, (t.block b hlt hb).trans hq, F, hs, hD⟩
end
section
variable {P : Program} {o : Oper} {a : Act} {w : World} {K : Act → World → Prop} {Q : Exit → Act → World → Prop}
theorem wp_mapPutC (t : TypeId) (m k x : Operand) (ho : o.op = .mapUpdate t m k x) {mv kv xv : Value} {w1 : World} (hm : a.eval m = mv) (hk : a.eval k = kv) (hx : a.eval x = xv) (hrun : (Instr.mapUpdate t mv kv xv).run P w = .ok () w1) (h : K (a.put o.dst undef) w1) : o.wp P a w K Q := by
  unfold Oper.wp execOp
  simp only [ho, hm, hk, hx, Sem.run_bind, Sem.run_pure, Result.andThen_ok, hrun]
  exact h
end
theorem run_build_opC {P : Program} {o : Oper} {a : Act} {w : World} (t : TypeId) (parts : Array (Nat × Operand)) (ho : o.op = .build t parts)
    (ps : List (Nat × Value)) (hp : (parts.map fun (i, x) => (i, a.eval x)).toList = ps) (cs : List Value) (hb : P.built t ps = some cs.toArray) : (execOp a.eval o).run P w = .ok (.value (.agg cs.toArray)) w := by
  have hb' : P.built t (parts.map fun (i, x) => (i, a.eval x)).toList = some cs.toArray := by rw [hp]; exact hb
  unfold execOp
  simp only [ho, Sem.run_bind, run_build w t _ _ hb', Result.andThen_ok, Sem.run_pure]
def ZPk : List Value := [.int .i64 0, .string ⟨#[]⟩, .string ⟨#[]⟩, .int .i64 0]
theorem ZPk_info : (Tryd.prog.info? 23).map (fun i => i.zero.map (fun v => v.cells)) = some (some ZPk.toArray) := by kernel_rfl
theorem bPkt (v : PacketD) : Tryd.prog.built 23 [(0, .int .i64 v.seq), (1, .string v.from_), (2, .string v.data), (3, .int .i64 v.timeout)] = some v.cells.toArray := by obtain ⟨a, b, c, d⟩ := v; kernel_rfl
theorem PacketD_one (v : PacketD) : ∀ x ∈ v.cells, x.oneCell' = true := by simp [PacketD.cells, Value.oneCell']
theorem bItem (s : ByteArray) : Tryd.prog.built 72 [(0, .string s)] = some #[.string s] := by kernel_rfl
def itemV (s : ByteArray) : Value := .agg #[.string s]
/-- a map of one entry -/
def oneD (k s : ByteArray) : DataW Value := (DataW.map []).put (.string k.data.toList) (.held (itemV s))
def SendP (w0 : World) (p bm : Nat) (x y : ByteArray) (v : PacketD) (e : Ending) (w' : World) : Prop :=
  e = .returned (.tuple #[.agg v.cells.toArray, .int .i64 0]) ∧ (∃ s : ByteArray, ChRep w' p bm x y 2 1 (oneD kCommit1 s)) ∧ Tch (fun b => b = p ∨ b = bm) w0 w'
set_option maxHeartbeats 8000000 in
theorem send1_ok {w0 : World} {p bm : Nat} {x y : ByteArray} (h : ChRep w0 p bm x y 1 0 (.map [])) (data : ByteArray) (tm : Int) (hv : (⟨1, x, data, tm⟩ : PacketD).wf) (hok : okPacket ⟨1, x, data, tm⟩ = true) (hp : p ≠ 0) (hR : RowAt w0 0 0 (wCells rootsL)) :
    Calls Tryd.prog 10 #[.pointer (some ⟨p, 0, none⟩), .string data, .int .i64 tm] w0 (SendP w0 p bm x y ⟨1, x, data, tm⟩) := by
  have O := (OwF.start (fun b => b = p) w0).add h.blk rfl (by simp)
  have H := Lib.hid h
  obtain ⟨v, hvd⟩ : ∃ v : PacketD, (⟨1, x, data, tm⟩ : PacketD) = v := ⟨_, rfl⟩
  have hb := bPkt v
  rw [← hvd] at hb
  dsimp only at hb
  rw [hvd] at hv hok hb ⊢
  have HV := Lib.hid hv; have BP := Lib.hid hb
  have CH := Lib.hid (fun w hR => cHash_ok v hv w hR)
  have HE := Lib.hid (show errP v = 0 by unfold errP; rw [hok]; rfl)
  have CR := Lib.hid (fun w (t : Tch (fun b => b = p) w0 w) => t.row hR (fun e => hp e.symm))
  have LX := Lib.hid (hashP_len v)
  obtain ⟨X, hX⟩ : ∃ z, hashP v = z := ⟨_, rfl⟩
  rw [hX] at CH LX
  rw [HE.out] at CH
  have CTX := Lib.hid (fun w => bText_ok X LX.out w)
  obtain ⟨S, hS⟩ : ∃ z : ByteArray, ⟨(hexL X).toArray⟩ = z := ⟨_, rfl⟩
  rw [hS] at CTX
  have CK := Lib.hid key1_ok
  clear h hv hb hok hR hX hvd hS hp
  go_enter Tryd.func10, Tryd.ntmps10
  go_upto_region 3 with (first | ((with_reducible refine @wpList_at _ _ _ _ _ _ _ (.alloc 23) rfl ?_); refine @wpList_of_alloc _ _ _ _ _ _ _ _ _ _ 23 rfl ZPk ZPk_info O rfl ?_; clear O; intro b6 w O))
  replace O := O.drew
  refine wp_region_J (rdf [(3, p, 2, [(.int .i64 1)]), (7, p, 0, [(.string x)])]) [11, 12] (by kernel_rfl) (RdA.cons (O.cellr (n := 1) rfl rfl) (RdA.cons (O.cellr (n := 1) rfl rfl) RdA.nil)) (fun hH => ?_)
  refine jp 0 ((.pointer (some ⟨p, 0, none⟩))) (Still.all hH) ?_
  simp only [Act.put, jq1, jq3, jq4, jq5, jq6]
  refine jp 1 ((.pointer (some ⟨p, 0, none⟩))) (Still.all hH) ?_
  simp only [Act.put, jq1, jq2, jq3, jq4, jq5, jq6]
  refine jp 2 ((.pointer (some ⟨p, 2, none⟩))) (Still.all hH) ?_
  simp only [Act.put, jq1, jq2, jq3, jq4, jq5, jq6]
  refine jr 0 3 ((.int .i64 1)) rfl rfl (yields_cell (by rfl) 3 _ rfl p 2 rfl (.int .i64 1) _ (fun W h => h) Tryd.underlying3 rfl) (Still.all hH) ?_
  simp only [Act.put, jq1, jq2, jq3, jq4, jq5, jq6]
  refine jp 4 ((.pointer (some ⟨p, 0, none⟩))) (Still.all hH) ?_
  simp only [Act.put, jq1, jq2, jq3, jq4, jq5, jq6]
  refine jp 5 ((.pointer (some ⟨p, 0, none⟩))) (Still.all hH) ?_
  simp only [Act.put, jq1, jq2, jq3, jq4, jq5, jq6]
  refine jp 6 ((.pointer (some ⟨p, 0, none⟩))) (Still.all hH) ?_
  simp only [Act.put, jq1, jq2, jq3, jq4, jq5, jq6]
  refine jr 1 7 ((.string x)) rfl rfl (yields_cell (by rfl) 9 _ rfl p 0 rfl (.string x) _ (fun W h => h) Tryd.underlying9 rfl) (Still.all hH) ?_
  simp only [Act.put, jq1, jq2, jq3, jq4, jq5, jq6]
  refine jp 8 ((.string data)) (Still.all hH) ?_
  simp only [Act.put, jq1, jq2, jq3, jq4, jq5, jq6]
  refine jp 9 ((.int .i64 tm)) (Still.all hH) ?_
  simp only [Act.put, jq1, jq2, jq3, jq4, jq5, jq6]
  refine jp 10 ((.agg v.cells.toArray)) (Still.all hH) ?_ (hy := (Or.inl ⟨by rfl, fun W _ => run_build_opC 23 _ rfl [(0, .int .i64 1), (1, .string x), (2, .string data), (3, .int .i64 tm)] (by kernel_rfl) v.cells BP.out⟩))
  simp only [Act.put, jq1, jq2, jq3, jq4, jq5, jq6]
  refine wpAnyJ_ready (rs := [11]) (by kernel_rfl) (by simp) ?_
  refine AllJ.keep rfl (by rfl) (by rfl) (fun K hK => ?_) (AllJ.nil)
  refine wp_of_alloc 23 rfl ZPk ZPk_info O ?_
  clear O
  intro b8 u g1 O
  simp only [Act.put, jq1, jq2, jq3, jq4, jq5, jq6]
  refine hK.out _ _ (RdA.grown hH g1) ?_
  replace hH := RdA.grown hH g1
  clear hK K
  clear g1
  refine wpAnyJ_ready (rs := [12]) (by kernel_rfl) (by simp) ?_
  refine AllJ.turn rfl (by rfl) (by rfl) (fun K hK => ?_) (AllJ.nil)
  refine wp_of_store 23 _ _ rfl O 0 b8 rfl v.cells ZPk _ rfl rfl rfl (PacketD_one _) (PacketD.size v HV.out) ?_
  clear O
  intro u O
  simp only [List.set_cons_zero] at O
  simp only [Act.put, jq1, jq3]
  refine hK.out _ _ (waits_all (by kernel_rfl)) ?_
  clear hK K hH
  refine wpAnyJ_done (by kernel_rfl) ?_ _
  go_wp2_with (first | ((with_reducible refine @wpList_at _ _ _ _ _ _ _ (.load 23 (.tmp 8)) rfl ?_); refine @wpList_of_whole _ _ _ _ _ _ _ _ _ _ 23 (.tmp 8) rfl O 0 b8 rfl v.cells _ rfl _ Tryd.underlying23 rfl (PacketD.size v HV.out) rfl ?_))
  refine (CH.out _ (CR.out _ O.tch)).mono ?_
  rintro e w ⟨rfl, g⟩
  replace O := O.call g
  clear g
  go_upto_region 7 with (first | ((with_reducible refine @wpList_at _ _ _ _ _ _ _ (.alloc 33) rfl ?_); refine @wpList_of_alloc _ _ _ _ _ _ _ _ _ _ 33 rfl ZH ZH_info O rfl ?_; clear O; intro b9 w O) | ((with_reducible refine @wpList_at _ _ _ _ _ _ _ (.store 33 (.tmp 9) (.tmp 28)) rfl ?_); refine @wpList_of_store _ _ _ _ _ _ _ _ _ _ 33 (.tmp 9) (.tmp 28) rfl O 0 b9 rfl (Lib.byteCells X) ZH _ rfl rfl (by rw [Lib.byteCells_length, LX.out]; rfl) (oneCell_bytes _) (sizeH _ (by rw [Lib.byteCells_length, LX.out])) rfl ?_; clear O; intro w O; simp only [List.set_cons_zero] at O))
  replace O := O.drew
  refine wp_region_J (rdf [(3, p, 3, [(.map (some bm))]), (7, p, 2, [(.int .i64 1)]), (9, b9, 0, (Lib.byteCells X))]) [8, 10, 12] (by kernel_rfl) (RdA.cons (O.cellr (n := 3) rfl rfl) (RdA.cons (O.cellr (n := 3) rfl rfl) (RdA.cons (O.at_ 0 rfl).row RdA.nil))) (fun hH => ?_)
  refine jp 0 ((.pointer (some ⟨p, 0, none⟩))) (Still.all hH) ?_
  simp only [Act.put, jq1, jq2, jq3]
  refine jp 1 ((.pointer (some ⟨p, 0, none⟩))) (Still.all hH) ?_
  simp only [Act.put, jq1, jq2, jq3, jq4, jq5, jq6]
  refine jp 2 ((.pointer (some ⟨p, 3, none⟩))) (Still.all hH) ?_
  simp only [Act.put, jq1, jq4]
  refine jr 0 3 ((.map (some bm))) rfl rfl (yields_cell (by rfl) 62 _ rfl p 3 rfl (.map (some bm)) _ (fun W h => h) Tryd.underlying62 rfl) (Still.all hH) ?_
  simp only [Act.put, jq1, jq2, jq3, jq4, jq5, jq6]
  refine jp 4 ((.pointer (some ⟨p, 0, none⟩))) (Still.all hH) ?_
  simp only [Act.put, jq1, jq2, jq3, jq4, jq5, jq6]
  refine jp 5 ((.pointer (some ⟨p, 0, none⟩))) (Still.all hH) ?_
  simp only [Act.put, jq1, jq2, jq3, jq4, jq5, jq6]
  refine jp 6 ((.pointer (some ⟨p, 2, none⟩))) (Still.all hH) ?_
  simp only [Act.put, jq1, jq2, jq3, jq4, jq5, jq6]
  refine jr 1 7 ((.int .i64 1)) rfl rfl (yields_cell (by rfl) 3 _ rfl p 2 rfl (.int .i64 1) _ (fun W h => h) Tryd.underlying3 rfl) (Still.all hH) ?_
  simp only [Act.put, jq1, jq2, jq3, jq4, jq5, jq6]
  refine jr 2 9 ((.agg ((Lib.byteCells X)).toArray)) rfl rfl (yieldsIf_load_mid (by rfl) 33 _ rfl b9 0 rfl (Lib.byteCells X) _ (fun W h => h) Tryd.underlying33 rfl (sizeH _ (by rw [Lib.byteCells_length, LX.out]))) (Still.all hH) ?_
  simp only [Act.put, jq1, jq2, jq3, jq4, jq5, jq6]
  refine wpAnyJ_ready (rs := [8]) (by kernel_rfl) (by simp) ?_
  refine AllJ.keep rfl (by rfl) (by rfl) (fun K hK => ?_) (AllJ.nil)
  refine wp_call 23 _ _ (by rfl) (enters Tryd.func23 (by kernel_rfl) rfl) (by rfl) (CK.out _) ?_
  rintro e u ⟨rfl, g1⟩
  refine ⟨_, rfl, ?_⟩
  replace O := O.call g1
  simp only [Act.put, jq1, jq2, jq3, jq4, jq5, jq6]
  refine hK.out _ _ (RdA.grown hH g1) ?_
  replace hH := RdA.grown hH g1
  clear hK K
  clear g1
  refine wpAnyJ_ready (rs := [10]) (by kernel_rfl) (by simp) ?_
  refine AllJ.keep rfl (by rfl) (by rfl) (fun K hK => ?_) (AllJ.nil)
  refine wp_call 22 _ _ (by rfl) (enters Tryd.func22 (by kernel_rfl) rfl) (by rfl) (CTX.out _) ?_
  rintro e u ⟨rfl, g1⟩
  refine ⟨_, rfl, ?_⟩
  replace O := O.call g1
  simp only [Act.put, jq1, jq2, jq3, jq4, jq5, jq6]
  refine hK.out _ _ (RdA.grown hH g1) ?_
  replace hH := RdA.grown hH g1
  clear hK K
  clear g1
  refine jp 11 ((itemV S)) (Still.all hH) ?_ (hy := (Or.inl ⟨by rfl, fun W _ => run_build_opC 72 _ rfl [(0, .string S)] (by kernel_rfl) [.string S] (bItem S)⟩))
  simp only [Act.put, jq1, jq2, jq3, jq4, jq5, jq6]
  refine wpAnyJ_ready (rs := [12]) (by kernel_rfl) (by simp) ?_
  refine AllJ.turn rfl (by rfl) (by rfl) (fun K hK => ?_) (AllJ.nil)
  have hm := ownsMap_tchC H.out.map O.tch (fun e => H.out.ne e.symm)
  obtain ⟨w4, hrun, hm4, ht4⟩ := hm.store strmap_keyed Tryd.underlying62 (by unfold maxLen; decide) (str_key kCommit1 (by unfold maxLen kCommit1; decide)) (show heldS (itemV S) = some (.held _, []) from rfl)
  have HRUN := Lib.hid hrun; have HM4 := Lib.hid hm4; have HT4 := Lib.hid ht4.grown
  clear hm hrun hm4 ht4
  refine wp_mapPutC 62 _ _ _ rfl rfl rfl rfl HRUN.out ?_
  simp only [Act.put, jq1, jq2, jq3, jq4, jq5, jq6]
  refine hK.out _ _ (waits_all (by kernel_rfl)) ?_
  clear hK K hH
  refine wpAnyJ_done (by kernel_rfl) ?_ _
  have t4 := Tch.of_grown1 (F := fun b => b = bm) HT4.out rfl
  have hpb := H.out.ne; have hbl := H.out.map.lt; have hpl := H.out.blk.lt
  have n86 : b8 ≠ b6 := O.ne (i := 1) (j := 2) rfl rfl (by decide)
  have n8p : b8 ≠ p := O.ne (i := 1) (j := 3) rfl rfl (by decide)
  have n6p : b6 ≠ p := O.ne (i := 2) (j := 3) rfl rfl (by decide)
  have l8 : w0.heap.size ≤ b8 := (O.lie 1 rfl).resolve_right n8p
  have l6 : w0.heap.size ≤ b6 := (O.lie 2 rfl).resolve_right n6p
  have A1 := (O.tch.mono (G := fun b => b = p ∨ b = bm) (fun b hb _ => .inl hb)).trans t4 (fun b hb _ => .inr hb)
  have O4 := (((OwF.start (fun b => b = p ∨ b = b6 ∨ b = b8) w4).add (t4.blk (O.at_ 3 rfl) hpb) (.inl rfl) (by simp)).add (t4.blk (O.at_ 2 rfl) (by omega)) (.inr (.inl rfl)) (by simpa using n6p)).add (t4.blk (O.at_ 1 rfl) (by omega)) (.inr (.inr rfl)) (by simpa using ⟨n86, n8p⟩)
  have HA := Lib.hid A1; have HL8 := Lib.hid l8; have HL6 := Lib.hid l6
  clear t4 A1 O HT4 HRUN hpb hbl hpl n86 n8p n6p l8 l6
  go_wp2_with (first | ((with_reducible refine @wpList_at _ _ _ _ _ _ _ (.load 3 (.tmp 48)) rfl ?_); refine @wpList_of_cell _ _ _ _ _ _ _ _ _ _ 3 (.tmp 48) rfl O4 2 p 2 rfl _ _ rfl _ rfl _ Tryd.underlying3 rfl rfl ?_) | ((with_reducible refine @wpList_at _ _ _ _ _ _ _ (.store 3 (.tmp 52) (.tmp 50)) rfl ?_); refine @wpList_of_store_cell _ _ _ _ _ _ _ _ _ _ 3 (.tmp 52) (.tmp 50) rfl O4 2 p 2 rfl (.int .i64 2) rfl (by kernel_rfl) _ _ rfl (by show (2 : Nat) < 4; decide) rfl rfl ?_; clear O4; intro w O4; simp only [List.set_cons_zero, List.set_cons_succ] at O4) | ((with_reducible refine @wpList_at _ _ _ _ _ _ _ (.load 23 (.tmp 8)) rfl ?_); refine @wpList_of_whole _ _ _ _ _ _ _ _ _ _ 23 (.tmp 8) rfl O4 0 b8 rfl v.cells _ rfl _ Tryd.underlying23 rfl (PacketD.size v HV.out) rfl ?_) | ((with_reducible refine @wpList_at _ _ _ _ _ _ _ (.store 23 (.tmp 6) (.tmp 53)) rfl ?_); refine @wpList_of_store _ _ _ _ _ _ _ _ _ _ 23 (.tmp 6) (.tmp 53) rfl O4 1 b6 rfl v.cells ZPk _ rfl rfl rfl (PacketD_one _) (PacketD.size v HV.out) rfl ?_; clear O4; intro w O4; simp only [List.set_cons_zero, List.set_cons_succ] at O4))
  refine bodyPost_ret (results_cell_tmp rfl _ _ ⟨b6, 0, none⟩ _ _ rfl rfl (run_loadVar_part _ _ _ 23 v.cells _ (O4.row_of (g := b6) (T := 23) (by simp)) Tryd.underlying23 rfl (PacketD.size v HV.out))) rfl ?_
  have l8 := HL8.out; have l6 := HL6.out; have hbl := H.out.map.lt; have hne := H.out.ne
  exact ⟨rfl, ⟨S, O4.at_ 2 rfl, ownsMap_tchC HM4.out O4.tch (by rintro (e | e | e) <;> omega), H.out.ne⟩, HA.out.trans O4.tch (by rintro b (rfl | rfl | rfl) hl <;> first | exact .inl rfl | omega)⟩

theorem grown_new_ {w0 w w' : World} {r : Nat} (g : w0.grownBy w none) (h : w.grownBy w' (some r)) (hr : w0.heap.size ≤ r) : w0.grownBy w' none := World.grownBy.andThen g h (fun j hj => by cases hj; exact Or.inl hr)
abbrev K1 : Lit := .string kCommit1.data.toList
theorem k1_lit : WideAt.IsKeyLit K1 := trivial
theorem one_has (s : ByteArray) (kl : Lit) (h : has (oneD kCommit1 s) kl = true) : kl = K1 := by
  by_cases e : kl = K1
  · exact e
  · unfold oneD at h
    rw [has_put_other e] at h
    cases h
theorem one_mem (s : ByteArray) : has (oneD kCommit1 s) K1 = true := has_put_same ⟨[], rfl⟩ k1_lit _
theorem one_at (s : ByteArray) (z : DataW Value) : (oneD kCommit1 s).atKey K1 z = .held (itemV s) := atKey_put_same ⟨[], rfl⟩ k1_lit _ _
def ZIt : List Value := [.string ⟨#[]⟩]
theorem ZIt_info : (Tryd.prog.info? 72).map (fun i => i.zero.map (fun v => v.cells)) = some (some ZIt.toArray) := by kernel_rfl
theorem bEnt (k s : ByteArray) : Tryd.prog.built 57 [(0, .string k), (1, .string s)] = some #[.string k, .string s] := by kernel_rfl
theorem ent_i : (Tryd.prog.info? 57).map (fun i => (i.zero, i.size, i.bytes)) = some (some (.agg #[.string ⟨#[]⟩, .string ⟨#[]⟩]), 2, 32) := by kernel_rfl
theorem ent_i2 : (Tryd.prog.info? 57).map (fun i => (i.zero, i.size)) = some (some (.agg #[.string ⟨#[]⟩, .string ⟨#[]⟩]), 2) := by kernel_rfl
def EntP (w0 : World) (s : ByteArray) (e : Ending) (w' : World) : Prop := ∃ g o c, e = .returned (.slice (some ⟨g, o, none⟩) 1 c) ∧ 1 ≤ c ∧ RowAt w' g o [.string kCommit1, .string s] ∧ w0.grownBy w' none
set_option maxHeartbeats 4000000 in
theorem entries1_ok {w0 : World} {p bm : Nat} {x y s : ByteArray} {next : Int} (h : ChRep w0 p bm x y next 1 (oneD kCommit1 s)) : Calls Tryd.prog 11 #[.pointer (some ⟨p, 0, none⟩)] w0 (EntP w0 s) := by
  have c3 := h.blk.row 3 _ rfl
  rw [Nat.zero_add] at c3
  have HM := Lib.hid h.map
  have CS := Lib.hid (fun ao c w => sort1_ok ao c (.func (.func 25) #[] #[]) w)
  clear h
  go_enter Tryd.func11, Tryd.ntmps11
  go_wp2_with (first | (at_range; refine wpList_range_own _ rfl _ 62 rfl 9 72 strmap_keyed Tryd.underlying62 _ bm 1 (oneD kCommit1 s) rfl HM.out ?_; intro w2 hrg2 hg2 hs2) | go_in)
  have RG := Lib.hid hrg2; have G2 := Lib.hid hg2
  clear hrg2 hg2 hs2 c3
  go_frame
  go_loopw [3] (fun v wr => ∃ left cnt, wr.ranges Tryd.prog 9 heldS bm w0.heap.size 1 (oneD kCommit1 s) left cnt ∧ w0.grownBy wr none ∧ ((v = .slice none 0 0 ∧ left K1 = true) ∨ (SRow wr 57 2 v 1 [.string kCommit1, .string s] ∧ left K1 = false))) (fun _ wr => wr.rangeLeft bm w0.heap.size)
  case atStart => exact ⟨_, _, RG.out, G2.out, .inl ⟨rfl, one_mem s⟩⟩
  case round =>
    obtain ⟨left, cnt, hrg, hg, hv⟩ := hrel
    have RG0 := Lib.hid hrg; have HG := Lib.hid hg
    clear hrg hg RG G2
    rcases hv with ⟨rfl, hl⟩ | ⟨hv, hl⟩
    · have HL := Lib.hid hl
      clear hl
      go_wp2_with (at_next; refine wpList_next_ranges (α := ByteArray) (β := Value) _ rfl _ rfl 9 strmap_keyed heldS Value.string id (fun key kl hk => by obtain ⟨x, hx, _⟩ := Go.WideMaps.string_of_keyOf Tryd.underlying9 hk; exact ⟨x, hx⟩) (fun v _ _ => ⟨v, rfl⟩) bm w0.heap.size 1 _ _ _ rfl RG0.out ?_ ?_)
      · intro _ hall
        have := hall K1
        rw [HL.out] at this
        cases this
      · intro z c kl yy yp w3 cnt' hkey hlk hv hat hrg' hlt hgr hsz' hen
        have hh : has (oneD kCommit1 s) kl = true := has_true_of_atKey hat
        obtain rfl := one_has s kl hh
        obtain ⟨z', e1, e2, _⟩ := Go.WideMaps.string_of_keyOf Tryd.underlying9 hkey
        obtain rfl : z = z' := by injection e1
        obtain rfl : z = kCommit1 := by
          have e3 : kCommit1.data.toList = z.data.toList := by injection e2
          cases z with
          | mk d => exact congrArg ByteArray.mk (Array.ext' e3.symm)
        obtain rfl : c = itemV s := by
          have e4 := hat .nil
          rw [one_at] at e4
          unfold heldS at hv
          injection hv with hv
          injection hv with hv _
          rw [← hv] at e4
          injection e4 with e4
          exact e4.symm
        have G3 := Lib.hid (grown_new_ HG.out hgr (Nat.le_refl _)); have RG3 := Lib.hid hrg'
        have CT := Lib.hid hlt; have CE := Lib.hid (RG0.out.left_eq); have HLK := Lib.hid hlk
        have O := OwF.start (fun _ => False) w3
        clear hkey hlk hv hat hrg' hlt hgr hsz' hh e1 e2 RG0 HG
        go_wp2_with (first | ((with_reducible refine @wpList_at _ _ _ _ _ _ _ (.alloc 72) rfl ?_); refine @wpList_of_alloc _ _ _ _ _ _ _ _ _ _ 72 rfl ZIt ZIt_info O rfl ?_; clear O; intro b5 w O) | ((with_reducible refine @wpList_at _ _ _ _ _ _ _ (.store 72 (.tmp 5) (.tmp 17)) rfl ?_); refine @wpList_of_store _ _ _ _ _ _ _ _ _ _ 72 (.tmp 5) (.tmp 17) rfl O 0 b5 rfl [.string s] ZIt _ rfl rfl rfl (by simp [Value.oneCell']) rfl rfl ?_; clear O; intro w O; simp only [List.set_cons_zero] at O) | ((with_reducible refine @wpList_at _ _ _ _ _ _ _ (.load 9 (.tmp 20)) rfl ?_); refine @wpList_of_cell _ _ _ _ _ _ _ _ _ _ 9 (.tmp 20) rfl O 0 b5 0 rfl _ _ rfl _ rfl _ Tryd.underlying9 rfl rfl ?_) | (refine wpList_build_eq rfl 57 _ rfl [(0, .string kCommit1), (1, .string s)] (by kernel_rfl) [.string kCommit1, .string s] (bEnt _ _) ?_) | (refine wpList_of_slice1 47 _ rfl [.string kCommit1, .string s] rfl 57 _ 2 Tryd.underlying47 ent_i2 rfl (by decide) O rfl ?_; clear O; intro bs w O) | (refine wpList_of_app _ _ 47 rfl 57 _ 2 32 Tryd.underlying47 ent_i rfl _ 0 [] rfl (SRow.nil _ _ _) bs rfl [.string kCommit1, .string s] (O.at_ 0 rfl).row rfl (by simp [Value.oneCell']) (by decide) (by decide) rfl ?_; intro v' w' hs' ht' hb'))
        have gg := (O.tch.grown (fun _ h => h.elim)).trans ((ht'.mono (G := fun _ => False) (fun b hb _ => by cases hb)).grown (fun _ h => h.elim))
        have RG4 := RG3.out.kept gg (by simp) (by simp)
        exact ⟨⟨_, _, RG4, G3.out.trans gg, .inr ⟨hs', by simp [HLK.out, Lit.sameKey]⟩⟩, by rw [RG4.left_eq, CE.out]; exact CT.out⟩
    · have HL := Lib.hid hl
      obtain ⟨g, o, c, rfl, hc1, _, _, hr⟩ := hv.at_ (by decide)
      have HR := Lib.hid hr; have HC := Lib.hid hc1; have HV := Lib.hid hv
      clear hl hr hc1 hv
      go_wp2_with (at_next; refine wpList_next_ranges (α := ByteArray) (β := Value) _ rfl _ rfl 9 strmap_keyed heldS Value.string id (fun key kl hk => by obtain ⟨x, hx, _⟩ := Go.WideMaps.string_of_keyOf Tryd.underlying9 hk; exact ⟨x, hx⟩) (fun v _ _ => ⟨v, rfl⟩) bm w0.heap.size 1 _ _ _ rfl RG0.out ?_ ?_)
      · intro _ _
        go_wp2_with fail
        refine (CS.out _ _ _).mono ?_
        rintro e w ⟨rfl, rfl⟩
        go_wp2_with fail
        go_ret
        exact ⟨g, o, c, rfl, HC.out, HR.out, HG.out⟩
      · intro z c2 kl yy yp w3 cnt' hkey hlk hv hat hrg' hlt hgr hsz' hen
        obtain rfl := one_has s kl (has_true_of_atKey hat)
        rw [HL.out] at hlk
        cases hlk

end Go.Proofs.YtlahdaanfhedoaaDoor
