/- Walk: a signer signs. -/
import Derived.Test.YtcbkehnlgpcelaaGreatDoorSg6
namespace Go.Proofs.YtcbkehnlgpcelaaGreatDoor
open Go.RowKit
set_option maxRecDepth 100000

section
variable {P : Program}
theorem built_preS (t : TypeId) (fields : Array Field) (places : List (Nat × Nat)) (vs : List Value) (z mid post : List Value) (hu : P.underlying t = some (.struct fields))
    (hp : fields.toList.mapM (fun f => (P.info? f.type).map fun i => (f.offset, i.size)) = some places)
    (hz : (P.info? t).map (fun i => i.zero.map (fun v => v.cells)) = some (some z.toArray)) (he : z = mid ++ post) (hm : mid.length = (flatCells vs).length)
    (hl : Laid (places.toArray[·]?) 0 0 vs) : P.built t ((vs.zipIdx 0).map fun x => (x.2, x.1)) = some (flatCells vs ++ post).toArray := by
  subst he
  unfold Program.built
  cases hi : P.info? t with
  | none => simp [hi] at hz
  | some it =>
    cases hzz : it.zero with
    | none => simp [hi, hzz] at hz
    | some v =>
      have hs : v.cells = (mid ++ post).toArray := by simpa [hi, hzz] using hz
      simp only [hu, hp, hzz, hs]
      have := fill_laid (places.toArray[·]?) vs 0 [] mid post hl hm
      simpa using this
theorem yields_eql {ops : Array Oper} {F : World → Prop} {o : Oper} {a : Act} (hgd : Region.wanted o (yielded ops a.tmps) = true) (t u : TypeId) (x y : Operand) (ho : o.op = .binOp .eql t x y u)
    (xs ys ks : List Value) (hx : a.eval x = .agg xs.toArray) (hy : a.eval y = .agg ys.toArray) (h : flat P 20 t = some ks) (fx : Fits ks xs = true) (fy : Fits ks ys = true)
    (hd : (P.underlying t).map (fun d => match d with | .struct _ | .array _ _ => true | _ => false) = some true) (hm : P.eqGuardType P.depth t = false)
    (b : Bool) (hb : VEq xs ys = b) : YieldsIf P ops F o (.bool b) a := by
  refine Or.inl ⟨hgd, fun W _ => ?_⟩
  unfold execOp
  simp only [ho, hx, hy, Sem.run_bind, Sem.run_pure, Result.andThen_ok, run_eqGuard_agg W .eql t x y xs.toArray ys.toArray hm, (run_eql_flat h xs ys W fx fy hd).1, hb]
end
section
variable {F : Nat → Prop} {w0 w : World} {L : List (Nat × List Value × TypeId)} {g : Nat} {cs : List Value} {T : TypeId}
/-- a block of F that was there before -/
theorem OwF.old (O : OwF (fun _ => False) w0 w L) (h : Blk w0 g cs T) (hF : F g) : OwF F w0 w ((g, cs, T) :: L) :=
  ⟨O.tch.mono (fun _ h _ => h.elim), fun e he => by
    rcases List.mem_cons.1 he with rfl | he
    · exact h.grown (O.tch.grown (fun _ h => h.elim)) (by simp)
    · exact O.blk e he, fun e he => by
    rcases List.mem_cons.1 he with rfl | he
    · exact .inr hF
    · exact (O.ok e he).imp id (fun h => h.elim), List.Pairwise.cons (fun e he => by
      have h1 := (O.ok e he).resolve_right id
      have h2 := h.lt
      dsimp only
      omega) O.nodup⟩
end
theorem vote_inf : (Tryz.prog.info? 40).map (fun i => (i.zero, i.size, i.bytes)) = some (some (.agg ZVote.toArray), 39, 96) := by kernel_rfl
theorem vote_inf2 : (Tryz.prog.info? 40).map (fun i => (i.zero, i.size)) = some (some (.agg ZVote.toArray), 39) := by kernel_rfl
def voteOf (c : ByteArray) (h r t : Int) (b : List UInt8) : VoteD := ⟨c, h, r, t, b, 0, 0, 0⟩
theorem voteOf_wf {c : ByteArray} {h r t : Int} {b : List UInt8} (hc : nameL c.data.toList = true) (hh : i64R h) (hr : i64R r) (ht : i64R t) (hb : b.length = 32) : (voteOf c h r t b).wf := by
  have h1 : c.size ≤ 16 := by have := (nameL_len hc).2; simpa using this
  exact ⟨Nat.le_trans h1 (by unfold maxLen; decide), hh, hr, ht, hb, ⟨by simp [voteOf], by simp [voteOf]⟩, ⟨by simp [voteOf], by simp [voteOf]⟩, ⟨by simp [voteOf], by simp [voteOf]⟩⟩
theorem bVoteP (c : ByteArray) (h r t : Int) (l : List UInt8) (hl : l.length = 32) : Tryz.prog.built 40 [(0, .string c), (1, .int .i64 h), (2, .int .i64 r), (3, .int .i64 t), (4, .agg (Lib.byteCells l).toArray)] = some (voteOf c h r t l).cells.toArray := by
  have hb := built_preS (P := Tryz.prog) 40 _ [(0, 1), (1, 1), (2, 1), (3, 1), (4, 32), (36, 1), (37, 2)] [.string c, .int .i64 h, .int .i64 r, .int .i64 t, .agg (Lib.byteCells l).toArray] ZVote (ZVote.take 36) [.int .u64 0, .int .u64 0, .int .u64 0] Tryz.underlying40 (by kernel_rfl) ZVote_info rfl
    (by simp [flatCells, Value.cells, Lib.byteCells_length, hl]; rfl) ⟨rfl, rfl, rfl, rfl, by simp [Value.cells, Lib.byteCells_length, hl], trivial⟩
  have e : flatCells [.string c, .int .i64 h, .int .i64 r, .int .i64 t, .agg (Lib.byteCells l).toArray] ++ [.int .u64 0, .int .u64 0, .int .u64 0] = (voteOf c h r t l).cells := by simp [flatCells, Value.cells, VoteD.cells, voteOf]
  rw [e] at hb
  exact hb
theorem pl_flat : flat Tryz.prog 20 88 = some ZPl := by kernel_rfl
theorem pl_fits (p : Pl) : Fits ZPl p.cells = true := by simp [ZPl, Pl.cells, Fits, sameK]
theorem pl_eq (p q : Pl) : VEq p.cells q.cells = decide (p = q) := by
  obtain ⟨a, b, c⟩ := p
  obtain ⟨d, e, f⟩ := q
  simp only [Pl.cells, VEq, KEq, Bool.and_true, Pl.mk.injEq]
  by_cases h1 : a = d <;> by_cases h2 : b = e <;> by_cases h3 : c = f <;> simp [h1, h2, h3]
/-- what a signer says where it signs nothing new -/
def signNo (z : SgP) (v : VoteD) : Option (VoteD × Int) :=
  if z.vs.length ≠ 0 ∧ aheadB (lastP z.vs) v.pl = false then some (if lastP z.vs = v.pl ∧ (lastV z.vs).block = v.block then (lastV z.vs, 0) else (zeroV, 131))
  else if z.bad then some (zeroV, 131)
  else if (signL z.secret v).2 ≠ 0 then some (zeroV, (signL z.secret v).2) else none
def SigArgs (z : SgP) (h r t : Int) (b : List UInt8) : Array Value := #[.pointer (some ⟨z.s, 0, none⟩), .int .i64 h, .int .i64 r, .int .i64 t, .agg (Lib.byteCells b).toArray]
def SignPost (w0 : World) (z : SgP) (v : VoteD) (e : Ending) (w' : World) : Prop :=
  (∃ p, signNo z v = some p ∧ e = .returned (.tuple #[.agg p.1.cells.toArray, .int .i64 p.2]) ∧ w0.grownBy w' none) ∨
  (∃ bv sv rv rw sv2 vv, signNo z v = none ∧ e = .returned (.tuple #[.agg (signL z.secret v).1.cells.toArray, .int .i64 0]) ∧
    SgRep w' { z with y := (z.y.next bv (encVote (signL z.secret v).1) sv rv rw).synced sv2, vv := vv, vs := z.vs ++ [(signL z.secret v).1] } ∧ Tch z.foot w0 w' ∧
    ∀ k, ({ z with y := (z.y.next bv (encVote (signL z.secret v).1) sv rv rw).synced sv2, vv := vv, vs := z.vs ++ [(signL z.secret v).1] } : SgP).foot k → z.foot k ∨ w0.heap.size ≤ k)
theorem signL_key {z : SgP} {w : World} (h : SgRep w z) : z.secret < 18446744073709551616 := by
  have := h.sec; unfold keyOk pQ at this; simp at this; omega
theorem signL_ok (x : Nat) (v : VoteD) (_hv : v.wf) (h0 : (signL x v).2 = 0) : okVote v = true ∧ keyOk x = true ∧ (signL x v).1 = v.by (pw 37 x) (sgR x (encVote v.bare)) (sgS x (encVote v.bare)) := by
  unfold signL at h0 ⊢
  split at h0
  · rename_i h1
    split at h0
    · rename_i h2
      rw [if_pos h1, if_pos h2]
      exact ⟨h1, h2, rfl⟩
    · cases h0
  · cases h0
set_option maxHeartbeats 8000000 in
theorem sSign_dif {w0 : World} (z : SgP) (h : SgRep w0 z) (hx rx tx : Int) (b : List UInt8) (hh : i64R hx) (hr : i64R rx) (ht : i64R tx) (hb : b.length = 32) (hn : z.vs.length ≠ 0) (ha : aheadB (lastP z.vs) (voteOf z.chain hx rx tx b).pl = false) (hp : lastP z.vs ≠ (voteOf z.chain hx rx tx b).pl) :
    Calls Tryz.prog 11 (SigArgs z hx rx tx b) w0 fun e w' => e = .returned (.tuple #[.agg zeroV.cells.toArray, .int .i64 131]) ∧ w0.grownBy w' none := by
  have HWV := Lib.hid (voteOf_wf h.name hh hr ht hb)
  have HBL := Lib.hid hb
  have BV := Lib.hid (bVoteP z.chain hx rx tx b hb)
  have F3 := Lib.hid (show RowAt w0 z.s 3 [.string z.chain] from RowAt.one (h.blk.row 3 _ rfl))
  have F4 := Lib.hid (show RowAt w0 z.s 4 [z.vv] from RowAt.one (h.blk.row 4 _ rfl))
  have F5 := Lib.hid (show RowAt w0 z.s 5 [.bool z.bad] from RowAt.one (h.blk.row 5 _ rfl))
  have F1 := Lib.hid (show RowAt w0 z.s 1 [.int .u64 (z.secret : Int)] from RowAt.one (h.blk.row 1 _ rfl))
  have CL := Lib.hid (fun w (g : w0.grownBy w none) => show Calls Tryz.prog 33 #[.pointer (some ⟨z.s, 0, none⟩)] w fun e w' => e = .returned (.agg (lastP z.vs).cells.toArray) ∧ w.grownBy w' none from slast_ok (h.grown g))
  obtain ⟨m, hm⟩ : ∃ m, z.vs.length = m + 1 := ⟨z.vs.length - 1, by omega⟩
  have hvr := votes_at h.votes h.wf m (by omega)
  rw [lastV_at hm] at hvr
  obtain ⟨g4, o4, c4, hv4, hle, hcm, hvr⟩ := hvr
  rw [hm] at hv4 hle
  rw [hv4] at F4
  have HX := Lib.hid (h.wf _ (lastV_mem (l := z.vs) (by omega)))
  have FR := Lib.hid hvr
  unfold maxLen at hcm
  have ew := IntWalk.i64_in (m : Int) (by omega)
  have hix : ¬ ((m : Int) + 1 ≤ (m : Int)) := by omega
  have hpos : decide ((0 : Int) < (m : Int) + 1) = true := decide_eq_true (by omega)
  clear hv4 hvr
  have CAH := Lib.hid (fun w => show Calls Tryz.prog 34 #[.agg (lastP z.vs).cells.toArray, .agg (voteOf z.chain hx rx tx b).pl.cells.toArray] w fun e w' => e = .returned (.bool false) ∧ w.grownBy w' none from (by have := ahead_ok (lastP z.vs) (voteOf z.chain hx rx tx b).pl w; rwa [ha] at this))
  have HPE := Lib.hid (show VEq (lastV z.vs).pl.cells (voteOf z.chain hx rx tx b).pl.cells = false by rw [pl_eq]; first | exact decide_eq_true hp | exact decide_eq_false hp)
  unfold SigArgs
  obtain ⟨LP, hLP⟩ : ∃ p, lastP z.vs = p := ⟨_, rfl⟩
  obtain ⟨X, hX⟩ : ∃ x, lastV z.vs = x := ⟨_, rfl⟩
  obtain ⟨V, hV⟩ : ∃ v, voteOf z.chain hx rx tx b = v := ⟨_, rfl⟩
  rw [hV] at HWV BV CAH HPE
  rw [hLP] at CL CAH
  rw [hX] at HX FR HPE
  have HXL := Lib.hid (X.cells_length HX.out)
  clear h hh hr ht hb hn ha hp hLP hX hV hm
  have HVL := Lib.hid (V.cells_length HWV.out)
  have O := OwF.start (fun _ => False) w0
  go_enter Tryz.func11, Tryz.ntmps11
  go_upto_region 3 with (first | ((with_reducible refine @wpList_at _ _ _ _ _ _ _ (.box 26 (.tmp 4)) rfl ?_); refine @wpList_of_box _ _ _ _ _ _ _ _ _ _ 26 (.tmp 4) rfl (Lib.byteCells b) rfl O rfl ?_; clear O; intro b9 w O) | ((with_reducible refine @wpList_at _ _ _ _ _ _ _ (.alloc 40) rfl ?_); refine @wpList_of_alloc _ _ _ _ _ _ _ _ _ _ 40 rfl ZVote ZVote_info O rfl ?_; clear O; intro b10 w O))
  replace O := O.drew
  refine wp_region_J (rdf [(3, z.s, 3, [(.string z.chain)]), (7, b9, 0, (Lib.byteCells b))]) [9, 10] (by kernel_rfl) (RdA.cons (F3.out.grown (O.tch.grown (fun _ h => h.elim)) (by simp)) (RdA.cons (O.at_ 1 rfl).row RdA.nil)) (fun hH => ?_)
  refine jp 0 ((.pointer (some ⟨z.s, 0, none⟩))) (Still.all hH) ?_
  simp only [Act.put, jq1, jq3, jq4, jq5, jq6]
  refine jp 1 ((.pointer (some ⟨z.s, 0, none⟩))) (Still.all hH) ?_
  simp only [Act.put, jq1, jq2, jq3, jq4, jq5, jq6]
  refine jp 2 ((.pointer (some ⟨z.s, 3, none⟩))) (Still.all hH) ?_
  simp only [Act.put, jq1, jq2, jq3, jq4, jq5, jq6]
  refine jr 0 3 ((.string z.chain)) rfl rfl (yields_cell (by rfl) 9 _ rfl z.s 3 rfl (.string z.chain) _ (fun W h => h) Tryz.underlying9 rfl) (Still.all hH) ?_
  simp only [Act.put, jq1, jq2, jq3, jq4, jq5, jq6]
  refine jp 4 ((.int .i64 hx)) (Still.all hH) ?_
  simp only [Act.put, jq1, jq2, jq3, jq4, jq5, jq6]
  refine jp 5 ((.int .i64 rx)) (Still.all hH) ?_
  simp only [Act.put, jq1, jq2, jq3, jq4, jq5, jq6]
  refine jp 6 ((.int .i64 tx)) (Still.all hH) ?_
  simp only [Act.put, jq1, jq2, jq3, jq4, jq5, jq6]
  refine jr 1 7 ((.agg ((Lib.byteCells b)).toArray)) rfl rfl (yieldsIf_load_mid (by rfl) 26 _ rfl b9 0 rfl (Lib.byteCells b) _ (fun W h => h) Tryz.underlying26 rfl (sizeH _ (by rw [Lib.byteCells_length, HBL.out]))) (Still.all hH) ?_
  simp only [Act.put, jq1, jq2, jq3, jq4, jq5, jq6]
  refine jp 8 ((.agg V.cells.toArray)) (Still.all hH) ?_ (hy := (Or.inl ⟨by rfl, fun W _ => run_buildS 40 _ rfl [(0, .string z.chain), (1, .int .i64 hx), (2, .int .i64 rx), (3, .int .i64 tx), (4, .agg (Lib.byteCells b).toArray)] (by kernel_rfl) _ BV.out⟩))
  simp only [Act.put, jq1, jq2, jq3, jq4, jq5, jq6]
  refine wpAnyJ_ready (rs := [9]) (by kernel_rfl) (by simp) ?_
  refine AllJ.keep rfl (by rfl) (by rfl) (fun K hK => ?_) (AllJ.nil)
  refine wp_of_alloc 40 rfl ZVote ZVote_info O ?_
  clear O
  intro b12 u g2 O
  simp only [Act.put, jq1, jq2, jq3, jq4, jq5, jq6]
  refine hK.out _ _ (RdA.grown hH g2) ?_
  replace hH := RdA.grown hH g2
  clear hK K
  clear g2
  refine wpAnyJ_ready (rs := [10]) (by kernel_rfl) (by simp) ?_
  refine AllJ.turn rfl (by rfl) (by rfl) (fun K hK => ?_) (AllJ.nil)
  refine wp_of_store 40 _ _ rfl O 0 b12 rfl V.cells ZVote _ rfl rfl (by rw [HVL.out]; rfl) (VoteD_one _) (sizeVote _ HVL.out) ?_
  clear O
  intro w O
  simp only [List.set_cons_zero] at O
  simp only [Act.put, jq1]
  refine hK.out _ _ (waits_all (by kernel_rfl)) ?_
  clear hK K hH
  refine wpAnyJ_done (by kernel_rfl) ?_ _
  go_upto_region 5 with (first | ((with_reducible refine @wpList_at _ _ _ _ _ _ _ (.load 43 (.tmp 30)) rfl ?_); refine wpList_load_one rfl 43 _ rfl z.s 4 rfl (.slice (some ⟨g4, o4, none⟩) (m + 1) c4) _ (F4.out.grown (O.tch.grown (fun _ h => h.elim)) (by simp)) Tryz.underlying43 rfl ?_))
  replace O := O.drew
  refine wp_region_J (rdf [(5, b12, 0, V.cells)]) [4, 6, 7] (by kernel_rfl) (RdA.cons (O.at_ 0 rfl).row RdA.nil) (fun hH => ?_)
  refine jp 0 ((.int .i64 ((m + 1 : Nat) : Int))) (Still.all hH) ?_
  simp only [Act.put, jq1, jq3]
  refine jp 1 ((.bool true)) (Still.all hH) ?_
  simp only [Act.put, jq1, jq2, jq3, jq4, jq5, jq6]
  refine jp 2 ((.bool true)) (Still.all hH) ?_
  simp only [Act.put, jq1, jq4]
  refine jp 3 ((.pointer (some ⟨z.s, 0, none⟩))) (Still.all hH) ?_
  simp only [Act.put, jq1, jq2, jq3, jq4, jq5, jq6]
  refine jr 0 5 ((.agg (V.cells).toArray)) rfl rfl (yieldsIf_load_mid (by rfl) 40 _ rfl b12 0 rfl V.cells _ (fun W h => h) Tryz.underlying40 rfl (sizeVote _ HVL.out)) (Still.all hH) ?_
  simp only [Act.put, jq1, jq2, jq3, jq4, jq5, jq6]
  refine wpAnyJ_ready (rs := [4]) (by kernel_rfl) (by simp) ?_
  refine AllJ.keep rfl (by rfl) (by rfl) (fun K hK => ?_) (AllJ.nil)
  refine wp_call 33 _ _ (by rfl) (enters Tryz.func33 (by kernel_rfl) rfl) (by rfl) (CL.out _ (O.tch.grown (fun _ h => h.elim))) ?_
  rintro e u ⟨rfl, g9⟩
  refine ⟨_, rfl, ?_⟩
  replace O := O.call g9
  simp only [Act.put, jq1, jq2, jq3, jq4, jq5, jq6]
  refine hK.out _ _ (RdA.grown hH g9) ?_
  replace hH := RdA.grown hH g9
  clear hK K
  clear g9
  refine wpAnyJ_ready (rs := [6]) (by kernel_rfl) (by simp) ?_
  refine AllJ.keep rfl (by rfl) (by rfl) (fun K hK => ?_) (AllJ.nil)
  refine wp_call 35 _ _ (by rfl) (enters Tryz.func35 (by kernel_rfl) rfl) (by rfl) (placeOf_ok V _) ?_
  rintro e u ⟨rfl, g9⟩
  refine ⟨_, rfl, ?_⟩
  replace O := O.call g9
  simp only [Act.put, jq1, jq2, jq3, jq4, jq5, jq6]
  refine hK.out _ _ (RdA.grown hH g9) ?_
  replace hH := RdA.grown hH g9
  clear hK K
  clear g9
  refine wpAnyJ_ready (rs := [7]) (by kernel_rfl) (by simp) ?_
  refine AllJ.keep rfl (by rfl) (by rfl) (fun K hK => ?_) (AllJ.nil)
  refine wp_call 34 _ _ (by rfl) (enters Tryz.func34 (by kernel_rfl) rfl) (by rfl) (CAH.out _) ?_
  rintro e u ⟨rfl, g9⟩
  refine ⟨_, rfl, ?_⟩
  replace O := O.call g9
  simp only [Act.put, jq1, jq2, jq3, jq4, jq5, jq6]
  refine hK.out _ _ (RdA.grown hH g9) ?_
  replace hH := RdA.grown hH g9
  clear hK K
  clear g9
  refine jp 8 ((.bool true)) (Still.all hH) ?_
  simp only [Act.put, jq1, jq2, jq3, jq4, jq5, jq6]
  refine jp 9 ((.bool true)) (Still.all hH) ?_
  simp only [Act.put, jq1, jq2, jq3, jq4, jq5, jq6]
  refine wpAnyJ_done (by kernel_rfl) ?_ _
  clear hH
  go_upto_region 7 with (first | ((with_reducible refine @wpList_at _ _ _ _ _ _ _ (.load 43 (.tmp 45)) rfl ?_); refine wpList_load_one rfl 43 _ rfl z.s 4 rfl (.slice (some ⟨g4, o4, none⟩) (m + 1) c4) _ (F4.out.grown (O.tch.grown (fun _ h => h.elim)) (by simp)) Tryz.underlying43 rfl ?_) | ((with_reducible refine @wpList_at _ _ _ _ _ _ _ (.load 40 (.tmp 49)) rfl ?_); refine wpList_load_part rfl 40 _ rfl g4 (o4 + m * 39) rfl X.cells _ (FR.out.grown (O.tch.grown (fun _ h => h.elim)) (by simp)) Tryz.underlying40 rfl (X.size HX.out) ?_) | ((with_reducible refine @wpList_at _ _ _ _ _ _ _ (.alloc 40) rfl ?_); refine @wpList_of_alloc _ _ _ _ _ _ _ _ _ _ 40 rfl ZVote ZVote_info O rfl ?_; clear O; intro b14 w O) | ((with_reducible refine @wpList_at _ _ _ _ _ _ _ (.store 40 (.tmp 14) (.tmp 50)) rfl ?_); refine @wpList_of_store _ _ _ _ _ _ _ _ _ _ 40 (.tmp 14) (.tmp 50) rfl O 0 b14 rfl X.cells ZVote _ rfl rfl (by rw [HXL.out]; rfl) (VoteD_one _) (sizeVote _ HXL.out) rfl ?_; clear O; intro w O; simp only [List.set_cons_zero] at O))
  replace O := O.drew
  refine wp_region_J (rdf [(0, b14, 0, X.cells), (2, b12, 0, V.cells)]) [1, 3] (by kernel_rfl) (RdA.cons (O.at_ 0 rfl).row (RdA.cons (O.at_ 1 rfl).row RdA.nil)) (fun hH => ?_)
  refine jr 0 0 ((.agg (X.cells).toArray)) rfl rfl (yieldsIf_load_mid (by rfl) 40 _ rfl b14 0 rfl X.cells _ (fun W h => h) Tryz.underlying40 rfl (sizeVote _ HXL.out)) (Still.all hH) ?_
  simp only [Act.put, jq1, jq4]
  refine jr 1 2 ((.agg (V.cells).toArray)) rfl rfl (yieldsIf_load_mid (by rfl) 40 _ rfl b12 0 rfl V.cells _ (fun W h => h) Tryz.underlying40 rfl (sizeVote _ HVL.out)) (Still.all hH) ?_
  simp only [Act.put, jq1, jq3, jq4, jq5, jq6]
  refine wpAnyJ_ready (rs := [1]) (by kernel_rfl) (by simp) ?_
  refine AllJ.keep rfl (by rfl) (by rfl) (fun K hK => ?_) (AllJ.nil)
  refine wp_call 35 _ _ (by rfl) (enters Tryz.func35 (by kernel_rfl) rfl) (by rfl) (placeOf_ok X _) ?_
  rintro e u ⟨rfl, g9⟩
  refine ⟨_, rfl, ?_⟩
  replace O := O.call g9
  simp only [Act.put, jq1, jq2, jq3, jq4, jq5, jq6]
  refine hK.out _ _ (RdA.grown hH g9) ?_
  replace hH := RdA.grown hH g9
  clear hK K
  clear g9
  refine wpAnyJ_ready (rs := [3]) (by kernel_rfl) (by simp) ?_
  refine AllJ.keep rfl (by rfl) (by rfl) (fun K hK => ?_) (AllJ.nil)
  refine wp_call 35 _ _ (by rfl) (enters Tryz.func35 (by kernel_rfl) rfl) (by rfl) (placeOf_ok V _) ?_
  rintro e u ⟨rfl, g9⟩
  refine ⟨_, rfl, ?_⟩
  replace O := O.call g9
  simp only [Act.put, jq1, jq4]
  refine hK.out _ _ (RdA.grown hH g9) ?_
  replace hH := RdA.grown hH g9
  clear hK K
  clear g9
  refine jp 4 ((.bool false)) (Still.all hH) ?_ (hy := yields_eql (by rfl) 88 88 _ _ rfl X.pl.cells V.pl.cells ZPl rfl rfl pl_flat (pl_fits _) (pl_fits _) (by kernel_rfl) (by kernel_rfl) _ HPE.out)
  simp only [Act.put, jq1, jq2, jq3, jq4, jq5, jq6]
  refine jp 5 ((.bool false)) (Still.all hH) ?_
  simp only [Act.put, jq1, jq2, jq3, jq4, jq5, jq6]
  refine jp 6 undef (Still.all hH) ?_ (hy := Or.inr ⟨by rfl, rfl⟩)
  simp only [Act.put, jq1, jq2, jq3, jq4, jq5, jq6]
  refine jp 7 undef (Still.all hH) ?_ (hy := Or.inr ⟨by rfl, rfl⟩)
  simp only [Act.put, jq1, jq2, jq3, jq4, jq5, jq6]
  refine jp 8 undef (Still.all hH) ?_ (hy := Or.inr ⟨by rfl, rfl⟩)
  simp only [Act.put, jq1, jq2, jq3, jq4, jq5, jq6]
  refine jp 9 undef (Still.all hH) ?_ (hy := Or.inr ⟨by rfl, rfl⟩)
  simp only [Act.put, jq1, jq2, jq3, jq4, jq5, jq6]
  refine jp 10 ((.bool false)) (Still.all hH) ?_
  simp only [Act.put, jq1, jq2, jq3, jq4, jq5, jq6]
  refine wpAnyJ_done (by kernel_rfl) ?_ _
  clear hH
  go_wp2_with (first | ((with_reducible refine @wpList_at _ _ _ _ _ _ _ (.build 40 #[]) rfl ?_); refine wpList_build_eq rfl 40 _ rfl [] (by kernel_rfl) ZVote bVote0 ?_) | ((with_reducible refine @wpList_at _ _ _ _ _ _ _ (.store 40 (.tmp 10) (.tmp 63)) rfl ?_); refine @wpList_of_store _ _ _ _ _ _ _ _ _ _ 40 (.tmp 10) (.tmp 63) rfl O 2 b10 rfl ZVote ZVote _ rfl rfl rfl ZVote_one (sizeVote _ ZVote_length) rfl ?_; clear O; intro w O; simp only [List.set_cons_zero, List.set_cons_succ] at O))
  refine bodyPost_ret (results_cell_tmp rfl _ _ ⟨b10, 0, none⟩ _ _ rfl rfl (run_loadVar_part _ _ _ 40 ZVote _ (O.row_of (g := b10) (T := 40) (by simp)) Tryz.underlying40 rfl (sizeVote _ ZVote_length))) rfl ?_
  exact ⟨rfl, O.tch.grown (fun _ h => h.elim)⟩
set_option maxHeartbeats 8000000 in
theorem sSign_blk {w0 : World} (z : SgP) (h : SgRep w0 z) (hx rx tx : Int) (b : List UInt8) (hh : i64R hx) (hr : i64R rx) (ht : i64R tx) (hb : b.length = 32) (hn : z.vs.length ≠ 0) (ha : aheadB (lastP z.vs) (voteOf z.chain hx rx tx b).pl = false) (hp : lastP z.vs = (voteOf z.chain hx rx tx b).pl) (hbk : (lastV z.vs).block ≠ b) :
    Calls Tryz.prog 11 (SigArgs z hx rx tx b) w0 fun e w' => e = .returned (.tuple #[.agg zeroV.cells.toArray, .int .i64 131]) ∧ w0.grownBy w' none := by
  have HWV := Lib.hid (voteOf_wf h.name hh hr ht hb)
  have HBL := Lib.hid hb
  have BV := Lib.hid (bVoteP z.chain hx rx tx b hb)
  have F3 := Lib.hid (show RowAt w0 z.s 3 [.string z.chain] from RowAt.one (h.blk.row 3 _ rfl))
  have F4 := Lib.hid (show RowAt w0 z.s 4 [z.vv] from RowAt.one (h.blk.row 4 _ rfl))
  have F5 := Lib.hid (show RowAt w0 z.s 5 [.bool z.bad] from RowAt.one (h.blk.row 5 _ rfl))
  have F1 := Lib.hid (show RowAt w0 z.s 1 [.int .u64 (z.secret : Int)] from RowAt.one (h.blk.row 1 _ rfl))
  have CL := Lib.hid (fun w (g : w0.grownBy w none) => show Calls Tryz.prog 33 #[.pointer (some ⟨z.s, 0, none⟩)] w fun e w' => e = .returned (.agg (lastP z.vs).cells.toArray) ∧ w.grownBy w' none from slast_ok (h.grown g))
  obtain ⟨m, hm⟩ : ∃ m, z.vs.length = m + 1 := ⟨z.vs.length - 1, by omega⟩
  have hvr := votes_at h.votes h.wf m (by omega)
  rw [lastV_at hm] at hvr
  obtain ⟨g4, o4, c4, hv4, hle, hcm, hvr⟩ := hvr
  rw [hm] at hv4 hle
  rw [hv4] at F4
  have HX := Lib.hid (h.wf _ (lastV_mem (l := z.vs) (by omega)))
  have FR := Lib.hid hvr
  unfold maxLen at hcm
  have ew := IntWalk.i64_in (m : Int) (by omega)
  have hix : ¬ ((m : Int) + 1 ≤ (m : Int)) := by omega
  have hpos : decide ((0 : Int) < (m : Int) + 1) = true := decide_eq_true (by omega)
  clear hv4 hvr
  have CAH := Lib.hid (fun w => show Calls Tryz.prog 34 #[.agg (lastP z.vs).cells.toArray, .agg (voteOf z.chain hx rx tx b).pl.cells.toArray] w fun e w' => e = .returned (.bool false) ∧ w.grownBy w' none from (by have := ahead_ok (lastP z.vs) (voteOf z.chain hx rx tx b).pl w; rwa [ha] at this))
  have HPE := Lib.hid (show VEq (lastV z.vs).pl.cells (voteOf z.chain hx rx tx b).pl.cells = true by rw [pl_eq]; first | exact decide_eq_true hp | exact decide_eq_false hp)
  have HBE := Lib.hid (show VEq (Lib.byteCells (lastV z.vs).block) (Lib.byteCells b) = false by rw [VEq.bytes]; first | exact beq_iff_eq.2 hbk | exact beq_eq_false_iff_ne.2 hbk)
  unfold SigArgs
  obtain ⟨LP, hLP⟩ : ∃ p, lastP z.vs = p := ⟨_, rfl⟩
  obtain ⟨X, hX⟩ : ∃ x, lastV z.vs = x := ⟨_, rfl⟩
  obtain ⟨V, hV⟩ : ∃ v, voteOf z.chain hx rx tx b = v := ⟨_, rfl⟩
  rw [hV] at HWV BV CAH HPE
  rw [hLP] at CL CAH
  rw [hX] at HX FR HPE HBE
  have HXL := Lib.hid (X.cells_length HX.out)
  clear h hh hr ht hb hn ha hp hLP hX hV hm hbk
  have HVL := Lib.hid (V.cells_length HWV.out)
  have O := OwF.start (fun _ => False) w0
  go_enter Tryz.func11, Tryz.ntmps11
  go_upto_region 3 with (first | ((with_reducible refine @wpList_at _ _ _ _ _ _ _ (.box 26 (.tmp 4)) rfl ?_); refine @wpList_of_box _ _ _ _ _ _ _ _ _ _ 26 (.tmp 4) rfl (Lib.byteCells b) rfl O rfl ?_; clear O; intro b9 w O) | ((with_reducible refine @wpList_at _ _ _ _ _ _ _ (.alloc 40) rfl ?_); refine @wpList_of_alloc _ _ _ _ _ _ _ _ _ _ 40 rfl ZVote ZVote_info O rfl ?_; clear O; intro b10 w O))
  replace O := O.drew
  refine wp_region_J (rdf [(3, z.s, 3, [(.string z.chain)]), (7, b9, 0, (Lib.byteCells b))]) [9, 10] (by kernel_rfl) (RdA.cons (F3.out.grown (O.tch.grown (fun _ h => h.elim)) (by simp)) (RdA.cons (O.at_ 1 rfl).row RdA.nil)) (fun hH => ?_)
  refine jp 0 ((.pointer (some ⟨z.s, 0, none⟩))) (Still.all hH) ?_
  simp only [Act.put, jq1, jq4]
  refine jp 1 ((.pointer (some ⟨z.s, 0, none⟩))) (Still.all hH) ?_
  simp only [Act.put, jq1]
  refine jp 2 ((.pointer (some ⟨z.s, 3, none⟩))) (Still.all hH) ?_
  simp only [Act.put, jq1, jq3, jq4, jq5, jq6]
  refine jr 0 3 ((.string z.chain)) rfl rfl (yields_cell (by rfl) 9 _ rfl z.s 3 rfl (.string z.chain) _ (fun W h => h) Tryz.underlying9 rfl) (Still.all hH) ?_
  simp only [Act.put, jq1, jq2, jq3, jq4, jq5, jq6]
  refine jp 4 ((.int .i64 hx)) (Still.all hH) ?_
  simp only [Act.put, jq1]
  refine jp 5 ((.int .i64 rx)) (Still.all hH) ?_
  simp only [Act.put, jq1, jq2, jq3, jq4, jq5, jq6]
  refine jp 6 ((.int .i64 tx)) (Still.all hH) ?_
  simp only [Act.put, jq1, jq2, jq3, jq4, jq5, jq6]
  refine jr 1 7 ((.agg ((Lib.byteCells b)).toArray)) rfl rfl (yieldsIf_load_mid (by rfl) 26 _ rfl b9 0 rfl (Lib.byteCells b) _ (fun W h => h) Tryz.underlying26 rfl (sizeH _ (by rw [Lib.byteCells_length, HBL.out]))) (Still.all hH) ?_
  simp only [Act.put, jq1, jq2, jq3, jq4, jq5, jq6]
  refine jp 8 ((.agg V.cells.toArray)) (Still.all hH) ?_ (hy := (Or.inl ⟨by rfl, fun W _ => run_buildS 40 _ rfl [(0, .string z.chain), (1, .int .i64 hx), (2, .int .i64 rx), (3, .int .i64 tx), (4, .agg (Lib.byteCells b).toArray)] (by kernel_rfl) _ BV.out⟩))
  simp only [Act.put, jq1, jq2, jq3, jq4, jq5, jq6]
  refine wpAnyJ_ready (rs := [9]) (by kernel_rfl) (by simp) ?_
  refine AllJ.keep rfl (by rfl) (by rfl) (fun K hK => ?_) (AllJ.nil)
  refine wp_of_alloc 40 rfl ZVote ZVote_info O ?_
  clear O
  intro b12 u g2 O
  simp only [Act.put, jq1, jq2, jq3, jq4, jq5, jq6]
  refine hK.out _ _ (RdA.grown hH g2) ?_
  replace hH := RdA.grown hH g2
  clear hK K
  clear g2
  refine wpAnyJ_ready (rs := [10]) (by kernel_rfl) (by simp) ?_
  refine AllJ.turn rfl (by rfl) (by rfl) (fun K hK => ?_) (AllJ.nil)
  refine wp_of_store 40 _ _ rfl O 0 b12 rfl V.cells ZVote _ rfl rfl (by rw [HVL.out]; rfl) (VoteD_one _) (sizeVote _ HVL.out) ?_
  clear O
  intro w O
  simp only [List.set_cons_zero] at O
  simp only [Act.put, jq1]
  refine hK.out _ _ (waits_all (by kernel_rfl)) ?_
  clear hK K hH
  refine wpAnyJ_done (by kernel_rfl) ?_ _
  go_upto_region 5 with (first | ((with_reducible refine @wpList_at _ _ _ _ _ _ _ (.load 43 (.tmp 30)) rfl ?_); refine wpList_load_one rfl 43 _ rfl z.s 4 rfl (.slice (some ⟨g4, o4, none⟩) (m + 1) c4) _ (F4.out.grown (O.tch.grown (fun _ h => h.elim)) (by simp)) Tryz.underlying43 rfl ?_))
  replace O := O.drew
  refine wp_region_J (rdf [(5, b12, 0, V.cells)]) [4, 6, 7] (by kernel_rfl) (RdA.cons (O.at_ 0 rfl).row RdA.nil) (fun hH => ?_)
  refine jp 0 ((.int .i64 ((m + 1 : Nat) : Int))) (Still.all hH) ?_
  simp only [Act.put, jq1, jq3]
  refine jp 1 ((.bool true)) (Still.all hH) ?_
  simp only [Act.put, jq1, jq2, jq3]
  refine jp 2 ((.bool true)) (Still.all hH) ?_
  simp only [Act.put, jq1, jq2, jq3]
  refine jp 3 ((.pointer (some ⟨z.s, 0, none⟩))) (Still.all hH) ?_
  simp only [Act.put, jq1, jq2, jq3, jq4, jq5, jq6]
  refine jr 0 5 ((.agg (V.cells).toArray)) rfl rfl (yieldsIf_load_mid (by rfl) 40 _ rfl b12 0 rfl V.cells _ (fun W h => h) Tryz.underlying40 rfl (sizeVote _ HVL.out)) (Still.all hH) ?_
  simp only [Act.put, jq1, jq2, jq3]
  refine wpAnyJ_ready (rs := [4]) (by kernel_rfl) (by simp) ?_
  refine AllJ.keep rfl (by rfl) (by rfl) (fun K hK => ?_) (AllJ.nil)
  refine wp_call 33 _ _ (by rfl) (enters Tryz.func33 (by kernel_rfl) rfl) (by rfl) (CL.out _ (O.tch.grown (fun _ h => h.elim))) ?_
  rintro e u ⟨rfl, g9⟩
  refine ⟨_, rfl, ?_⟩
  replace O := O.call g9
  simp only [Act.put, jq1, jq4, jq5, jq6]
  refine hK.out _ _ (RdA.grown hH g9) ?_
  replace hH := RdA.grown hH g9
  clear hK K
  clear g9
  refine wpAnyJ_ready (rs := [6]) (by kernel_rfl) (by simp) ?_
  refine AllJ.keep rfl (by rfl) (by rfl) (fun K hK => ?_) (AllJ.nil)
  refine wp_call 35 _ _ (by rfl) (enters Tryz.func35 (by kernel_rfl) rfl) (by rfl) (placeOf_ok V _) ?_
  rintro e u ⟨rfl, g9⟩
  refine ⟨_, rfl, ?_⟩
  replace O := O.call g9
  simp only [Act.put, jq1]
  refine hK.out _ _ (RdA.grown hH g9) ?_
  replace hH := RdA.grown hH g9
  clear hK K
  clear g9
  refine wpAnyJ_ready (rs := [7]) (by kernel_rfl) (by simp) ?_
  refine AllJ.keep rfl (by rfl) (by rfl) (fun K hK => ?_) (AllJ.nil)
  refine wp_call 34 _ _ (by rfl) (enters Tryz.func34 (by kernel_rfl) rfl) (by rfl) (CAH.out _) ?_
  rintro e u ⟨rfl, g9⟩
  refine ⟨_, rfl, ?_⟩
  replace O := O.call g9
  simp only [Act.put, jq1]
  refine hK.out _ _ (RdA.grown hH g9) ?_
  replace hH := RdA.grown hH g9
  clear hK K
  clear g9
  refine jp 8 ((.bool true)) (Still.all hH) ?_
  simp only [Act.put, jq1]
  refine jp 9 ((.bool true)) (Still.all hH) ?_
  simp only [Act.put, jq1, jq2, jq3, jq4, jq5, jq6]
  refine wpAnyJ_done (by kernel_rfl) ?_ _
  clear hH
  go_upto_region 7 with (first | ((with_reducible refine @wpList_at _ _ _ _ _ _ _ (.load 43 (.tmp 45)) rfl ?_); refine wpList_load_one rfl 43 _ rfl z.s 4 rfl (.slice (some ⟨g4, o4, none⟩) (m + 1) c4) _ (F4.out.grown (O.tch.grown (fun _ h => h.elim)) (by simp)) Tryz.underlying43 rfl ?_) | ((with_reducible refine @wpList_at _ _ _ _ _ _ _ (.load 40 (.tmp 49)) rfl ?_); refine wpList_load_part rfl 40 _ rfl g4 (o4 + m * 39) rfl X.cells _ (FR.out.grown (O.tch.grown (fun _ h => h.elim)) (by simp)) Tryz.underlying40 rfl (X.size HX.out) ?_) | ((with_reducible refine @wpList_at _ _ _ _ _ _ _ (.alloc 40) rfl ?_); refine @wpList_of_alloc _ _ _ _ _ _ _ _ _ _ 40 rfl ZVote ZVote_info O rfl ?_; clear O; intro b14 w O) | ((with_reducible refine @wpList_at _ _ _ _ _ _ _ (.store 40 (.tmp 14) (.tmp 50)) rfl ?_); refine @wpList_of_store _ _ _ _ _ _ _ _ _ _ 40 (.tmp 14) (.tmp 50) rfl O 0 b14 rfl X.cells ZVote _ rfl rfl (by rw [HXL.out]; rfl) (VoteD_one _) (sizeVote _ HXL.out) rfl ?_; clear O; intro w O; simp only [List.set_cons_zero] at O))
  replace O := O.drew
  have FXB := Lib.hid (show RowAt _ b14 4 (Lib.byteCells X.block) by have := (VoteD.At.of_row HX.out (O.at_ 0 rfl).row).block; rwa [Nat.zero_add] at this)
  refine wp_region_J (rdf [(0, b14, 0, X.cells), (2, b12, 0, V.cells), (7, b14, 4, (Lib.byteCells X.block)), (8, b9, 0, (Lib.byteCells b))]) [1, 3] (by kernel_rfl) (RdA.cons (O.at_ 0 rfl).row (RdA.cons (O.at_ 1 rfl).row (RdA.cons FXB.out (RdA.cons (O.at_ 3 rfl).row RdA.nil)))) (fun hH => ?_)
  refine jr 0 0 ((.agg (X.cells).toArray)) rfl rfl (yieldsIf_load_mid (by rfl) 40 _ rfl b14 0 rfl X.cells _ (fun W h => h) Tryz.underlying40 rfl (sizeVote _ HXL.out)) (Still.all hH) ?_
  simp only [Act.put, jq1, jq4]
  refine jr 1 2 ((.agg (V.cells).toArray)) rfl rfl (yieldsIf_load_mid (by rfl) 40 _ rfl b12 0 rfl V.cells _ (fun W h => h) Tryz.underlying40 rfl (sizeVote _ HVL.out)) (Still.all hH) ?_
  simp only [Act.put, jq1, jq3, jq4, jq5, jq6]
  refine wpAnyJ_ready (rs := [1]) (by kernel_rfl) (by simp) ?_
  refine AllJ.keep rfl (by rfl) (by rfl) (fun K hK => ?_) (AllJ.nil)
  refine wp_call 35 _ _ (by rfl) (enters Tryz.func35 (by kernel_rfl) rfl) (by rfl) (placeOf_ok X _) ?_
  rintro e u ⟨rfl, g9⟩
  refine ⟨_, rfl, ?_⟩
  replace O := O.call g9
  simp only [Act.put, jq1, jq2, jq3, jq4, jq5, jq6]
  refine hK.out _ _ (RdA.grown hH g9) ?_
  replace hH := RdA.grown hH g9
  clear hK K
  clear g9
  refine wpAnyJ_ready (rs := [3]) (by kernel_rfl) (by simp) ?_
  refine AllJ.keep rfl (by rfl) (by rfl) (fun K hK => ?_) (AllJ.nil)
  refine wp_call 35 _ _ (by rfl) (enters Tryz.func35 (by kernel_rfl) rfl) (by rfl) (placeOf_ok V _) ?_
  rintro e u ⟨rfl, g9⟩
  refine ⟨_, rfl, ?_⟩
  replace O := O.call g9
  simp only [Act.put, jq1]
  refine hK.out _ _ (RdA.grown hH g9) ?_
  replace hH := RdA.grown hH g9
  clear hK K
  clear g9
  refine jp 4 ((.bool true)) (Still.all hH) ?_ (hy := yields_eql (by rfl) 88 88 _ _ rfl X.pl.cells V.pl.cells ZPl rfl rfl pl_flat (pl_fits _) (pl_fits _) (by kernel_rfl) (by kernel_rfl) _ HPE.out)
  simp only [Act.put, jq1, jq4]
  refine jp 5 ((.bool true)) (Still.all hH) ?_
  simp only [Act.put, jq1]
  refine jp 6 ((.pointer (some ⟨b14, 4, none⟩))) (Still.all hH) ?_
  simp only [Act.put, jq1, jq2, jq3, jq4, jq5, jq6]
  refine jr 2 7 ((.agg ((Lib.byteCells X.block)).toArray)) rfl rfl (yieldsIf_load_mid (by rfl) 26 _ rfl b14 4 rfl (Lib.byteCells X.block) _ (fun W h => h) Tryz.underlying26 rfl (sizeH _ (by rw [Lib.byteCells_length, HX.out.block]))) (Still.all hH) ?_
  simp only [Act.put, jq1, jq4]
  refine jr 3 8 ((.agg ((Lib.byteCells b)).toArray)) rfl rfl (yieldsIf_load_mid (by rfl) 26 _ rfl b9 0 rfl (Lib.byteCells b) _ (fun W h => h) Tryz.underlying26 rfl (sizeH _ (by rw [Lib.byteCells_length, HBL.out]))) (Still.all hH) ?_
  simp only [Act.put, jq1, jq2, jq3, jq4, jq5, jq6]
  refine jp 9 ((.bool false)) (Still.all hH) ?_ (hy := yields_eql (by rfl) 26 26 _ _ rfl (Lib.byteCells X.block) (Lib.byteCells b) kHash rfl rfl hash_flat (hash_fits _ HX.out.block) (hash_fits _ HBL.out) (by kernel_rfl) (by kernel_rfl) _ HBE.out)
  simp only [Act.put, jq1, jq2, jq3, jq4, jq5, jq6]
  refine jp 10 ((.bool false)) (Still.all hH) ?_
  simp only [Act.put, jq1, jq2, jq3, jq4, jq5, jq6]
  refine wpAnyJ_done (by kernel_rfl) ?_ _
  clear hH
  go_wp2_with (first | ((with_reducible refine @wpList_at _ _ _ _ _ _ _ (.build 40 #[]) rfl ?_); refine wpList_build_eq rfl 40 _ rfl [] (by kernel_rfl) ZVote bVote0 ?_) | ((with_reducible refine @wpList_at _ _ _ _ _ _ _ (.store 40 (.tmp 10) (.tmp 63)) rfl ?_); refine @wpList_of_store _ _ _ _ _ _ _ _ _ _ 40 (.tmp 10) (.tmp 63) rfl O 2 b10 rfl ZVote ZVote _ rfl rfl rfl ZVote_one (sizeVote _ ZVote_length) rfl ?_; clear O; intro w O; simp only [List.set_cons_zero, List.set_cons_succ] at O))
  refine bodyPost_ret (results_cell_tmp rfl _ _ ⟨b10, 0, none⟩ _ _ rfl rfl (run_loadVar_part _ _ _ 40 ZVote _ (O.row_of (g := b10) (T := 40) (by simp)) Tryz.underlying40 rfl (sizeVote _ ZVote_length))) rfl ?_
  exact ⟨rfl, O.tch.grown (fun _ h => h.elim)⟩
set_option maxHeartbeats 8000000 in
theorem sSign_again {w0 : World} (z : SgP) (h : SgRep w0 z) (hx rx tx : Int) (b : List UInt8) (hh : i64R hx) (hr : i64R rx) (ht : i64R tx) (hb : b.length = 32) (hn : z.vs.length ≠ 0) (ha : aheadB (lastP z.vs) (voteOf z.chain hx rx tx b).pl = false) (hp : lastP z.vs = (voteOf z.chain hx rx tx b).pl) (hbk : (lastV z.vs).block = b) :
    Calls Tryz.prog 11 (SigArgs z hx rx tx b) w0 fun e w' => e = .returned (.tuple #[.agg (lastV z.vs).cells.toArray, .int .i64 0]) ∧ w0.grownBy w' none := by
  have HWV := Lib.hid (voteOf_wf h.name hh hr ht hb)
  have HBL := Lib.hid hb
  have BV := Lib.hid (bVoteP z.chain hx rx tx b hb)
  have F3 := Lib.hid (show RowAt w0 z.s 3 [.string z.chain] from RowAt.one (h.blk.row 3 _ rfl))
  have F4 := Lib.hid (show RowAt w0 z.s 4 [z.vv] from RowAt.one (h.blk.row 4 _ rfl))
  have F5 := Lib.hid (show RowAt w0 z.s 5 [.bool z.bad] from RowAt.one (h.blk.row 5 _ rfl))
  have F1 := Lib.hid (show RowAt w0 z.s 1 [.int .u64 (z.secret : Int)] from RowAt.one (h.blk.row 1 _ rfl))
  have CL := Lib.hid (fun w (g : w0.grownBy w none) => show Calls Tryz.prog 33 #[.pointer (some ⟨z.s, 0, none⟩)] w fun e w' => e = .returned (.agg (lastP z.vs).cells.toArray) ∧ w.grownBy w' none from slast_ok (h.grown g))
  obtain ⟨m, hm⟩ : ∃ m, z.vs.length = m + 1 := ⟨z.vs.length - 1, by omega⟩
  have hvr := votes_at h.votes h.wf m (by omega)
  rw [lastV_at hm] at hvr
  obtain ⟨g4, o4, c4, hv4, hle, hcm, hvr⟩ := hvr
  rw [hm] at hv4 hle
  rw [hv4] at F4
  have HX := Lib.hid (h.wf _ (lastV_mem (l := z.vs) (by omega)))
  have FR := Lib.hid hvr
  unfold maxLen at hcm
  have ew := IntWalk.i64_in (m : Int) (by omega)
  have hix : ¬ ((m : Int) + 1 ≤ (m : Int)) := by omega
  have hpos : decide ((0 : Int) < (m : Int) + 1) = true := decide_eq_true (by omega)
  clear hv4 hvr
  have CAH := Lib.hid (fun w => show Calls Tryz.prog 34 #[.agg (lastP z.vs).cells.toArray, .agg (voteOf z.chain hx rx tx b).pl.cells.toArray] w fun e w' => e = .returned (.bool false) ∧ w.grownBy w' none from (by have := ahead_ok (lastP z.vs) (voteOf z.chain hx rx tx b).pl w; rwa [ha] at this))
  have HPE := Lib.hid (show VEq (lastV z.vs).pl.cells (voteOf z.chain hx rx tx b).pl.cells = true by rw [pl_eq]; first | exact decide_eq_true hp | exact decide_eq_false hp)
  have HBE := Lib.hid (show VEq (Lib.byteCells (lastV z.vs).block) (Lib.byteCells b) = true by rw [VEq.bytes]; first | exact beq_iff_eq.2 hbk | exact beq_eq_false_iff_ne.2 hbk)
  unfold SigArgs
  obtain ⟨LP, hLP⟩ : ∃ p, lastP z.vs = p := ⟨_, rfl⟩
  obtain ⟨X, hX⟩ : ∃ x, lastV z.vs = x := ⟨_, rfl⟩
  obtain ⟨V, hV⟩ : ∃ v, voteOf z.chain hx rx tx b = v := ⟨_, rfl⟩
  rw [hV] at HWV BV CAH HPE
  rw [hLP] at CL CAH
  rw [hX] at HX FR HPE HBE ⊢
  have HXL := Lib.hid (X.cells_length HX.out)
  clear h hh hr ht hb hn ha hp hLP hX hV hm hbk
  have HVL := Lib.hid (V.cells_length HWV.out)
  have O := OwF.start (fun _ => False) w0
  go_enter Tryz.func11, Tryz.ntmps11
  go_upto_region 3 with (first | ((with_reducible refine @wpList_at _ _ _ _ _ _ _ (.box 26 (.tmp 4)) rfl ?_); refine @wpList_of_box _ _ _ _ _ _ _ _ _ _ 26 (.tmp 4) rfl (Lib.byteCells b) rfl O rfl ?_; clear O; intro b9 w O) | ((with_reducible refine @wpList_at _ _ _ _ _ _ _ (.alloc 40) rfl ?_); refine @wpList_of_alloc _ _ _ _ _ _ _ _ _ _ 40 rfl ZVote ZVote_info O rfl ?_; clear O; intro b10 w O))
  replace O := O.drew
  refine wp_region_J (rdf [(3, z.s, 3, [(.string z.chain)]), (7, b9, 0, (Lib.byteCells b))]) [9, 10] (by kernel_rfl) (RdA.cons (F3.out.grown (O.tch.grown (fun _ h => h.elim)) (by simp)) (RdA.cons (O.at_ 1 rfl).row RdA.nil)) (fun hH => ?_)
  refine jp 0 ((.pointer (some ⟨z.s, 0, none⟩))) (Still.all hH) ?_
  simp only [Act.put, jq1]
  refine jp 1 ((.pointer (some ⟨z.s, 0, none⟩))) (Still.all hH) ?_
  simp only [Act.put, jq1, jq4]
  refine jp 2 ((.pointer (some ⟨z.s, 3, none⟩))) (Still.all hH) ?_
  simp only [Act.put, jq1, jq3, jq4, jq5, jq6]
  refine jr 0 3 ((.string z.chain)) rfl rfl (yields_cell (by rfl) 9 _ rfl z.s 3 rfl (.string z.chain) _ (fun W h => h) Tryz.underlying9 rfl) (Still.all hH) ?_
  simp only [Act.put, jq1, jq2, jq3, jq4, jq5, jq6]
  refine jp 4 ((.int .i64 hx)) (Still.all hH) ?_
  simp only [Act.put, jq1]
  refine jp 5 ((.int .i64 rx)) (Still.all hH) ?_
  simp only [Act.put, jq1, jq4]
  refine jp 6 ((.int .i64 tx)) (Still.all hH) ?_
  simp only [Act.put, jq1]
  refine jr 1 7 ((.agg ((Lib.byteCells b)).toArray)) rfl rfl (yieldsIf_load_mid (by rfl) 26 _ rfl b9 0 rfl (Lib.byteCells b) _ (fun W h => h) Tryz.underlying26 rfl (sizeH _ (by rw [Lib.byteCells_length, HBL.out]))) (Still.all hH) ?_
  simp only [Act.put, jq1, jq2, jq3, jq4, jq5, jq6]
  refine jp 8 ((.agg V.cells.toArray)) (Still.all hH) ?_ (hy := (Or.inl ⟨by rfl, fun W _ => run_buildS 40 _ rfl [(0, .string z.chain), (1, .int .i64 hx), (2, .int .i64 rx), (3, .int .i64 tx), (4, .agg (Lib.byteCells b).toArray)] (by kernel_rfl) _ BV.out⟩))
  simp only [Act.put, jq1, jq4]
  refine wpAnyJ_ready (rs := [9]) (by kernel_rfl) (by simp) ?_
  refine AllJ.keep rfl (by rfl) (by rfl) (fun K hK => ?_) (AllJ.nil)
  refine wp_of_alloc 40 rfl ZVote ZVote_info O ?_
  clear O
  intro b12 u g2 O
  simp only [Act.put, jq1, jq2, jq3, jq4, jq5, jq6]
  refine hK.out _ _ (RdA.grown hH g2) ?_
  replace hH := RdA.grown hH g2
  clear hK K
  clear g2
  refine wpAnyJ_ready (rs := [10]) (by kernel_rfl) (by simp) ?_
  refine AllJ.turn rfl (by rfl) (by rfl) (fun K hK => ?_) (AllJ.nil)
  refine wp_of_store 40 _ _ rfl O 0 b12 rfl V.cells ZVote _ rfl rfl (by rw [HVL.out]; rfl) (VoteD_one _) (sizeVote _ HVL.out) ?_
  clear O
  intro w O
  simp only [List.set_cons_zero] at O
  simp only [Act.put, jq1]
  refine hK.out _ _ (waits_all (by kernel_rfl)) ?_
  clear hK K hH
  refine wpAnyJ_done (by kernel_rfl) ?_ _
  go_upto_region 5 with (first | ((with_reducible refine @wpList_at _ _ _ _ _ _ _ (.load 43 (.tmp 30)) rfl ?_); refine wpList_load_one rfl 43 _ rfl z.s 4 rfl (.slice (some ⟨g4, o4, none⟩) (m + 1) c4) _ (F4.out.grown (O.tch.grown (fun _ h => h.elim)) (by simp)) Tryz.underlying43 rfl ?_))
  replace O := O.drew
  refine wp_region_J (rdf [(5, b12, 0, V.cells)]) [4, 6, 7] (by kernel_rfl) (RdA.cons (O.at_ 0 rfl).row RdA.nil) (fun hH => ?_)
  refine jp 0 ((.int .i64 ((m + 1 : Nat) : Int))) (Still.all hH) ?_
  simp only [Act.put, jq1, jq3]
  refine jp 1 ((.bool true)) (Still.all hH) ?_
  simp only [Act.put, jq1, jq2, jq3]
  refine jp 2 ((.bool true)) (Still.all hH) ?_
  simp only [Act.put, jq1, jq2, jq3]
  refine jp 3 ((.pointer (some ⟨z.s, 0, none⟩))) (Still.all hH) ?_
  simp only [Act.put, jq1, jq2, jq3, jq4, jq5, jq6]
  refine jr 0 5 ((.agg (V.cells).toArray)) rfl rfl (yieldsIf_load_mid (by rfl) 40 _ rfl b12 0 rfl V.cells _ (fun W h => h) Tryz.underlying40 rfl (sizeVote _ HVL.out)) (Still.all hH) ?_
  simp only [Act.put, jq1, jq2, jq3]
  refine wpAnyJ_ready (rs := [4]) (by kernel_rfl) (by simp) ?_
  refine AllJ.keep rfl (by rfl) (by rfl) (fun K hK => ?_) (AllJ.nil)
  refine wp_call 33 _ _ (by rfl) (enters Tryz.func33 (by kernel_rfl) rfl) (by rfl) (CL.out _ (O.tch.grown (fun _ h => h.elim))) ?_
  rintro e u ⟨rfl, g9⟩
  refine ⟨_, rfl, ?_⟩
  replace O := O.call g9
  simp only [Act.put, jq1, jq2, jq3]
  refine hK.out _ _ (RdA.grown hH g9) ?_
  replace hH := RdA.grown hH g9
  clear hK K
  clear g9
  refine wpAnyJ_ready (rs := [6]) (by kernel_rfl) (by simp) ?_
  refine AllJ.keep rfl (by rfl) (by rfl) (fun K hK => ?_) (AllJ.nil)
  refine wp_call 35 _ _ (by rfl) (enters Tryz.func35 (by kernel_rfl) rfl) (by rfl) (placeOf_ok V _) ?_
  rintro e u ⟨rfl, g9⟩
  refine ⟨_, rfl, ?_⟩
  replace O := O.call g9
  simp only [Act.put, jq1, jq2, jq3]
  refine hK.out _ _ (RdA.grown hH g9) ?_
  replace hH := RdA.grown hH g9
  clear hK K
  clear g9
  refine wpAnyJ_ready (rs := [7]) (by kernel_rfl) (by simp) ?_
  refine AllJ.keep rfl (by rfl) (by rfl) (fun K hK => ?_) (AllJ.nil)
  refine wp_call 34 _ _ (by rfl) (enters Tryz.func34 (by kernel_rfl) rfl) (by rfl) (CAH.out _) ?_
  rintro e u ⟨rfl, g9⟩
  refine ⟨_, rfl, ?_⟩
  replace O := O.call g9
  simp only [Act.put, jq1, jq4, jq5, jq6]
  refine hK.out _ _ (RdA.grown hH g9) ?_
  replace hH := RdA.grown hH g9
  clear hK K
  clear g9
  refine jp 8 ((.bool true)) (Still.all hH) ?_
  simp only [Act.put, jq1, jq2, jq3]
  refine jp 9 ((.bool true)) (Still.all hH) ?_
  simp only [Act.put, jq1, jq4, jq5, jq6]
  refine wpAnyJ_done (by kernel_rfl) ?_ _
  clear hH
  go_upto_region 7 with (first | ((with_reducible refine @wpList_at _ _ _ _ _ _ _ (.load 43 (.tmp 45)) rfl ?_); refine wpList_load_one rfl 43 _ rfl z.s 4 rfl (.slice (some ⟨g4, o4, none⟩) (m + 1) c4) _ (F4.out.grown (O.tch.grown (fun _ h => h.elim)) (by simp)) Tryz.underlying43 rfl ?_) | ((with_reducible refine @wpList_at _ _ _ _ _ _ _ (.load 40 (.tmp 49)) rfl ?_); refine wpList_load_part rfl 40 _ rfl g4 (o4 + m * 39) rfl X.cells _ (FR.out.grown (O.tch.grown (fun _ h => h.elim)) (by simp)) Tryz.underlying40 rfl (X.size HX.out) ?_) | ((with_reducible refine @wpList_at _ _ _ _ _ _ _ (.alloc 40) rfl ?_); refine @wpList_of_alloc _ _ _ _ _ _ _ _ _ _ 40 rfl ZVote ZVote_info O rfl ?_; clear O; intro b14 w O) | ((with_reducible refine @wpList_at _ _ _ _ _ _ _ (.store 40 (.tmp 14) (.tmp 50)) rfl ?_); refine @wpList_of_store _ _ _ _ _ _ _ _ _ _ 40 (.tmp 14) (.tmp 50) rfl O 0 b14 rfl X.cells ZVote _ rfl rfl (by rw [HXL.out]; rfl) (VoteD_one _) (sizeVote _ HXL.out) rfl ?_; clear O; intro w O; simp only [List.set_cons_zero] at O))
  replace O := O.drew
  have FXB := Lib.hid (show RowAt _ b14 4 (Lib.byteCells X.block) by have := (VoteD.At.of_row HX.out (O.at_ 0 rfl).row).block; rwa [Nat.zero_add] at this)
  refine wp_region_J (rdf [(0, b14, 0, X.cells), (2, b12, 0, V.cells), (7, b14, 4, (Lib.byteCells X.block)), (8, b9, 0, (Lib.byteCells b))]) [1, 3] (by kernel_rfl) (RdA.cons (O.at_ 0 rfl).row (RdA.cons (O.at_ 1 rfl).row (RdA.cons FXB.out (RdA.cons (O.at_ 3 rfl).row RdA.nil)))) (fun hH => ?_)
  refine jr 0 0 ((.agg (X.cells).toArray)) rfl rfl (yieldsIf_load_mid (by rfl) 40 _ rfl b14 0 rfl X.cells _ (fun W h => h) Tryz.underlying40 rfl (sizeVote _ HXL.out)) (Still.all hH) ?_
  simp only [Act.put, jq1, jq3, jq4, jq5, jq6]
  refine jr 1 2 ((.agg (V.cells).toArray)) rfl rfl (yieldsIf_load_mid (by rfl) 40 _ rfl b12 0 rfl V.cells _ (fun W h => h) Tryz.underlying40 rfl (sizeVote _ HVL.out)) (Still.all hH) ?_
  simp only [Act.put, jq1, jq4]
  refine wpAnyJ_ready (rs := [1]) (by kernel_rfl) (by simp) ?_
  refine AllJ.keep rfl (by rfl) (by rfl) (fun K hK => ?_) (AllJ.nil)
  refine wp_call 35 _ _ (by rfl) (enters Tryz.func35 (by kernel_rfl) rfl) (by rfl) (placeOf_ok X _) ?_
  rintro e u ⟨rfl, g9⟩
  refine ⟨_, rfl, ?_⟩
  replace O := O.call g9
  simp only [Act.put, jq1]
  refine hK.out _ _ (RdA.grown hH g9) ?_
  replace hH := RdA.grown hH g9
  clear hK K
  clear g9
  refine wpAnyJ_ready (rs := [3]) (by kernel_rfl) (by simp) ?_
  refine AllJ.keep rfl (by rfl) (by rfl) (fun K hK => ?_) (AllJ.nil)
  refine wp_call 35 _ _ (by rfl) (enters Tryz.func35 (by kernel_rfl) rfl) (by rfl) (placeOf_ok V _) ?_
  rintro e u ⟨rfl, g9⟩
  refine ⟨_, rfl, ?_⟩
  replace O := O.call g9
  simp only [Act.put, jq1]
  refine hK.out _ _ (RdA.grown hH g9) ?_
  replace hH := RdA.grown hH g9
  clear hK K
  clear g9
  refine jp 4 ((.bool true)) (Still.all hH) ?_ (hy := yields_eql (by rfl) 88 88 _ _ rfl X.pl.cells V.pl.cells ZPl rfl rfl pl_flat (pl_fits _) (pl_fits _) (by kernel_rfl) (by kernel_rfl) _ HPE.out)
  simp only [Act.put, jq1]
  refine jp 5 ((.bool true)) (Still.all hH) ?_
  simp only [Act.put, jq1, jq2, jq3, jq4, jq5, jq6]
  refine jp 6 ((.pointer (some ⟨b14, 4, none⟩))) (Still.all hH) ?_
  simp only [Act.put, jq1, jq2, jq3, jq4, jq5, jq6]
  refine jr 2 7 ((.agg ((Lib.byteCells X.block)).toArray)) rfl rfl (yieldsIf_load_mid (by rfl) 26 _ rfl b14 4 rfl (Lib.byteCells X.block) _ (fun W h => h) Tryz.underlying26 rfl (sizeH _ (by rw [Lib.byteCells_length, HX.out.block]))) (Still.all hH) ?_
  simp only [Act.put, jq1, jq2, jq3, jq4, jq5, jq6]
  refine jr 3 8 ((.agg ((Lib.byteCells b)).toArray)) rfl rfl (yieldsIf_load_mid (by rfl) 26 _ rfl b9 0 rfl (Lib.byteCells b) _ (fun W h => h) Tryz.underlying26 rfl (sizeH _ (by rw [Lib.byteCells_length, HBL.out]))) (Still.all hH) ?_
  simp only [Act.put, jq1, jq2, jq3, jq4, jq5, jq6]
  refine jp 9 ((.bool true)) (Still.all hH) ?_ (hy := yields_eql (by rfl) 26 26 _ _ rfl (Lib.byteCells X.block) (Lib.byteCells b) kHash rfl rfl hash_flat (hash_fits _ HX.out.block) (hash_fits _ HBL.out) (by kernel_rfl) (by kernel_rfl) _ HBE.out)
  simp only [Act.put, jq1, jq2, jq3, jq4, jq5, jq6]
  refine jp 10 ((.bool true)) (Still.all hH) ?_
  simp only [Act.put, jq1, jq2, jq3, jq4, jq5, jq6]
  refine wpAnyJ_done (by kernel_rfl) ?_ _
  clear hH
  go_wp2_with (first | ((with_reducible refine @wpList_at _ _ _ _ _ _ _ (.load 40 (.tmp 14)) rfl ?_); refine @wpList_of_whole _ _ _ _ _ _ _ _ _ _ 40 (.tmp 14) rfl O 0 b14 rfl X.cells _ rfl _ Tryz.underlying40 rfl (sizeVote _ HXL.out) rfl ?_) | ((with_reducible refine @wpList_at _ _ _ _ _ _ _ (.store 40 (.tmp 10) (.tmp 62)) rfl ?_); refine @wpList_of_store _ _ _ _ _ _ _ _ _ _ 40 (.tmp 10) (.tmp 62) rfl O 2 b10 rfl X.cells ZVote _ rfl rfl (by rw [HXL.out]; rfl) (VoteD_one _) (sizeVote _ HXL.out) rfl ?_; clear O; intro w O; simp only [List.set_cons_zero, List.set_cons_succ] at O))
  refine bodyPost_ret (results_cell_tmp rfl _ _ ⟨b10, 0, none⟩ _ _ rfl rfl (run_loadVar_part _ _ _ 40 X.cells _ (O.row_of (g := b10) (T := 40) (by simp)) Tryz.underlying40 rfl (sizeVote _ HXL.out))) rfl ?_
  exact ⟨rfl, O.tch.grown (fun _ h => h.elim)⟩

end Go.Proofs.YtcbkehnlgpcelaaGreatDoor
