/- Walk: a signer signs what is ahead. -/
import Derived.Test.YtcbkehnlgpcelaaGreatDoorSg7
namespace Go.Proofs.YtcbkehnlgpcelaaGreatDoor
open Go.RowKit
set_option maxRecDepth 100000

/-- a signer that has signed a vote more -/
def SignNew (w0 : World) (z : SgP) (S : VoteD) (w' : World) : Prop := ∃ bv sv rv rw sv2 vv,
  SgRep w' { z with y := (z.y.next bv (encVote S) sv rv rw).synced sv2, vv := vv, vs := z.vs ++ [S] } ∧ Tch z.foot w0 w' ∧
    ∀ k, ({ z with y := (z.y.next bv (encVote S) sv rv rw).synced sv2, vv := vv, vs := z.vs ++ [S] } : SgP).foot k → z.foot k ∨ w0.heap.size ≤ k
theorem votesCells_snoc (l : List VoteD) (v : VoteD) : votesCells (l ++ [v]) = votesCells l ++ v.cells := by simp [votesCells]
set_option maxHeartbeats 8000000 in
theorem sSign_bad0 {w0 : World} (z : SgP) (h : SgRep w0 z) (hx rx tx : Int) (b : List UInt8) (hh : i64R hx) (hr : i64R rx) (ht : i64R tx) (hb : b.length = 32) (hn : z.vs.length = 0) (hbad : z.bad = true) :
    Calls Tryz.prog 11 (SigArgs z hx rx tx b) w0 fun e w' => e = .returned (.tuple #[.agg zeroV.cells.toArray, .int .i64 131]) ∧ w0.grownBy w' none := by
  have HWV := Lib.hid (voteOf_wf h.name hh hr ht hb)
  have HBL := Lib.hid hb
  have BV := Lib.hid (bVoteP z.chain hx rx tx b hb)
  have F3 := Lib.hid (show RowAt w0 z.s 3 [.string z.chain] from RowAt.one (h.blk.row 3 _ rfl))
  have F4 := Lib.hid (show RowAt w0 z.s 4 [z.vv] from RowAt.one (h.blk.row 4 _ rfl))
  have F5 := Lib.hid (show RowAt w0 z.s 5 [.bool z.bad] from RowAt.one (h.blk.row 5 _ rfl))
  have F1 := Lib.hid (show RowAt w0 z.s 1 [.int .u64 (z.secret : Int)] from RowAt.one (h.blk.row 1 _ rfl))
  have CL := Lib.hid (fun w (g : w0.grownBy w none) => show Calls Tryz.prog 33 #[.pointer (some ⟨z.s, 0, none⟩)] w fun e w' => e = .returned (.agg (lastP z.vs).cells.toArray) ∧ w.grownBy w' none from slast_ok (h.grown g))
  rw [hbad] at F5
  obtain ⟨a4, c4, hv4, _⟩ := h.votes.shape
  rw [hn] at hv4
  rw [hv4] at F4
  clear hv4
  unfold SigArgs
  obtain ⟨V, hV⟩ : ∃ v, voteOf z.chain hx rx tx b = v := ⟨_, rfl⟩
  rw [hV] at HWV BV
  clear h hh hr ht hb hn hbad hV
  have HVL := Lib.hid (V.cells_length HWV.out)
  have O := OwF.start (fun _ => False) w0
  go_enter Tryz.func11, Tryz.ntmps11
  go_upto_region 3 with (first | ((with_reducible refine @wpList_at _ _ _ _ _ _ _ (.box 26 (.tmp 4)) rfl ?_); refine @wpList_of_box _ _ _ _ _ _ _ _ _ _ 26 (.tmp 4) rfl (Lib.byteCells b) rfl O rfl ?_; clear O; intro b9 w O) | ((with_reducible refine @wpList_at _ _ _ _ _ _ _ (.alloc 40) rfl ?_); refine @wpList_of_alloc _ _ _ _ _ _ _ _ _ _ 40 rfl ZVote ZVote_info O rfl ?_; clear O; intro b10 w O))
  replace O := O.drew
  refine wp_region_J (rdf [(3, z.s, 3, [(.string z.chain)]), (7, b9, 0, (Lib.byteCells b))]) [9, 10] (by kernel_rfl) (RdA.cons (F3.out.grown (O.tch.grown (fun _ h => h.elim)) (by simp)) (RdA.cons (O.at_ 1 rfl).row RdA.nil)) (fun hH => ?_)
  refine jp 0 ((.pointer (some ⟨z.s, 0, none⟩))) (Still.all hH) ?_
  simp only [Act.put, jq1, jq3, jq4, jq5, jq6]
  refine jp 1 ((.pointer (some ⟨z.s, 0, none⟩))) (Still.all hH) ?_
  simp only [Act.put, jq1, jq2, jq3, jq4, jq5, jq6]
  refine jp 2 ((.pointer (some ⟨z.s, 3, none⟩))) (Still.all hH) ?_
  simp only [Act.put, jq1, jq2, jq3, jq4, jq5, jq6]
  refine jr 0 3 ((.string z.chain)) rfl rfl (yields_cell (by rfl) 9 _ rfl z.s 3 rfl (.string z.chain) _ (fun W h => h) Tryz.underlying9 rfl) (Still.all hH) ?_
  simp only [Act.put, jq1, jq2, jq3, jq4, jq5, jq6]
  refine jp 4 ((.int .i64 hx)) (Still.all hH) ?_
  simp only [Act.put, jq1, jq2, jq3, jq4, jq5, jq6]
  refine jp 5 ((.int .i64 rx)) (Still.all hH) ?_
  simp only [Act.put, jq1, jq2, jq3, jq4, jq5, jq6]
  refine jp 6 ((.int .i64 tx)) (Still.all hH) ?_
  simp only [Act.put, jq1, jq2, jq3, jq4, jq5, jq6]
  refine jr 1 7 ((.agg ((Lib.byteCells b)).toArray)) rfl rfl (yieldsIf_load_mid (by rfl) 26 _ rfl b9 0 rfl (Lib.byteCells b) _ (fun W h => h) Tryz.underlying26 rfl (sizeH _ (by rw [Lib.byteCells_length, HBL.out]))) (Still.all hH) ?_
  simp only [Act.put, jq1, jq2, jq3, jq4, jq5, jq6]
  refine jp 8 ((.agg V.cells.toArray)) (Still.all hH) ?_ (hy := (Or.inl ⟨by rfl, fun W _ => run_buildS 40 _ rfl [(0, .string z.chain), (1, .int .i64 hx), (2, .int .i64 rx), (3, .int .i64 tx), (4, .agg (Lib.byteCells b).toArray)] (by kernel_rfl) _ BV.out⟩))
  simp only [Act.put, jq1, jq2, jq3, jq4, jq5, jq6]
  refine wpAnyJ_ready (rs := [9]) (by kernel_rfl) (by simp) ?_
  refine AllJ.keep rfl (by rfl) (by rfl) (fun K hK => ?_) (AllJ.nil)
  refine wp_of_alloc 40 rfl ZVote ZVote_info O ?_
  clear O
  intro b12 u g2 O
  simp only [Act.put, jq1, jq2, jq3, jq4, jq5, jq6]
  refine hK.out _ _ (RdA.grown hH g2) ?_
  replace hH := RdA.grown hH g2
  clear hK K
  clear g2
  refine wpAnyJ_ready (rs := [10]) (by kernel_rfl) (by simp) ?_
  refine AllJ.turn rfl (by rfl) (by rfl) (fun K hK => ?_) (AllJ.nil)
  refine wp_of_store 40 _ _ rfl O 0 b12 rfl V.cells ZVote _ rfl rfl (by rw [HVL.out]; rfl) (VoteD_one _) (sizeVote _ HVL.out) ?_
  clear O
  intro w O
  simp only [List.set_cons_zero] at O
  simp only [Act.put, jq1]
  refine hK.out _ _ (waits_all (by kernel_rfl)) ?_
  clear hK K hH
  refine wpAnyJ_done (by kernel_rfl) ?_ _
  go_upto_region 5 with (first | ((with_reducible refine @wpList_at _ _ _ _ _ _ _ (.load 43 (.tmp 30)) rfl ?_); refine wpList_load_one rfl 43 _ rfl z.s 4 rfl (.slice a4 0 c4) _ (F4.out.grown (O.tch.grown (fun _ h => h.elim)) (by simp)) Tryz.underlying43 rfl ?_))
  replace O := O.drew
  refine wp_region_J (rdf []) [] (by kernel_rfl) RdA.nil (fun hH => ?_)
  refine jp 0 ((.int .i64 0)) (Still.all hH) ?_
  simp only [Act.put, jq1, jq3]
  refine jp 1 ((.bool false)) (Still.all hH) ?_
  simp only [Act.put, jq1, jq2, jq3, jq4, jq5, jq6]
  refine jp 2 ((.bool false)) (Still.all hH) ?_
  simp only [Act.put, jq1, jq4]
  refine jp 3 undef (Still.all hH) ?_ (hy := Or.inr ⟨by rfl, rfl⟩)
  simp only [Act.put, jq1, jq2, jq3, jq4, jq5, jq6]
  refine jp 4 undef (Still.all hH) ?_ (hy := Or.inr ⟨by rfl, rfl⟩)
  simp only [Act.put, jq1, jq2, jq3, jq4, jq5, jq6]
  refine jp 5 undef (Still.all hH) ?_ (hy := Or.inr ⟨by rfl, rfl⟩)
  simp only [Act.put, jq1, jq2, jq3, jq4, jq5, jq6]
  refine jp 6 undef (Still.all hH) ?_ (hy := Or.inr ⟨by rfl, rfl⟩)
  simp only [Act.put, jq1, jq2, jq3, jq4, jq5, jq6]
  refine jp 7 undef (Still.all hH) ?_ (hy := Or.inr ⟨by rfl, rfl⟩)
  simp only [Act.put, jq1, jq2, jq3, jq4, jq5, jq6]
  refine jp 8 undef (Still.all hH) ?_ (hy := Or.inr ⟨by rfl, rfl⟩)
  simp only [Act.put, jq1, jq2, jq3, jq4, jq5, jq6]
  refine jp 9 ((.bool false)) (Still.all hH) ?_
  simp only [Act.put, jq1, jq2, jq3, jq4, jq5, jq6]
  refine wpAnyJ_done (by kernel_rfl) ?_ _
  clear hH
  go_wp2_with (first | ((with_reducible refine @wpList_at _ _ _ _ _ _ _ (.load 4 (.tmp 66)) rfl ?_); refine wpList_load_one rfl 4 _ rfl z.s 5 rfl (.bool true) _ (F5.out.grown (O.tch.grown (fun _ h => h.elim)) (by simp)) Tryz.underlying4 rfl ?_) | ((with_reducible refine @wpList_at _ _ _ _ _ _ _ (.build 40 #[]) rfl ?_); refine wpList_build_eq rfl 40 _ rfl [] (by kernel_rfl) ZVote bVote0 ?_) | ((with_reducible refine @wpList_at _ _ _ _ _ _ _ (.store 40 (.tmp 10) (.tmp 68)) rfl ?_); refine @wpList_of_store _ _ _ _ _ _ _ _ _ _ 40 (.tmp 10) (.tmp 68) rfl O 1 b10 rfl ZVote ZVote _ rfl rfl rfl ZVote_one (sizeVote _ ZVote_length) rfl ?_; clear O; intro w O; simp only [List.set_cons_zero, List.set_cons_succ] at O))
  refine bodyPost_ret (results_cell_tmp rfl _ _ ⟨b10, 0, none⟩ _ _ rfl rfl (run_loadVar_part _ _ _ 40 ZVote _ (O.row_of (g := b10) (T := 40) (by simp)) Tryz.underlying40 rfl (sizeVote _ ZVote_length))) rfl ?_
  exact ⟨rfl, O.tch.grown (fun _ h => h.elim)⟩
set_option maxHeartbeats 8000000 in
theorem sSign_bada {w0 : World} (z : SgP) (h : SgRep w0 z) (hx rx tx : Int) (b : List UInt8) (hh : i64R hx) (hr : i64R rx) (ht : i64R tx) (hb : b.length = 32) (hn : z.vs.length ≠ 0) (ha : aheadB (lastP z.vs) (voteOf z.chain hx rx tx b).pl = true) (hbad : z.bad = true) :
    Calls Tryz.prog 11 (SigArgs z hx rx tx b) w0 fun e w' => e = .returned (.tuple #[.agg zeroV.cells.toArray, .int .i64 131]) ∧ w0.grownBy w' none := by
  have HWV := Lib.hid (voteOf_wf h.name hh hr ht hb)
  have HBL := Lib.hid hb
  have BV := Lib.hid (bVoteP z.chain hx rx tx b hb)
  have F3 := Lib.hid (show RowAt w0 z.s 3 [.string z.chain] from RowAt.one (h.blk.row 3 _ rfl))
  have F4 := Lib.hid (show RowAt w0 z.s 4 [z.vv] from RowAt.one (h.blk.row 4 _ rfl))
  have F5 := Lib.hid (show RowAt w0 z.s 5 [.bool z.bad] from RowAt.one (h.blk.row 5 _ rfl))
  have F1 := Lib.hid (show RowAt w0 z.s 1 [.int .u64 (z.secret : Int)] from RowAt.one (h.blk.row 1 _ rfl))
  have CL := Lib.hid (fun w (g : w0.grownBy w none) => show Calls Tryz.prog 33 #[.pointer (some ⟨z.s, 0, none⟩)] w fun e w' => e = .returned (.agg (lastP z.vs).cells.toArray) ∧ w.grownBy w' none from slast_ok (h.grown g))
  rw [hbad] at F5
  obtain ⟨m, hm⟩ : ∃ m, z.vs.length = m + 1 := ⟨z.vs.length - 1, by omega⟩
  have hvr := votes_at h.votes h.wf m (by omega)
  rw [lastV_at hm] at hvr
  obtain ⟨g4, o4, c4, hv4, hle, hcm, hvr⟩ := hvr
  rw [hm] at hv4 hle
  rw [hv4] at F4
  have HX := Lib.hid (h.wf _ (lastV_mem (l := z.vs) (by omega)))
  have FR := Lib.hid hvr
  unfold maxLen at hcm
  have ew := IntWalk.i64_in (m : Int) (by omega)
  have hix : ¬ ((m : Int) + 1 ≤ (m : Int)) := by omega
  have hpos : decide ((0 : Int) < (m : Int) + 1) = true := decide_eq_true (by omega)
  clear hv4 hvr
  have CAH := Lib.hid (fun w => show Calls Tryz.prog 34 #[.agg (lastP z.vs).cells.toArray, .agg (voteOf z.chain hx rx tx b).pl.cells.toArray] w fun e w' => e = .returned (.bool true) ∧ w.grownBy w' none from (by have := ahead_ok (lastP z.vs) (voteOf z.chain hx rx tx b).pl w; rwa [ha] at this))
  unfold SigArgs
  obtain ⟨V, hV⟩ : ∃ v, voteOf z.chain hx rx tx b = v := ⟨_, rfl⟩
  rw [hV] at HWV BV CAH
  obtain ⟨LP, hLP⟩ : ∃ p, lastP z.vs = p := ⟨_, rfl⟩
  rw [hLP] at CL CAH
  clear h hh hr ht hb hn hbad hV ha hLP hm
  have HVL := Lib.hid (V.cells_length HWV.out)
  have O := OwF.start (fun _ => False) w0
  go_enter Tryz.func11, Tryz.ntmps11
  go_upto_region 3 with (first | ((with_reducible refine @wpList_at _ _ _ _ _ _ _ (.box 26 (.tmp 4)) rfl ?_); refine @wpList_of_box _ _ _ _ _ _ _ _ _ _ 26 (.tmp 4) rfl (Lib.byteCells b) rfl O rfl ?_; clear O; intro b9 w O) | ((with_reducible refine @wpList_at _ _ _ _ _ _ _ (.alloc 40) rfl ?_); refine @wpList_of_alloc _ _ _ _ _ _ _ _ _ _ 40 rfl ZVote ZVote_info O rfl ?_; clear O; intro b10 w O))
  replace O := O.drew
  refine wp_region_J (rdf [(3, z.s, 3, [(.string z.chain)]), (7, b9, 0, (Lib.byteCells b))]) [9, 10] (by kernel_rfl) (RdA.cons (F3.out.grown (O.tch.grown (fun _ h => h.elim)) (by simp)) (RdA.cons (O.at_ 1 rfl).row RdA.nil)) (fun hH => ?_)
  refine jp 0 ((.pointer (some ⟨z.s, 0, none⟩))) (Still.all hH) ?_
  simp only [Act.put, jq1, jq4]
  refine jp 1 ((.pointer (some ⟨z.s, 0, none⟩))) (Still.all hH) ?_
  simp only [Act.put, jq1, jq3, jq4, jq5, jq6]
  refine jp 2 ((.pointer (some ⟨z.s, 3, none⟩))) (Still.all hH) ?_
  simp only [Act.put, jq1, jq2, jq3, jq4, jq5, jq6]
  refine jr 0 3 ((.string z.chain)) rfl rfl (yields_cell (by rfl) 9 _ rfl z.s 3 rfl (.string z.chain) _ (fun W h => h) Tryz.underlying9 rfl) (Still.all hH) ?_
  simp only [Act.put, jq1]
  refine jp 4 ((.int .i64 hx)) (Still.all hH) ?_
  simp only [Act.put, jq1, jq2, jq3, jq4, jq5, jq6]
  refine jp 5 ((.int .i64 rx)) (Still.all hH) ?_
  simp only [Act.put, jq1, jq2, jq3, jq4, jq5, jq6]
  refine jp 6 ((.int .i64 tx)) (Still.all hH) ?_
  simp only [Act.put, jq1, jq2, jq3, jq4, jq5, jq6]
  refine jr 1 7 ((.agg ((Lib.byteCells b)).toArray)) rfl rfl (yieldsIf_load_mid (by rfl) 26 _ rfl b9 0 rfl (Lib.byteCells b) _ (fun W h => h) Tryz.underlying26 rfl (sizeH _ (by rw [Lib.byteCells_length, HBL.out]))) (Still.all hH) ?_
  simp only [Act.put, jq1, jq2, jq3, jq4, jq5, jq6]
  refine jp 8 ((.agg V.cells.toArray)) (Still.all hH) ?_ (hy := (Or.inl ⟨by rfl, fun W _ => run_buildS 40 _ rfl [(0, .string z.chain), (1, .int .i64 hx), (2, .int .i64 rx), (3, .int .i64 tx), (4, .agg (Lib.byteCells b).toArray)] (by kernel_rfl) _ BV.out⟩))
  simp only [Act.put, jq1, jq2, jq3, jq4, jq5, jq6]
  refine wpAnyJ_ready (rs := [9]) (by kernel_rfl) (by simp) ?_
  refine AllJ.keep rfl (by rfl) (by rfl) (fun K hK => ?_) (AllJ.nil)
  refine wp_of_alloc 40 rfl ZVote ZVote_info O ?_
  clear O
  intro b12 u g2 O
  simp only [Act.put, jq1, jq2, jq3, jq4, jq5, jq6]
  refine hK.out _ _ (RdA.grown hH g2) ?_
  replace hH := RdA.grown hH g2
  clear hK K
  clear g2
  refine wpAnyJ_ready (rs := [10]) (by kernel_rfl) (by simp) ?_
  refine AllJ.turn rfl (by rfl) (by rfl) (fun K hK => ?_) (AllJ.nil)
  refine wp_of_store 40 _ _ rfl O 0 b12 rfl V.cells ZVote _ rfl rfl (by rw [HVL.out]; rfl) (VoteD_one _) (sizeVote _ HVL.out) ?_
  clear O
  intro w O
  simp only [List.set_cons_zero] at O
  simp only [Act.put, jq1]
  refine hK.out _ _ (waits_all (by kernel_rfl)) ?_
  clear hK K hH
  refine wpAnyJ_done (by kernel_rfl) ?_ _
  go_upto_region 5 with (first | ((with_reducible refine @wpList_at _ _ _ _ _ _ _ (.load 43 (.tmp 30)) rfl ?_); refine wpList_load_one rfl 43 _ rfl z.s 4 rfl (.slice (some ⟨g4, o4, none⟩) (m + 1) c4) _ (F4.out.grown (O.tch.grown (fun _ h => h.elim)) (by simp)) Tryz.underlying43 rfl ?_))
  replace O := O.drew
  refine wp_region_J (rdf [(5, b12, 0, V.cells)]) [4, 6, 7] (by kernel_rfl) (RdA.cons (O.at_ 0 rfl).row RdA.nil) (fun hH => ?_)
  refine jp 0 ((.int .i64 ((m + 1 : Nat) : Int))) (Still.all hH) ?_
  simp only [Act.put, jq1, jq2, jq3]
  refine jp 1 ((.bool true)) (Still.all hH) ?_
  simp only [Act.put, jq1, jq2, jq3]
  refine jp 2 ((.bool true)) (Still.all hH) ?_
  simp only [Act.put, jq1, jq2, jq3, jq4, jq5, jq6]
  refine jp 3 ((.pointer (some ⟨z.s, 0, none⟩))) (Still.all hH) ?_
  simp only [Act.put, jq1, jq2, jq3]
  refine jr 0 5 ((.agg (V.cells).toArray)) rfl rfl (yieldsIf_load_mid (by rfl) 40 _ rfl b12 0 rfl V.cells _ (fun W h => h) Tryz.underlying40 rfl (sizeVote _ HVL.out)) (Still.all hH) ?_
  simp only [Act.put, jq1, jq4, jq5, jq6]
  refine wpAnyJ_ready (rs := [4]) (by kernel_rfl) (by simp) ?_
  refine AllJ.keep rfl (by rfl) (by rfl) (fun K hK => ?_) (AllJ.nil)
  refine wp_call 33 _ _ (by rfl) (enters Tryz.func33 (by kernel_rfl) rfl) (by rfl) (CL.out _ (O.tch.grown (fun _ h => h.elim))) ?_
  rintro e u ⟨rfl, g9⟩
  refine ⟨_, rfl, ?_⟩
  replace O := O.call g9
  simp only [Act.put, jq1]
  refine hK.out _ _ (RdA.grown hH g9) ?_
  replace hH := RdA.grown hH g9
  clear hK K
  clear g9
  refine wpAnyJ_ready (rs := [6]) (by kernel_rfl) (by simp) ?_
  refine AllJ.keep rfl (by rfl) (by rfl) (fun K hK => ?_) (AllJ.nil)
  refine wp_call 35 _ _ (by rfl) (enters Tryz.func35 (by kernel_rfl) rfl) (by rfl) (placeOf_ok V _) ?_
  rintro e u ⟨rfl, g9⟩
  refine ⟨_, rfl, ?_⟩
  replace O := O.call g9
  simp only [Act.put, jq1]
  refine hK.out _ _ (RdA.grown hH g9) ?_
  replace hH := RdA.grown hH g9
  clear hK K
  clear g9
  refine wpAnyJ_ready (rs := [7]) (by kernel_rfl) (by simp) ?_
  refine AllJ.keep rfl (by rfl) (by rfl) (fun K hK => ?_) (AllJ.nil)
  refine wp_call 34 _ _ (by rfl) (enters Tryz.func34 (by kernel_rfl) rfl) (by rfl) (CAH.out _) ?_
  rintro e u ⟨rfl, g9⟩
  refine ⟨_, rfl, ?_⟩
  replace O := O.call g9
  simp only [Act.put, jq1, jq2, jq3, jq4, jq5, jq6]
  refine hK.out _ _ (RdA.grown hH g9) ?_
  replace hH := RdA.grown hH g9
  clear hK K
  clear g9
  refine jp 8 ((.bool false)) (Still.all hH) ?_
  simp only [Act.put, jq1, jq2, jq3, jq4, jq5, jq6]
  refine jp 9 ((.bool false)) (Still.all hH) ?_
  simp only [Act.put, jq1, jq2, jq3, jq4, jq5, jq6]
  refine wpAnyJ_done (by kernel_rfl) ?_ _
  clear hH
  go_wp2_with (first | ((with_reducible refine @wpList_at _ _ _ _ _ _ _ (.load 4 (.tmp 66)) rfl ?_); refine wpList_load_one rfl 4 _ rfl z.s 5 rfl (.bool true) _ (F5.out.grown (O.tch.grown (fun _ h => h.elim)) (by simp)) Tryz.underlying4 rfl ?_) | ((with_reducible refine @wpList_at _ _ _ _ _ _ _ (.build 40 #[]) rfl ?_); refine wpList_build_eq rfl 40 _ rfl [] (by kernel_rfl) ZVote bVote0 ?_) | ((with_reducible refine @wpList_at _ _ _ _ _ _ _ (.store 40 (.tmp 10) (.tmp 68)) rfl ?_); refine @wpList_of_store _ _ _ _ _ _ _ _ _ _ 40 (.tmp 10) (.tmp 68) rfl O 1 b10 rfl ZVote ZVote _ rfl rfl rfl ZVote_one (sizeVote _ ZVote_length) rfl ?_; clear O; intro w O; simp only [List.set_cons_zero, List.set_cons_succ] at O))
  refine bodyPost_ret (results_cell_tmp rfl _ _ ⟨b10, 0, none⟩ _ _ rfl rfl (run_loadVar_part _ _ _ 40 ZVote _ (O.row_of (g := b10) (T := 40) (by simp)) Tryz.underlying40 rfl (sizeVote _ ZVote_length))) rfl ?_
  exact ⟨rfl, O.tch.grown (fun _ h => h.elim)⟩
set_option maxHeartbeats 8000000 in
theorem sSign_err0 {w0 : World} (z : SgP) (h : SgRep w0 z) (hx rx tx : Int) (b : List UInt8) (hh : i64R hx) (hr : i64R rx) (ht : i64R tx) (hb : b.length = 32) (hn : z.vs.length = 0) (hbad : z.bad = false) (hR : RowAt w0 3 0 (wCells rootsL)) (he : (signL z.secret (voteOf z.chain hx rx tx b)).2 ≠ 0) :
    Calls Tryz.prog 11 (SigArgs z hx rx tx b) w0 fun e w' => e = .returned (.tuple #[.agg zeroV.cells.toArray, .int .i64 (signL z.secret (voteOf z.chain hx rx tx b)).2]) ∧ w0.grownBy w' none := by
  have HWV := Lib.hid (voteOf_wf h.name hh hr ht hb)
  have HBL := Lib.hid hb
  have BV := Lib.hid (bVoteP z.chain hx rx tx b hb)
  have F3 := Lib.hid (show RowAt w0 z.s 3 [.string z.chain] from RowAt.one (h.blk.row 3 _ rfl))
  have F4 := Lib.hid (show RowAt w0 z.s 4 [z.vv] from RowAt.one (h.blk.row 4 _ rfl))
  have F5 := Lib.hid (show RowAt w0 z.s 5 [.bool z.bad] from RowAt.one (h.blk.row 5 _ rfl))
  have F1 := Lib.hid (show RowAt w0 z.s 1 [.int .u64 (z.secret : Int)] from RowAt.one (h.blk.row 1 _ rfl))
  have CL := Lib.hid (fun w (g : w0.grownBy w none) => show Calls Tryz.prog 33 #[.pointer (some ⟨z.s, 0, none⟩)] w fun e w' => e = .returned (.agg (lastP z.vs).cells.toArray) ∧ w.grownBy w' none from slast_ok (h.grown g))
  rw [hbad] at F5
  have CT := Lib.hid (fun w (g : w0.grownBy w none) => TSign_ok z.secret (voteOf z.chain hx rx tx b) w (signL_key h) HWV.out (hR.grown g (by simp)))
  have HSW := Lib.hid (show (signL z.secret (voteOf z.chain hx rx tx b)).1.wf ∧ (signL z.secret (voteOf z.chain hx rx tx b)).1 = zeroV by
    unfold signL at he ⊢
    split at he
    · rename_i h1
      rw [if_pos h1]
      split at he
      · exact absurd rfl he
      · rename_i h2
        rw [if_neg h2]
        exact ⟨zeroV_wf, rfl⟩
    · rename_i h1
      rw [if_neg h1]
      exact ⟨zeroV_wf, rfl⟩)
  obtain ⟨a4, c4, hv4, _⟩ := h.votes.shape
  rw [hn] at hv4
  rw [hv4] at F4
  clear hv4
  unfold SigArgs
  obtain ⟨V, hV⟩ : ∃ v, voteOf z.chain hx rx tx b = v := ⟨_, rfl⟩
  rw [hV] at HWV BV CT HSW he ⊢
  obtain ⟨S, hS⟩ : ∃ v, (signL z.secret V).1 = v := ⟨_, rfl⟩
  obtain ⟨c, hc⟩ : ∃ v, (signL z.secret V).2 = v := ⟨_, rfl⟩
  rw [hS] at CT HSW
  rw [hc] at CT he ⊢
  have HSL := Lib.hid (S.cells_length HSW.out.1)
  have hc1 : (c == 0) = false := by simpa using he
  have hc2 : decide (c = 0) = false := by simpa using he
  clear hS hc he
  clear h hh hr ht hb hn hbad hV hR
  have HVL := Lib.hid (V.cells_length HWV.out)
  have O := OwF.start (fun _ => False) w0
  go_enter Tryz.func11, Tryz.ntmps11
  go_upto_region 3 with (first | ((with_reducible refine @wpList_at _ _ _ _ _ _ _ (.box 26 (.tmp 4)) rfl ?_); refine @wpList_of_box _ _ _ _ _ _ _ _ _ _ 26 (.tmp 4) rfl (Lib.byteCells b) rfl O rfl ?_; clear O; intro b9 w O) | ((with_reducible refine @wpList_at _ _ _ _ _ _ _ (.alloc 40) rfl ?_); refine @wpList_of_alloc _ _ _ _ _ _ _ _ _ _ 40 rfl ZVote ZVote_info O rfl ?_; clear O; intro b10 w O))
  replace O := O.drew
  refine wp_region_J (rdf [(3, z.s, 3, [(.string z.chain)]), (7, b9, 0, (Lib.byteCells b))]) [9, 10] (by kernel_rfl) (RdA.cons (F3.out.grown (O.tch.grown (fun _ h => h.elim)) (by simp)) (RdA.cons (O.at_ 1 rfl).row RdA.nil)) (fun hH => ?_)
  refine jp 0 ((.pointer (some ⟨z.s, 0, none⟩))) (Still.all hH) ?_
  simp only [Act.put, jq1, jq2, jq3, jq4, jq5, jq6]
  refine jp 1 ((.pointer (some ⟨z.s, 0, none⟩))) (Still.all hH) ?_
  simp only [Act.put, jq1, jq3, jq4, jq5, jq6]
  refine jp 2 ((.pointer (some ⟨z.s, 3, none⟩))) (Still.all hH) ?_
  simp only [Act.put, jq1, jq2, jq3, jq4, jq5, jq6]
  refine jr 0 3 ((.string z.chain)) rfl rfl (yields_cell (by rfl) 9 _ rfl z.s 3 rfl (.string z.chain) _ (fun W h => h) Tryz.underlying9 rfl) (Still.all hH) ?_
  simp only [Act.put, jq1, jq4]
  refine jp 4 ((.int .i64 hx)) (Still.all hH) ?_
  simp only [Act.put, jq1]
  refine jp 5 ((.int .i64 rx)) (Still.all hH) ?_
  simp only [Act.put, jq1, jq2, jq3, jq4, jq5, jq6]
  refine jp 6 ((.int .i64 tx)) (Still.all hH) ?_
  simp only [Act.put, jq1]
  refine jr 1 7 ((.agg ((Lib.byteCells b)).toArray)) rfl rfl (yieldsIf_load_mid (by rfl) 26 _ rfl b9 0 rfl (Lib.byteCells b) _ (fun W h => h) Tryz.underlying26 rfl (sizeH _ (by rw [Lib.byteCells_length, HBL.out]))) (Still.all hH) ?_
  simp only [Act.put, jq1, jq2, jq3, jq4, jq5, jq6]
  refine jp 8 ((.agg V.cells.toArray)) (Still.all hH) ?_ (hy := (Or.inl ⟨by rfl, fun W _ => run_buildS 40 _ rfl [(0, .string z.chain), (1, .int .i64 hx), (2, .int .i64 rx), (3, .int .i64 tx), (4, .agg (Lib.byteCells b).toArray)] (by kernel_rfl) _ BV.out⟩))
  simp only [Act.put, jq1, jq2, jq3, jq4, jq5, jq6]
  refine wpAnyJ_ready (rs := [9]) (by kernel_rfl) (by simp) ?_
  refine AllJ.keep rfl (by rfl) (by rfl) (fun K hK => ?_) (AllJ.nil)
  refine wp_of_alloc 40 rfl ZVote ZVote_info O ?_
  clear O
  intro b12 u g2 O
  simp only [Act.put, jq1, jq2, jq3, jq4, jq5, jq6]
  refine hK.out _ _ (RdA.grown hH g2) ?_
  replace hH := RdA.grown hH g2
  clear hK K
  clear g2
  refine wpAnyJ_ready (rs := [10]) (by kernel_rfl) (by simp) ?_
  refine AllJ.turn rfl (by rfl) (by rfl) (fun K hK => ?_) (AllJ.nil)
  refine wp_of_store 40 _ _ rfl O 0 b12 rfl V.cells ZVote _ rfl rfl (by rw [HVL.out]; rfl) (VoteD_one _) (sizeVote _ HVL.out) ?_
  clear O
  intro w O
  simp only [List.set_cons_zero] at O
  simp only [Act.put, jq1, jq2, jq3, jq4, jq5, jq6]
  refine hK.out _ _ (waits_all (by kernel_rfl)) ?_
  clear hK K hH
  refine wpAnyJ_done (by kernel_rfl) ?_ _
  go_upto_region 5 with (first | ((with_reducible refine @wpList_at _ _ _ _ _ _ _ (.load 43 (.tmp 30)) rfl ?_); refine wpList_load_one rfl 43 _ rfl z.s 4 rfl (.slice a4 0 c4) _ (F4.out.grown (O.tch.grown (fun _ h => h.elim)) (by simp)) Tryz.underlying43 rfl ?_))
  replace O := O.drew
  refine wp_region_J (rdf []) [] (by kernel_rfl) RdA.nil (fun hH => ?_)
  refine jp 0 ((.int .i64 0)) (Still.all hH) ?_
  simp only [Act.put, jq1, jq2, jq3, jq4, jq5, jq6]
  refine jp 1 ((.bool false)) (Still.all hH) ?_
  simp only [Act.put, jq1, jq2, jq3]
  refine jp 2 ((.bool false)) (Still.all hH) ?_
  simp only [Act.put, jq1, jq2, jq3, jq4, jq5, jq6]
  refine jp 3 undef (Still.all hH) ?_ (hy := Or.inr ⟨by rfl, rfl⟩)
  simp only [Act.put, jq1, jq2, jq3]
  refine jp 4 undef (Still.all hH) ?_ (hy := Or.inr ⟨by rfl, rfl⟩)
  simp only [Act.put, jq1, jq2, jq3]
  refine jp 5 undef (Still.all hH) ?_ (hy := Or.inr ⟨by rfl, rfl⟩)
  simp only [Act.put, jq1, jq3, jq4, jq5, jq6]
  refine jp 6 undef (Still.all hH) ?_ (hy := Or.inr ⟨by rfl, rfl⟩)
  simp only [Act.put, jq1, jq2, jq3]
  refine jp 7 undef (Still.all hH) ?_ (hy := Or.inr ⟨by rfl, rfl⟩)
  simp only [Act.put, jq1, jq4, jq5, jq6]
  refine jp 8 undef (Still.all hH) ?_ (hy := Or.inr ⟨by rfl, rfl⟩)
  simp only [Act.put, jq1, jq4]
  refine jp 9 ((.bool false)) (Still.all hH) ?_
  simp only [Act.put, jq1]
  refine wpAnyJ_done (by kernel_rfl) ?_ _
  clear hH
  go_upto_region 12 with (first | ((with_reducible refine @wpList_at _ _ _ _ _ _ _ (.load 4 (.tmp 66)) rfl ?_); refine wpList_load_one rfl 4 _ rfl z.s 5 rfl (.bool false) _ (F5.out.grown (O.tch.grown (fun _ h => h.elim)) (by simp)) Tryz.underlying4 rfl ?_))
  replace O := O.drew
  refine wp_region_J (rdf [(3, z.s, 1, [(.int .u64 (z.secret : Int))]), (4, b12, 0, V.cells)]) [5, 9] (by kernel_rfl) (RdA.cons (F1.out.grown (O.tch.grown (fun _ h => h.elim)) (by simp)) (RdA.cons (O.at_ 0 rfl).row RdA.nil)) (fun hH => ?_)
  refine jp 0 ((.pointer (some ⟨z.s, 0, none⟩))) (Still.all hH) ?_
  simp only [Act.put, jq1, jq2, jq3, jq4, jq5, jq6]
  refine jp 1 ((.pointer (some ⟨z.s, 0, none⟩))) (Still.all hH) ?_
  simp only [Act.put, jq1, jq2, jq3, jq4, jq5, jq6]
  refine jp 2 ((.pointer (some ⟨z.s, 1, none⟩))) (Still.all hH) ?_
  simp only [Act.put, jq1, jq2, jq3, jq4, jq5, jq6]
  refine jr 0 3 ((.int .u64 (z.secret : Int))) rfl rfl (yields_cell (by rfl) 22 _ rfl z.s 1 rfl (.int .u64 (z.secret : Int)) _ (fun W h => h) Tryz.underlying22 rfl) (Still.all hH) ?_
  simp only [Act.put, jq1, jq2, jq3, jq4, jq5, jq6]
  refine jr 1 4 ((.agg (V.cells).toArray)) rfl rfl (yieldsIf_load_mid (by rfl) 40 _ rfl b12 0 rfl V.cells _ (fun W h => h) Tryz.underlying40 rfl (sizeVote _ HVL.out)) (Still.all hH) ?_
  simp only [Act.put, jq1, jq3, jq4, jq5, jq6]
  refine wpAnyJ_ready (rs := [5]) (by kernel_rfl) (by simp) ?_
  refine AllJ.keep rfl (by rfl) (by rfl) (fun K hK => ?_) (AllJ.nil)
  refine wp_call 36 _ _ (by rfl) (enters Tryz.func36 (by kernel_rfl) rfl) (by rfl) (CT.out _ (O.tch.grown (fun _ h => h.elim))) ?_
  rintro e u ⟨rfl, g9⟩
  refine ⟨_, rfl, ?_⟩
  replace O := O.call g9
  simp only [Act.put, jq1, jq2, jq3, jq4, jq5, jq6]
  refine hK.out _ _ (RdA.grown hH g9) ?_
  replace hH := RdA.grown hH g9
  clear hK K
  clear g9
  refine jp 6 ((.tuple #[.agg S.cells.toArray, .int .i64 c])) (Still.all hH) ?_
  simp only [Act.put, jq1]
  refine jp 7 ((.agg S.cells.toArray)) (Still.all hH) ?_
  simp only [Act.put, jq1]
  refine jp 8 ((.int .i64 c)) (Still.all hH) ?_
  simp only [Act.put, jq1, jq2, jq3, jq4, jq5, jq6]
  refine wpAnyJ_ready (rs := [9]) (by kernel_rfl) (by simp) ?_
  refine AllJ.turn rfl (by rfl) (by rfl) (fun K hK => ?_) (AllJ.nil)
  refine wp_of_store 40 _ _ rfl O 0 b12 rfl S.cells V.cells _ rfl rfl (by rw [HSL.out, HVL.out]) (VoteD_one _) (sizeVote _ HSL.out) ?_
  clear O
  intro w O
  simp only [List.set_cons_zero] at O
  simp only [Act.put, jq1, jq4]
  refine hK.out _ _ (waits_all (by kernel_rfl)) ?_
  clear hK K hH
  refine jp 10 ((.int .i64 c)) (Still.none (by kernel_rfl)) ?_
  simp only [Act.put, jq1, jq2, jq3, jq4, jq5, jq6]
  refine wpAnyJ_done (by kernel_rfl) ?_ _
  go_wp2_with (first | ((with_reducible refine @wpList_at _ _ _ _ _ _ _ (.build 40 #[]) rfl ?_); refine wpList_build_eq rfl 40 _ rfl [] (by kernel_rfl) ZVote bVote0 ?_) | ((with_reducible refine @wpList_at _ _ _ _ _ _ _ (.store 40 (.tmp 10) (.tmp 85)) rfl ?_); refine @wpList_of_store _ _ _ _ _ _ _ _ _ _ 40 (.tmp 10) (.tmp 85) rfl O 1 b10 rfl ZVote ZVote _ rfl rfl rfl ZVote_one (sizeVote _ ZVote_length) rfl ?_; clear O; intro w O; simp only [List.set_cons_zero, List.set_cons_succ] at O))
  refine bodyPost_ret (results_cell_tmp rfl _ _ ⟨b10, 0, none⟩ _ _ rfl rfl (run_loadVar_part _ _ _ 40 ZVote _ (O.row_of (g := b10) (T := 40) (by simp)) Tryz.underlying40 rfl (sizeVote _ ZVote_length))) rfl ?_
  exact ⟨rfl, O.tch.grown (fun _ h => h.elim)⟩
set_option maxHeartbeats 8000000 in
theorem sSign_erra {w0 : World} (z : SgP) (h : SgRep w0 z) (hx rx tx : Int) (b : List UInt8) (hh : i64R hx) (hr : i64R rx) (ht : i64R tx) (hb : b.length = 32) (hn : z.vs.length ≠ 0) (ha : aheadB (lastP z.vs) (voteOf z.chain hx rx tx b).pl = true) (hbad : z.bad = false) (hR : RowAt w0 3 0 (wCells rootsL)) (he : (signL z.secret (voteOf z.chain hx rx tx b)).2 ≠ 0) :
    Calls Tryz.prog 11 (SigArgs z hx rx tx b) w0 fun e w' => e = .returned (.tuple #[.agg zeroV.cells.toArray, .int .i64 (signL z.secret (voteOf z.chain hx rx tx b)).2]) ∧ w0.grownBy w' none := by
  have HWV := Lib.hid (voteOf_wf h.name hh hr ht hb)
  have HBL := Lib.hid hb
  have BV := Lib.hid (bVoteP z.chain hx rx tx b hb)
  have F3 := Lib.hid (show RowAt w0 z.s 3 [.string z.chain] from RowAt.one (h.blk.row 3 _ rfl))
  have F4 := Lib.hid (show RowAt w0 z.s 4 [z.vv] from RowAt.one (h.blk.row 4 _ rfl))
  have F5 := Lib.hid (show RowAt w0 z.s 5 [.bool z.bad] from RowAt.one (h.blk.row 5 _ rfl))
  have F1 := Lib.hid (show RowAt w0 z.s 1 [.int .u64 (z.secret : Int)] from RowAt.one (h.blk.row 1 _ rfl))
  have CL := Lib.hid (fun w (g : w0.grownBy w none) => show Calls Tryz.prog 33 #[.pointer (some ⟨z.s, 0, none⟩)] w fun e w' => e = .returned (.agg (lastP z.vs).cells.toArray) ∧ w.grownBy w' none from slast_ok (h.grown g))
  rw [hbad] at F5
  have CT := Lib.hid (fun w (g : w0.grownBy w none) => TSign_ok z.secret (voteOf z.chain hx rx tx b) w (signL_key h) HWV.out (hR.grown g (by simp)))
  have HSW := Lib.hid (show (signL z.secret (voteOf z.chain hx rx tx b)).1.wf ∧ (signL z.secret (voteOf z.chain hx rx tx b)).1 = zeroV by
    unfold signL at he ⊢
    split at he
    · rename_i h1
      rw [if_pos h1]
      split at he
      · exact absurd rfl he
      · rename_i h2
        rw [if_neg h2]
        exact ⟨zeroV_wf, rfl⟩
    · rename_i h1
      rw [if_neg h1]
      exact ⟨zeroV_wf, rfl⟩)
  obtain ⟨m, hm⟩ : ∃ m, z.vs.length = m + 1 := ⟨z.vs.length - 1, by omega⟩
  have hvr := votes_at h.votes h.wf m (by omega)
  rw [lastV_at hm] at hvr
  obtain ⟨g4, o4, c4, hv4, hle, hcm, hvr⟩ := hvr
  rw [hm] at hv4 hle
  rw [hv4] at F4
  have HX := Lib.hid (h.wf _ (lastV_mem (l := z.vs) (by omega)))
  have FR := Lib.hid hvr
  unfold maxLen at hcm
  have ew := IntWalk.i64_in (m : Int) (by omega)
  have hix : ¬ ((m : Int) + 1 ≤ (m : Int)) := by omega
  have hpos : decide ((0 : Int) < (m : Int) + 1) = true := decide_eq_true (by omega)
  clear hv4 hvr
  have CAH := Lib.hid (fun w => show Calls Tryz.prog 34 #[.agg (lastP z.vs).cells.toArray, .agg (voteOf z.chain hx rx tx b).pl.cells.toArray] w fun e w' => e = .returned (.bool true) ∧ w.grownBy w' none from (by have := ahead_ok (lastP z.vs) (voteOf z.chain hx rx tx b).pl w; rwa [ha] at this))
  unfold SigArgs
  obtain ⟨V, hV⟩ : ∃ v, voteOf z.chain hx rx tx b = v := ⟨_, rfl⟩
  rw [hV] at HWV BV CAH CT HSW he ⊢
  obtain ⟨LP, hLP⟩ : ∃ p, lastP z.vs = p := ⟨_, rfl⟩
  rw [hLP] at CL CAH
  obtain ⟨S, hS⟩ : ∃ v, (signL z.secret V).1 = v := ⟨_, rfl⟩
  obtain ⟨c, hc⟩ : ∃ v, (signL z.secret V).2 = v := ⟨_, rfl⟩
  rw [hS] at CT HSW
  rw [hc] at CT he ⊢
  have HSL := Lib.hid (S.cells_length HSW.out.1)
  have hc1 : (c == 0) = false := by simpa using he
  have hc2 : decide (c = 0) = false := by simpa using he
  clear hS hc he
  clear h hh hr ht hb hn hbad hV ha hLP hm hR
  have HVL := Lib.hid (V.cells_length HWV.out)
  have O := OwF.start (fun _ => False) w0
  go_enter Tryz.func11, Tryz.ntmps11
  go_upto_region 3 with (first | ((with_reducible refine @wpList_at _ _ _ _ _ _ _ (.box 26 (.tmp 4)) rfl ?_); refine @wpList_of_box _ _ _ _ _ _ _ _ _ _ 26 (.tmp 4) rfl (Lib.byteCells b) rfl O rfl ?_; clear O; intro b9 w O) | ((with_reducible refine @wpList_at _ _ _ _ _ _ _ (.alloc 40) rfl ?_); refine @wpList_of_alloc _ _ _ _ _ _ _ _ _ _ 40 rfl ZVote ZVote_info O rfl ?_; clear O; intro b10 w O))
  replace O := O.drew
  refine wp_region_J (rdf [(3, z.s, 3, [(.string z.chain)]), (7, b9, 0, (Lib.byteCells b))]) [9, 10] (by kernel_rfl) (RdA.cons (F3.out.grown (O.tch.grown (fun _ h => h.elim)) (by simp)) (RdA.cons (O.at_ 1 rfl).row RdA.nil)) (fun hH => ?_)
  refine jp 0 ((.pointer (some ⟨z.s, 0, none⟩))) (Still.all hH) ?_
  simp only [Act.put, jq1, jq2, jq3, jq4, jq5, jq6]
  refine jp 1 ((.pointer (some ⟨z.s, 0, none⟩))) (Still.all hH) ?_
  simp only [Act.put, jq1, jq2, jq3, jq4, jq5, jq6]
  refine jp 2 ((.pointer (some ⟨z.s, 3, none⟩))) (Still.all hH) ?_
  simp only [Act.put, jq1, jq2, jq3, jq4, jq5, jq6]
  refine jr 0 3 ((.string z.chain)) rfl rfl (yields_cell (by rfl) 9 _ rfl z.s 3 rfl (.string z.chain) _ (fun W h => h) Tryz.underlying9 rfl) (Still.all hH) ?_
  simp only [Act.put, jq1, jq2, jq3, jq4, jq5, jq6]
  refine jp 4 ((.int .i64 hx)) (Still.all hH) ?_
  simp only [Act.put, jq1, jq2, jq3, jq4, jq5, jq6]
  refine jp 5 ((.int .i64 rx)) (Still.all hH) ?_
  simp only [Act.put, jq1, jq3, jq4, jq5, jq6]
  refine jp 6 ((.int .i64 tx)) (Still.all hH) ?_
  simp only [Act.put, jq1, jq2, jq3, jq4, jq5, jq6]
  refine jr 1 7 ((.agg ((Lib.byteCells b)).toArray)) rfl rfl (yieldsIf_load_mid (by rfl) 26 _ rfl b9 0 rfl (Lib.byteCells b) _ (fun W h => h) Tryz.underlying26 rfl (sizeH _ (by rw [Lib.byteCells_length, HBL.out]))) (Still.all hH) ?_
  simp only [Act.put, jq1, jq4]
  refine jp 8 ((.agg V.cells.toArray)) (Still.all hH) ?_ (hy := (Or.inl ⟨by rfl, fun W _ => run_buildS 40 _ rfl [(0, .string z.chain), (1, .int .i64 hx), (2, .int .i64 rx), (3, .int .i64 tx), (4, .agg (Lib.byteCells b).toArray)] (by kernel_rfl) _ BV.out⟩))
  simp only [Act.put, jq1, jq2, jq3]
  refine wpAnyJ_ready (rs := [9]) (by kernel_rfl) (by simp) ?_
  refine AllJ.keep rfl (by rfl) (by rfl) (fun K hK => ?_) (AllJ.nil)
  refine wp_of_alloc 40 rfl ZVote ZVote_info O ?_
  clear O
  intro b12 u g2 O
  simp only [Act.put, jq1, jq4, jq5, jq6]
  refine hK.out _ _ (RdA.grown hH g2) ?_
  replace hH := RdA.grown hH g2
  clear hK K
  clear g2
  refine wpAnyJ_ready (rs := [10]) (by kernel_rfl) (by simp) ?_
  refine AllJ.turn rfl (by rfl) (by rfl) (fun K hK => ?_) (AllJ.nil)
  refine wp_of_store 40 _ _ rfl O 0 b12 rfl V.cells ZVote _ rfl rfl (by rw [HVL.out]; rfl) (VoteD_one _) (sizeVote _ HVL.out) ?_
  clear O
  intro w O
  simp only [List.set_cons_zero] at O
  simp only [Act.put, jq1, jq2, jq3, jq4, jq5, jq6]
  refine hK.out _ _ (waits_all (by kernel_rfl)) ?_
  clear hK K hH
  refine wpAnyJ_done (by kernel_rfl) ?_ _
  go_upto_region 5 with (first | ((with_reducible refine @wpList_at _ _ _ _ _ _ _ (.load 43 (.tmp 30)) rfl ?_); refine wpList_load_one rfl 43 _ rfl z.s 4 rfl (.slice (some ⟨g4, o4, none⟩) (m + 1) c4) _ (F4.out.grown (O.tch.grown (fun _ h => h.elim)) (by simp)) Tryz.underlying43 rfl ?_))
  replace O := O.drew
  refine wp_region_J (rdf [(5, b12, 0, V.cells)]) [4, 6, 7] (by kernel_rfl) (RdA.cons (O.at_ 0 rfl).row RdA.nil) (fun hH => ?_)
  refine jp 0 ((.int .i64 ((m + 1 : Nat) : Int))) (Still.all hH) ?_
  simp only [Act.put, jq1, jq3, jq4, jq5, jq6]
  refine jp 1 ((.bool true)) (Still.all hH) ?_
  simp only [Act.put, jq1, jq2, jq3, jq4, jq5, jq6]
  refine jp 2 ((.bool true)) (Still.all hH) ?_
  simp only [Act.put, jq1, jq2, jq3, jq4, jq5, jq6]
  refine jp 3 ((.pointer (some ⟨z.s, 0, none⟩))) (Still.all hH) ?_
  simp only [Act.put, jq1, jq2, jq3, jq4, jq5, jq6]
  refine jr 0 5 ((.agg (V.cells).toArray)) rfl rfl (yieldsIf_load_mid (by rfl) 40 _ rfl b12 0 rfl V.cells _ (fun W h => h) Tryz.underlying40 rfl (sizeVote _ HVL.out)) (Still.all hH) ?_
  simp only [Act.put, jq1, jq2, jq3, jq4, jq5, jq6]
  refine wpAnyJ_ready (rs := [4]) (by kernel_rfl) (by simp) ?_
  refine AllJ.keep rfl (by rfl) (by rfl) (fun K hK => ?_) (AllJ.nil)
  refine wp_call 33 _ _ (by rfl) (enters Tryz.func33 (by kernel_rfl) rfl) (by rfl) (CL.out _ (O.tch.grown (fun _ h => h.elim))) ?_
  rintro e u ⟨rfl, g9⟩
  refine ⟨_, rfl, ?_⟩
  replace O := O.call g9
  simp only [Act.put, jq1, jq2, jq3, jq4, jq5, jq6]
  refine hK.out _ _ (RdA.grown hH g9) ?_
  replace hH := RdA.grown hH g9
  clear hK K
  clear g9
  refine wpAnyJ_ready (rs := [6]) (by kernel_rfl) (by simp) ?_
  refine AllJ.keep rfl (by rfl) (by rfl) (fun K hK => ?_) (AllJ.nil)
  refine wp_call 35 _ _ (by rfl) (enters Tryz.func35 (by kernel_rfl) rfl) (by rfl) (placeOf_ok V _) ?_
  rintro e u ⟨rfl, g9⟩
  refine ⟨_, rfl, ?_⟩
  replace O := O.call g9
  simp only [Act.put, jq1, jq2, jq3]
  refine hK.out _ _ (RdA.grown hH g9) ?_
  replace hH := RdA.grown hH g9
  clear hK K
  clear g9
  refine wpAnyJ_ready (rs := [7]) (by kernel_rfl) (by simp) ?_
  refine AllJ.keep rfl (by rfl) (by rfl) (fun K hK => ?_) (AllJ.nil)
  refine wp_call 34 _ _ (by rfl) (enters Tryz.func34 (by kernel_rfl) rfl) (by rfl) (CAH.out _) ?_
  rintro e u ⟨rfl, g9⟩
  refine ⟨_, rfl, ?_⟩
  replace O := O.call g9
  simp only [Act.put, jq1, jq2, jq3, jq4, jq5, jq6]
  refine hK.out _ _ (RdA.grown hH g9) ?_
  replace hH := RdA.grown hH g9
  clear hK K
  clear g9
  refine jp 8 ((.bool false)) (Still.all hH) ?_
  simp only [Act.put, jq1, jq2, jq3]
  refine jp 9 ((.bool false)) (Still.all hH) ?_
  simp only [Act.put, jq1, jq2, jq3]
  refine wpAnyJ_done (by kernel_rfl) ?_ _
  clear hH
  go_upto_region 12 with (first | ((with_reducible refine @wpList_at _ _ _ _ _ _ _ (.load 4 (.tmp 66)) rfl ?_); refine wpList_load_one rfl 4 _ rfl z.s 5 rfl (.bool false) _ (F5.out.grown (O.tch.grown (fun _ h => h.elim)) (by simp)) Tryz.underlying4 rfl ?_))
  replace O := O.drew
  refine wp_region_J (rdf [(3, z.s, 1, [(.int .u64 (z.secret : Int))]), (4, b12, 0, V.cells)]) [5, 9] (by kernel_rfl) (RdA.cons (F1.out.grown (O.tch.grown (fun _ h => h.elim)) (by simp)) (RdA.cons (O.at_ 0 rfl).row RdA.nil)) (fun hH => ?_)
  refine jp 0 ((.pointer (some ⟨z.s, 0, none⟩))) (Still.all hH) ?_
  simp only [Act.put, jq1, jq2, jq3, jq4, jq5, jq6]
  refine jp 1 ((.pointer (some ⟨z.s, 0, none⟩))) (Still.all hH) ?_
  simp only [Act.put, jq1, jq3]
  refine jp 2 ((.pointer (some ⟨z.s, 1, none⟩))) (Still.all hH) ?_
  simp only [Act.put, jq1, jq2, jq3, jq4, jq5, jq6]
  refine jr 0 3 ((.int .u64 (z.secret : Int))) rfl rfl (yields_cell (by rfl) 22 _ rfl z.s 1 rfl (.int .u64 (z.secret : Int)) _ (fun W h => h) Tryz.underlying22 rfl) (Still.all hH) ?_
  simp only [Act.put, jq1, jq4]
  refine jr 1 4 ((.agg (V.cells).toArray)) rfl rfl (yieldsIf_load_mid (by rfl) 40 _ rfl b12 0 rfl V.cells _ (fun W h => h) Tryz.underlying40 rfl (sizeVote _ HVL.out)) (Still.all hH) ?_
  simp only [Act.put, jq1, jq2, jq3, jq4, jq5, jq6]
  refine wpAnyJ_ready (rs := [5]) (by kernel_rfl) (by simp) ?_
  refine AllJ.keep rfl (by rfl) (by rfl) (fun K hK => ?_) (AllJ.nil)
  refine wp_call 36 _ _ (by rfl) (enters Tryz.func36 (by kernel_rfl) rfl) (by rfl) (CT.out _ (O.tch.grown (fun _ h => h.elim))) ?_
  rintro e u ⟨rfl, g9⟩
  refine ⟨_, rfl, ?_⟩
  replace O := O.call g9
  simp only [Act.put, jq1, jq2, jq3, jq4, jq5, jq6]
  refine hK.out _ _ (RdA.grown hH g9) ?_
  replace hH := RdA.grown hH g9
  clear hK K
  clear g9
  refine jp 6 ((.tuple #[.agg S.cells.toArray, .int .i64 c])) (Still.all hH) ?_
  simp only [Act.put, jq1, jq2, jq3, jq4, jq5, jq6]
  refine jp 7 ((.agg S.cells.toArray)) (Still.all hH) ?_
  simp only [Act.put, jq1, jq2, jq3, jq4, jq5, jq6]
  refine jp 8 ((.int .i64 c)) (Still.all hH) ?_
  simp only [Act.put, jq1, jq2, jq3, jq4, jq5, jq6]
  refine wpAnyJ_ready (rs := [9]) (by kernel_rfl) (by simp) ?_
  refine AllJ.turn rfl (by rfl) (by rfl) (fun K hK => ?_) (AllJ.nil)
  refine wp_of_store 40 _ _ rfl O 0 b12 rfl S.cells V.cells _ rfl rfl (by rw [HSL.out, HVL.out]) (VoteD_one _) (sizeVote _ HSL.out) ?_
  clear O
  intro w O
  simp only [List.set_cons_zero] at O
  simp only [Act.put, jq1, jq3, jq4, jq5, jq6]
  refine hK.out _ _ (waits_all (by kernel_rfl)) ?_
  clear hK K hH
  refine jp 10 ((.int .i64 c)) (Still.none (by kernel_rfl)) ?_
  simp only [Act.put, jq1, jq2, jq3, jq4, jq5, jq6]
  refine wpAnyJ_done (by kernel_rfl) ?_ _
  go_wp2_with (first | ((with_reducible refine @wpList_at _ _ _ _ _ _ _ (.build 40 #[]) rfl ?_); refine wpList_build_eq rfl 40 _ rfl [] (by kernel_rfl) ZVote bVote0 ?_) | ((with_reducible refine @wpList_at _ _ _ _ _ _ _ (.store 40 (.tmp 10) (.tmp 85)) rfl ?_); refine @wpList_of_store _ _ _ _ _ _ _ _ _ _ 40 (.tmp 10) (.tmp 85) rfl O 1 b10 rfl ZVote ZVote _ rfl rfl rfl ZVote_one (sizeVote _ ZVote_length) rfl ?_; clear O; intro w O; simp only [List.set_cons_zero, List.set_cons_succ] at O))
  refine bodyPost_ret (results_cell_tmp rfl _ _ ⟨b10, 0, none⟩ _ _ rfl rfl (run_loadVar_part _ _ _ 40 ZVote _ (O.row_of (g := b10) (T := 40) (by simp)) Tryz.underlying40 rfl (sizeVote _ ZVote_length))) rfl ?_
  exact ⟨rfl, O.tch.grown (fun _ h => h.elim)⟩
set_option maxHeartbeats 8000000 in
theorem sSign_new0 {w0 : World} (z : SgP) (h : SgRep w0 z) (hx rx tx : Int) (b : List UInt8) (hh : i64R hx) (hr : i64R rx) (ht : i64R tx) (hb : b.length = 32) (hn : z.vs.length = 0) (hbad : z.bad = false) (hR : RowAt w0 3 0 (wCells rootsL)) (hroom : z.y.room 1) (he : (signL z.secret (voteOf z.chain hx rx tx b)).2 = 0) (_hlen : z.vs.length ≤ 100000) :
    Calls Tryz.prog 11 (SigArgs z hx rx tx b) w0 fun e w' => e = .returned (.tuple #[.agg (signL z.secret (voteOf z.chain hx rx tx b)).1.cells.toArray, .int .i64 0]) ∧ SignNew w0 z (signL z.secret (voteOf z.chain hx rx tx b)).1 w' := by
  have HWV := Lib.hid (voteOf_wf h.name hh hr ht hb)
  have HBL := Lib.hid hb
  have BV := Lib.hid (bVoteP z.chain hx rx tx b hb)
  have F3 := Lib.hid (show RowAt w0 z.s 3 [.string z.chain] from RowAt.one (h.blk.row 3 _ rfl))
  have F4 := Lib.hid (show RowAt w0 z.s 4 [z.vv] from RowAt.one (h.blk.row 4 _ rfl))
  have F5 := Lib.hid (show RowAt w0 z.s 5 [.bool z.bad] from RowAt.one (h.blk.row 5 _ rfl))
  have F1 := Lib.hid (show RowAt w0 z.s 1 [.int .u64 (z.secret : Int)] from RowAt.one (h.blk.row 1 _ rfl))
  have CL := Lib.hid (fun w (g : w0.grownBy w none) => show Calls Tryz.prog 33 #[.pointer (some ⟨z.s, 0, none⟩)] w fun e w' => e = .returned (.agg (lastP z.vs).cells.toArray) ∧ w.grownBy w' none from slast_ok (h.grown g))
  rw [hbad] at F5
  have CT := Lib.hid (fun w (g : w0.grownBy w none) => TSign_ok z.secret (voteOf z.chain hx rx tx b) w (signL_key h) HWV.out (hR.grown g (by simp)))
  have hsl := signL_ok z.secret _ HWV.out he
  have HSW := Lib.hid (show (signL z.secret (voteOf z.chain hx rx tx b)).1.wf ∧ okVote (signL z.secret (voteOf z.chain hx rx tx b)).1 = true by
    rw [hsl.2.2]
    have hp := signL_key h
    refine ⟨by_wf _ HWV.out _ _ _ ?_ ?_ ?_, hsl.1⟩
    · have : pw 37 z.secret < pP := pw_lt _ _
      unfold pP at this; omega
    · exact Nat.lt_trans (pw_lt _ _) (by unfold pP; decide)
    · exact sgS_u64 _ _)
  have CK := Lib.hid (fun w (g : w0.grownBy w none) => keep_ok (h.grown g) _ HSW.out.1 HSW.out.2 hroom (hR.grown g (by simp)))
  have HH := Lib.hid h
  have HVR := h.votes
  rw [hn] at HVR
  obtain ⟨a4, c4, hv4, _⟩ := HVR.shape
  rw [hv4] at F4 HVR
  have HVS := Lib.hid HVR
  have HVV := Lib.hid hv4
  have HNN := Lib.hid hn
  clear hv4 HVR
  unfold SigArgs
  obtain ⟨V, hV⟩ : ∃ v, voteOf z.chain hx rx tx b = v := ⟨_, rfl⟩
  rw [hV] at HWV BV CT HSW CK he ⊢
  obtain ⟨S, hS⟩ : ∃ v, (signL z.secret V).1 = v := ⟨_, rfl⟩
  rw [hS] at CT HSW CK ⊢
  rw [he] at CT
  have HSL := Lib.hid (S.cells_length HSW.out.1)
  have HLN := Lib.hid (show 0 ≤ 1000000 by decide)
  clear hroom hS he hsl
  clear h hh hr ht hb hn hbad hV hR
  have HVL := Lib.hid (V.cells_length HWV.out)
  have O := OwF.start (fun _ => False) w0
  go_enter Tryz.func11, Tryz.ntmps11
  go_upto_region 3 with (first | ((with_reducible refine @wpList_at _ _ _ _ _ _ _ (.box 26 (.tmp 4)) rfl ?_); refine @wpList_of_box _ _ _ _ _ _ _ _ _ _ 26 (.tmp 4) rfl (Lib.byteCells b) rfl O rfl ?_; clear O; intro b9 w O) | ((with_reducible refine @wpList_at _ _ _ _ _ _ _ (.alloc 40) rfl ?_); refine @wpList_of_alloc _ _ _ _ _ _ _ _ _ _ 40 rfl ZVote ZVote_info O rfl ?_; clear O; intro b10 w O))
  replace O := O.drew
  refine wp_region_J (rdf [(3, z.s, 3, [(.string z.chain)]), (7, b9, 0, (Lib.byteCells b))]) [9, 10] (by kernel_rfl) (RdA.cons (F3.out.grown (O.tch.grown (fun _ h => h.elim)) (by simp)) (RdA.cons (O.at_ 1 rfl).row RdA.nil)) (fun hH => ?_)
  refine jp 0 ((.pointer (some ⟨z.s, 0, none⟩))) (Still.all hH) ?_
  simp only [Act.put, jq1, jq4]
  refine jp 1 ((.pointer (some ⟨z.s, 0, none⟩))) (Still.all hH) ?_
  simp only [Act.put, jq1, jq3, jq4, jq5, jq6]
  refine jp 2 ((.pointer (some ⟨z.s, 3, none⟩))) (Still.all hH) ?_
  simp only [Act.put, jq1, jq2, jq3, jq4, jq5, jq6]
  refine jr 0 3 ((.string z.chain)) rfl rfl (yields_cell (by rfl) 9 _ rfl z.s 3 rfl (.string z.chain) _ (fun W h => h) Tryz.underlying9 rfl) (Still.all hH) ?_
  simp only [Act.put, jq1]
  refine jp 4 ((.int .i64 hx)) (Still.all hH) ?_
  simp only [Act.put, jq1, jq2, jq3, jq4, jq5, jq6]
  refine jp 5 ((.int .i64 rx)) (Still.all hH) ?_
  simp only [Act.put, jq1, jq2, jq3, jq4, jq5, jq6]
  refine jp 6 ((.int .i64 tx)) (Still.all hH) ?_
  simp only [Act.put, jq1, jq2, jq3, jq4, jq5, jq6]
  refine jr 1 7 ((.agg ((Lib.byteCells b)).toArray)) rfl rfl (yieldsIf_load_mid (by rfl) 26 _ rfl b9 0 rfl (Lib.byteCells b) _ (fun W h => h) Tryz.underlying26 rfl (sizeH _ (by rw [Lib.byteCells_length, HBL.out]))) (Still.all hH) ?_
  simp only [Act.put, jq1, jq2, jq3, jq4, jq5, jq6]
  refine jp 8 ((.agg V.cells.toArray)) (Still.all hH) ?_ (hy := (Or.inl ⟨by rfl, fun W _ => run_buildS 40 _ rfl [(0, .string z.chain), (1, .int .i64 hx), (2, .int .i64 rx), (3, .int .i64 tx), (4, .agg (Lib.byteCells b).toArray)] (by kernel_rfl) _ BV.out⟩))
  simp only [Act.put, jq1, jq2, jq3, jq4, jq5, jq6]
  refine wpAnyJ_ready (rs := [9]) (by kernel_rfl) (by simp) ?_
  refine AllJ.keep rfl (by rfl) (by rfl) (fun K hK => ?_) (AllJ.nil)
  refine wp_of_alloc 40 rfl ZVote ZVote_info O ?_
  clear O
  intro b12 u g2 O
  simp only [Act.put, jq1, jq2, jq3]
  refine hK.out _ _ (RdA.grown hH g2) ?_
  replace hH := RdA.grown hH g2
  clear hK K
  clear g2
  refine wpAnyJ_ready (rs := [10]) (by kernel_rfl) (by simp) ?_
  refine AllJ.turn rfl (by rfl) (by rfl) (fun K hK => ?_) (AllJ.nil)
  refine wp_of_store 40 _ _ rfl O 0 b12 rfl V.cells ZVote _ rfl rfl (by rw [HVL.out]; rfl) (VoteD_one _) (sizeVote _ HVL.out) ?_
  clear O
  intro w O
  simp only [List.set_cons_zero] at O
  simp only [Act.put, jq1]
  refine hK.out _ _ (waits_all (by kernel_rfl)) ?_
  clear hK K hH
  refine wpAnyJ_done (by kernel_rfl) ?_ _
  go_upto_region 5 with (first | ((with_reducible refine @wpList_at _ _ _ _ _ _ _ (.load 43 (.tmp 30)) rfl ?_); refine wpList_load_one rfl 43 _ rfl z.s 4 rfl (.slice a4 0 c4) _ (F4.out.grown (O.tch.grown (fun _ h => h.elim)) (by simp)) Tryz.underlying43 rfl ?_))
  replace O := O.drew
  refine wp_region_J (rdf []) [] (by kernel_rfl) RdA.nil (fun hH => ?_)
  refine jp 0 ((.int .i64 0)) (Still.all hH) ?_
  simp only [Act.put, jq1, jq2, jq3]
  refine jp 1 ((.bool false)) (Still.all hH) ?_
  simp only [Act.put, jq1, jq2, jq3, jq4, jq5, jq6]
  refine jp 2 ((.bool false)) (Still.all hH) ?_
  simp only [Act.put, jq1, jq2, jq3]
  refine jp 3 undef (Still.all hH) ?_ (hy := Or.inr ⟨by rfl, rfl⟩)
  simp only [Act.put, jq1, jq4, jq5, jq6]
  refine jp 4 undef (Still.all hH) ?_ (hy := Or.inr ⟨by rfl, rfl⟩)
  simp only [Act.put, jq1, jq2, jq3, jq4, jq5, jq6]
  refine jp 5 undef (Still.all hH) ?_ (hy := Or.inr ⟨by rfl, rfl⟩)
  simp only [Act.put, jq1, jq4]
  refine jp 6 undef (Still.all hH) ?_ (hy := Or.inr ⟨by rfl, rfl⟩)
  simp only [Act.put, jq1]
  refine jp 7 undef (Still.all hH) ?_ (hy := Or.inr ⟨by rfl, rfl⟩)
  simp only [Act.put, jq1, jq2, jq3, jq4, jq5, jq6]
  refine jp 8 undef (Still.all hH) ?_ (hy := Or.inr ⟨by rfl, rfl⟩)
  simp only [Act.put, jq1, jq2, jq3, jq4, jq5, jq6]
  refine jp 9 ((.bool false)) (Still.all hH) ?_
  simp only [Act.put, jq1, jq2, jq3, jq4, jq5, jq6]
  refine wpAnyJ_done (by kernel_rfl) ?_ _
  clear hH
  go_upto_region 12 with (first | ((with_reducible refine @wpList_at _ _ _ _ _ _ _ (.load 4 (.tmp 66)) rfl ?_); refine wpList_load_one rfl 4 _ rfl z.s 5 rfl (.bool false) _ (F5.out.grown (O.tch.grown (fun _ h => h.elim)) (by simp)) Tryz.underlying4 rfl ?_))
  replace O := O.drew
  refine wp_region_J (rdf [(3, z.s, 1, [(.int .u64 (z.secret : Int))]), (4, b12, 0, V.cells)]) [5, 9] (by kernel_rfl) (RdA.cons (F1.out.grown (O.tch.grown (fun _ h => h.elim)) (by simp)) (RdA.cons (O.at_ 0 rfl).row RdA.nil)) (fun hH => ?_)
  refine jp 0 ((.pointer (some ⟨z.s, 0, none⟩))) (Still.all hH) ?_
  simp only [Act.put, jq1, jq2, jq3, jq4, jq5, jq6]
  refine jp 1 ((.pointer (some ⟨z.s, 0, none⟩))) (Still.all hH) ?_
  simp only [Act.put, jq1, jq2, jq3, jq4, jq5, jq6]
  refine jp 2 ((.pointer (some ⟨z.s, 1, none⟩))) (Still.all hH) ?_
  simp only [Act.put, jq1, jq2, jq3, jq4, jq5, jq6]
  refine jr 0 3 ((.int .u64 (z.secret : Int))) rfl rfl (yields_cell (by rfl) 22 _ rfl z.s 1 rfl (.int .u64 (z.secret : Int)) _ (fun W h => h) Tryz.underlying22 rfl) (Still.all hH) ?_
  simp only [Act.put, jq1, jq2, jq3, jq4, jq5, jq6]
  refine jr 1 4 ((.agg (V.cells).toArray)) rfl rfl (yieldsIf_load_mid (by rfl) 40 _ rfl b12 0 rfl V.cells _ (fun W h => h) Tryz.underlying40 rfl (sizeVote _ HVL.out)) (Still.all hH) ?_
  simp only [Act.put, jq1, jq2, jq3]
  refine wpAnyJ_ready (rs := [5]) (by kernel_rfl) (by simp) ?_
  refine AllJ.keep rfl (by rfl) (by rfl) (fun K hK => ?_) (AllJ.nil)
  refine wp_call 36 _ _ (by rfl) (enters Tryz.func36 (by kernel_rfl) rfl) (by rfl) (CT.out _ (O.tch.grown (fun _ h => h.elim))) ?_
  rintro e u ⟨rfl, g9⟩
  refine ⟨_, rfl, ?_⟩
  replace O := O.call g9
  simp only [Act.put, jq1, jq2, jq3, jq4, jq5, jq6]
  refine hK.out _ _ (RdA.grown hH g9) ?_
  replace hH := RdA.grown hH g9
  clear hK K
  clear g9
  refine jp 6 ((.tuple #[.agg S.cells.toArray, .int .i64 0])) (Still.all hH) ?_
  simp only [Act.put, jq1, jq3]
  refine jp 7 ((.agg S.cells.toArray)) (Still.all hH) ?_
  simp only [Act.put, jq1, jq4]
  refine jp 8 ((.int .i64 0)) (Still.all hH) ?_
  simp only [Act.put, jq1]
  refine wpAnyJ_ready (rs := [9]) (by kernel_rfl) (by simp) ?_
  refine AllJ.turn rfl (by rfl) (by rfl) (fun K hK => ?_) (AllJ.nil)
  refine wp_of_store 40 _ _ rfl O 0 b12 rfl S.cells V.cells _ rfl rfl (by rw [HSL.out, HVL.out]) (VoteD_one _) (sizeVote _ HSL.out) ?_
  clear O
  intro w O
  simp only [List.set_cons_zero] at O
  simp only [Act.put, jq1, jq3, jq4, jq5, jq6]
  refine hK.out _ _ (waits_all (by kernel_rfl)) ?_
  clear hK K hH
  refine jp 10 ((.int .i64 0)) (Still.none (by kernel_rfl)) ?_
  simp only [Act.put, jq1, jq2, jq3, jq4, jq5, jq6]
  refine wpAnyJ_done (by kernel_rfl) ?_ _
  go_wp2_with (first | ((with_reducible refine @wpList_at _ _ _ _ _ _ _ (.load 40 (.tmp 12)) rfl ?_); refine @wpList_of_whole _ _ _ _ _ _ _ _ _ _ 40 (.tmp 12) rfl O 0 b12 rfl S.cells _ rfl _ Tryz.underlying40 rfl (sizeVote _ HSL.out) rfl ?_))
  refine (CK.out w (O.tch.grown (fun _ h => h.elim))).mono ?_
  rintro e u ⟨rfl, bv, sv, rv, rw, sv2, hp⟩
  have HG := Lib.hid (show w0.grownBy w none from O.tch.grown (fun _ h => h.elim))
  have HP := Lib.hid hp
  have HLT := Lib.hid (show ∀ k, z.y.foot k → k < w0.heap.size from fun k hk => HH.out.log.lt hk)
  have HBN := Lib.hid (show w0.heap.size ≤ b12 ∧ w0.heap.size ≤ b10 ∧ b10 ≠ b12 from ⟨(O.lie 0 rfl).resolve_right id, (O.lie 1 rfl).resolve_right id, O.ne (i := 1) (j := 0) rfl rfl (by decide)⟩)
  have hb12 := hp.2.1.blk (O.at_ 0 rfl) (fun hf => by have h1 := HLT.out _ hf; have h2 := HBN.out; omega)
  have hb10 := hp.2.1.blk (O.at_ 1 rfl) (fun hf => by have h1 := HLT.out _ hf; have h2 := HBN.out; omega)
  have hbs := (HH.out.blk.grown HG.out (by simp)).ty_keep hp.2.1 (HH.out.log.grown HG.out).tys (by decide)
  have hsw := HH.out.blk.lt
  have hvu := (HVS.out.grown HG.out).ty_keep hp.2.1 (HH.out.log.grown HG.out).tys (by decide)
  unfold SgP.cells at hbs
  rw [HVV.out] at hbs
  have HNO := Lib.hid (show ∀ k, (Value.ownBlock (.slice a4 0 c4)) = some k → k ≠ z.s ∧ k < w0.heap.size from fun k hk => ⟨fun e => HVS.out.ne HH.out.blk (by decide) (e ▸ hk), HVS.out.lt hk⟩)
  have HVU := Lib.hid hvu; have HB12 := Lib.hid hb12; have HB10 := Lib.hid hb10; have HBS := Lib.hid hbs; have HSW0 := Lib.hid hsw
  obtain ⟨F2, hF2⟩ : ∃ F : Nat → Prop, F = fun k => k = z.s ∨ k = b10 ∨ k = b12 := ⟨_, rfl⟩
  have HF2 := Lib.hid (show ∀ k, F2 k ↔ (k = z.s ∨ k = b10 ∨ k = b12) from fun k => by rw [hF2])
  clear O hF2 hvu hp
  have O := (((OwF.start F2 u).add hb12 ((HF2.out _).2 (.inr (.inr rfl))) (by simp)).add hb10 ((HF2.out _).2 (.inr (.inl rfl))) (by intro e he; simp only [List.mem_cons, List.not_mem_nil, or_false] at he; rcases he with rfl; exact HBN.out.2.2)).add hbs ((HF2.out _).2 (.inl rfl)) (by intro e he; have h1 := HBN.out; simp only [List.mem_cons, List.not_mem_nil, or_false] at he; rcases he with rfl | rfl <;> (dsimp only; omega))
  clear hb12 hb10 hbs hsw
  go_upto_region 17 with fail
  replace O := O.drew
  refine wp_region_J (rdf [(4, z.s, 4, [(.slice a4 0 c4)]), (5, b12, 0, S.cells)]) [6, 7, 10] (by kernel_rfl) (RdA.cons (O.cellr (n := 0) rfl rfl) (RdA.cons (O.at_ 2 rfl).row RdA.nil)) (fun hH => ?_)
  refine jp 0 ((.pointer (some ⟨z.s, 0, none⟩))) (Still.all hH) ?_
  simp only [Act.put, jq1, jq2, jq3, jq4, jq5, jq6]
  refine jp 1 ((.pointer (some ⟨z.s, 0, none⟩))) (Still.all hH) ?_
  simp only [Act.put, jq1, jq2, jq3, jq4, jq5, jq6]
  refine jp 2 ((.pointer (some ⟨z.s, 0, none⟩))) (Still.all hH) ?_
  simp only [Act.put, jq1, jq2, jq3, jq4, jq5, jq6]
  refine jp 3 ((.pointer (some ⟨z.s, 4, none⟩))) (Still.all hH) ?_
  simp only [Act.put, jq1]
  refine jr 0 4 ((.slice a4 0 c4)) rfl rfl (yields_cell (by rfl) 43 _ rfl z.s 4 rfl (.slice a4 0 c4) _ (fun W h => h) Tryz.underlying43 rfl) (Still.all hH) ?_
  simp only [Act.put, jq1, jq2, jq3, jq4, jq5, jq6]
  refine jr 1 5 ((.agg (S.cells).toArray)) rfl rfl (yieldsIf_load_mid (by rfl) 40 _ rfl b12 0 rfl S.cells _ (fun W h => h) Tryz.underlying40 rfl (sizeVote _ HSL.out)) (Still.all hH) ?_
  simp only [Act.put, jq1, jq2, jq3, jq4, jq5, jq6]
  refine wpAnyJ_ready (rs := [6]) (by kernel_rfl) (by simp) ?_
  refine AllJ.keep rfl (by rfl) (by rfl) (fun K hK => ?_) (AllJ.nil)
  refine wp_of_slice1 43 _ rfl S.cells rfl 40 _ 39 Tryz.underlying43 vote_inf2 HSL.out (by decide) O ?_
  clear O
  intro b8 u9 g2 O
  simp only [Act.put, jq1, jq4]
  refine hK.out _ _ (RdA.grown hH g2) ?_
  replace hH := RdA.grown hH g2
  clear hK K
  clear g2
  refine wpAnyJ_ready (rs := [7]) (by kernel_rfl) (by simp) ?_
  refine AllJ.keep rfl (by rfl) (by rfl) (fun K hK => ?_) (AllJ.nil)
  have hnf : ∀ k, (Value.ownBlock (.slice a4 0 c4)) = some k → ¬ F2 k := fun k hk hf => by have h1 := HNO.out k hk; have h2 := HBN.out; rcases (HF2.out k).1 hf with h | h | h <;> omega
  have hs9 := HVU.out.tch O.tch hnf
  have hH9 : ∀ e ∈ ([(4, z.s, 4, [(.slice a4 0 c4)]), (5, b12, 0, S.cells)] : RdR), (Value.ownBlock (.slice a4 0 c4)) ≠ some e.2.1 := by intro e he; simp only [List.mem_cons, List.not_mem_nil, or_false] at he; rcases he with rfl | rfl; exact fun e => (HNO.out z.s e).1 rfl; exact fun e => by have h1 := HNO.out b12 e; have h2 := HBN.out; omega
  refine wp_of_app _ _ 43 rfl 40 (.agg ZVote.toArray) 39 96 Tryz.underlying43 vote_inf rfl (.slice a4 0 c4) 0 (votesCells z.vs) rfl hs9 b8 rfl S.cells (O.at_ 0 rfl).row HSL.out (VoteD_one _) HLN.out (by decide) ?_
  intro v7 u7 hS t9 o9
  obtain ⟨a7, c7, hv7, _⟩ := hS.shape
  subst hv7
  have HS9 := Lib.hid hS; have HO9 := Lib.hid o9; have HT9 := Lib.hid t9; have HTO := Lib.hid O.tch
  have hq1 := t9.blk (O.at_ 1 rfl) (fun e => (HNO.out z.s e).1 rfl)
  have hq2 := t9.blk (O.at_ 2 rfl) (fun e => by have h1 := HNO.out b10 e; have h2 := HBN.out; omega)
  have hq3 := t9.blk (O.at_ 3 rfl) (fun e => by have h1 := HNO.out b12 e; have h2 := HBN.out; omega)
  have HLS := Lib.hid (show z.s < u9.heap.size ∧ b10 < u9.heap.size ∧ b12 < u9.heap.size from ⟨(O.at_ 1 rfl).lt, (O.at_ 2 rfl).lt, (O.at_ 3 rfl).lt⟩)
  have OQ := (((OwF.start F2 u7).add hq3 ((HF2.out _).2 (.inr (.inr rfl))) (by simp)).add hq2 ((HF2.out _).2 (.inr (.inl rfl))) (by intro e he; simp only [List.mem_cons, List.not_mem_nil, or_false] at he; rcases he with rfl; exact HBN.out.2.2)).add hq1 ((HF2.out _).2 (.inl rfl)) (by intro e he; have h1 := HBN.out; have h3 := HSW0.out; simp only [List.mem_cons, List.not_mem_nil, or_false] at he; rcases he with rfl | rfl <;> (dsimp only; omega))
  clear O hS t9 o9 hs9 hq1 hq2 hq3
  simp only [Act.put, jq1, jq3, jq4, jq5, jq6]
  refine hK.out _ _ (RdA.tch hH HT9.out hH9) ?_
  replace hH := RdA.tch hH HT9.out hH9
  clear hK K hH9
  refine jp 8 ((.pointer (some ⟨z.s, 0, none⟩))) (Still.all hH) ?_
  simp only [Act.put, jq1]
  refine jp 9 ((.pointer (some ⟨z.s, 4, none⟩))) (Still.all hH) ?_
  simp only [Act.put, jq1, jq2, jq3, jq4, jq5, jq6]
  refine wpAnyJ_ready (rs := [10]) (by kernel_rfl) (by simp) ?_
  refine AllJ.turn rfl (by rfl) (by rfl) (fun K hK => ?_) (AllJ.nil)
  refine wp_of_store_cell 43 _ _ rfl OQ 0 z.s 4 rfl (.slice a7 (0 + 1) c7) rfl rfl _ _ rfl (by show (4 : Nat) < 6; decide) rfl ?_
  clear OQ
  intro w OQ
  simp only [List.set_cons_zero, List.set_cons_succ] at OQ
  simp only [Act.put, jq1, jq2, jq3, jq4, jq5, jq6]
  refine hK.out _ _ (waits_all (by kernel_rfl)) ?_
  clear hK K hH
  refine wpAnyJ_done (by kernel_rfl) ?_ _
  go_wp2_with (first | ((with_reducible refine @wpList_at _ _ _ _ _ _ _ (.load 40 (.tmp 12)) rfl ?_); refine @wpList_of_whole _ _ _ _ _ _ _ _ _ _ 40 (.tmp 12) rfl OQ 2 b12 rfl S.cells _ rfl _ Tryz.underlying40 rfl (sizeVote _ HSL.out) rfl ?_) | ((with_reducible refine @wpList_at _ _ _ _ _ _ _ (.store 40 (.tmp 10) (.tmp 97)) rfl ?_); refine @wpList_of_store _ _ _ _ _ _ _ _ _ _ 40 (.tmp 10) (.tmp 97) rfl OQ 1 b10 rfl S.cells ZVote _ rfl rfl (by rw [HSL.out]; rfl) (VoteD_one _) (sizeVote _ HSL.out) rfl ?_; clear OQ; intro w OQ; simp only [List.set_cons_zero, List.set_cons_succ] at OQ))
  refine bodyPost_ret (results_cell_tmp rfl _ _ ⟨b10, 0, none⟩ _ _ rfl rfl (run_loadVar_part _ _ _ 40 S.cells _ (OQ.row_of (g := b10) (T := 40) (by simp)) Tryz.underlying40 rfl (sizeVote _ HSL.out))) rfl ?_
  have T2 := ((HTO.out.mono (G := fun k => F2 k ∨ (Value.ownBlock (.slice a4 0 c4)) = some k) (fun k hk _ => .inl hk)).trans HT9.out (fun k hk _ => .inr hk)).trans OQ.tch (fun k hk _ => .inl hk)
  have hty : Ty u ([83, 40, 40] ++ [40]) (fun k => F2 k ∨ (Value.ownBlock (.slice a4 0 c4)) = some k) := by
    have h1 := (((Ty.one HBS.out).or ((Ty.one HB10.out).or (Ty.one HB12.out))).or HVU.out.tys)
    intro k hk hl
    exact h1 k (hk.imp (HF2.out k).1 id) hl
  have hz1 := HG.out.size
  have hz2 := HP.out.2.1.size
  have hz3 := HTO.out.size
  refine ⟨rfl, bv, sv, rv, rw, sv2, .slice a7 (0 + 1) c7, ⟨OQ.at_ 0 rfl, HP.out.1.ty_keep T2 hty (by decide) (by decide) (by decide) (by decide) (by decide), ?_, ?_, ?_, HH.out.sec, HH.out.hkey, HH.out.name⟩, ?_, fun k hk => ?_⟩
  · have h9 := HS9.out.tch OQ.tch (fun k hk hf => by
      have h2 := HBN.out
      have h3 := (HF2.out k).1 hf
      rcases HO9.out with h9 | ⟨b9, h9, h8⟩
      · have h1 := HNO.out k (h9 ▸ hk)
        rcases h3 with h | h | h <;> omega
      · have e := Option.some.inj (h9.symm.trans hk)
        have h4 := HLS.out
        subst e
        rcases h3 with h | h | h <;> omega)
    show SRow _ _ 39 _ (z.vs ++ [S]).length (votesCells (z.vs ++ [S]))
    rw [votesCells_snoc, List.length_append, HNN.out]
    exact h9
  · intro v hv
    rcases List.mem_append.1 hv with hv | hv
    · exact HH.out.wf v hv
    · obtain rfl := List.mem_singleton.1 hv
      exact HSW.out.1
  · intro h0
    simp at h0
  · refine ((Tch.of_grown (F := z.foot) HG.out).trans HP.out.2.1 (fun k hk _ => .inr (.inl hk))).trans T2 (fun k hk hl => ?_)
    rcases hk with hk | hk
    · have h2 := HBN.out
      rcases (HF2.out k).1 hk with h | h | h
      · exact .inl h
      · omega
      · omega
    · exact .inr (.inr (by rw [HVV.out]; exact hk))
  · rcases hk with hk | hk | hk
    · exact .inl (.inl hk)
    · rcases HP.out.2.2 k hk with h | h
      · exact .inl (.inr (.inl h))
      · exact .inr (by omega)
    · rcases HO9.out with h9 | ⟨b9, h9, h8⟩
      · exact .inl (.inr (.inr (by rw [HVV.out, ← h9]; exact hk)))
      · have e := Option.some.inj (h9.symm.trans hk)
        subst e
        exact .inr (by omega)
set_option maxHeartbeats 8000000 in
theorem sSign_newa {w0 : World} (z : SgP) (h : SgRep w0 z) (hx rx tx : Int) (b : List UInt8) (hh : i64R hx) (hr : i64R rx) (ht : i64R tx) (hb : b.length = 32) (hn : z.vs.length ≠ 0) (ha : aheadB (lastP z.vs) (voteOf z.chain hx rx tx b).pl = true) (hbad : z.bad = false) (hR : RowAt w0 3 0 (wCells rootsL)) (hroom : z.y.room 1) (he : (signL z.secret (voteOf z.chain hx rx tx b)).2 = 0) (hlen : z.vs.length ≤ 100000) :
    Calls Tryz.prog 11 (SigArgs z hx rx tx b) w0 fun e w' => e = .returned (.tuple #[.agg (signL z.secret (voteOf z.chain hx rx tx b)).1.cells.toArray, .int .i64 0]) ∧ SignNew w0 z (signL z.secret (voteOf z.chain hx rx tx b)).1 w' := by
  have HWV := Lib.hid (voteOf_wf h.name hh hr ht hb)
  have HBL := Lib.hid hb
  have BV := Lib.hid (bVoteP z.chain hx rx tx b hb)
  have F3 := Lib.hid (show RowAt w0 z.s 3 [.string z.chain] from RowAt.one (h.blk.row 3 _ rfl))
  have F4 := Lib.hid (show RowAt w0 z.s 4 [z.vv] from RowAt.one (h.blk.row 4 _ rfl))
  have F5 := Lib.hid (show RowAt w0 z.s 5 [.bool z.bad] from RowAt.one (h.blk.row 5 _ rfl))
  have F1 := Lib.hid (show RowAt w0 z.s 1 [.int .u64 (z.secret : Int)] from RowAt.one (h.blk.row 1 _ rfl))
  have CL := Lib.hid (fun w (g : w0.grownBy w none) => show Calls Tryz.prog 33 #[.pointer (some ⟨z.s, 0, none⟩)] w fun e w' => e = .returned (.agg (lastP z.vs).cells.toArray) ∧ w.grownBy w' none from slast_ok (h.grown g))
  rw [hbad] at F5
  have CT := Lib.hid (fun w (g : w0.grownBy w none) => TSign_ok z.secret (voteOf z.chain hx rx tx b) w (signL_key h) HWV.out (hR.grown g (by simp)))
  have hsl := signL_ok z.secret _ HWV.out he
  have HSW := Lib.hid (show (signL z.secret (voteOf z.chain hx rx tx b)).1.wf ∧ okVote (signL z.secret (voteOf z.chain hx rx tx b)).1 = true by
    rw [hsl.2.2]
    have hp := signL_key h
    refine ⟨by_wf _ HWV.out _ _ _ ?_ ?_ ?_, hsl.1⟩
    · have : pw 37 z.secret < pP := pw_lt _ _
      unfold pP at this; omega
    · exact Nat.lt_trans (pw_lt _ _) (by unfold pP; decide)
    · exact sgS_u64 _ _)
  have CK := Lib.hid (fun w (g : w0.grownBy w none) => keep_ok (h.grown g) _ HSW.out.1 HSW.out.2 hroom (hR.grown g (by simp)))
  have HH := Lib.hid h
  have HVR := h.votes
  obtain ⟨m, hm⟩ : ∃ m, z.vs.length = m + 1 := ⟨z.vs.length - 1, by omega⟩
  have hvr := votes_at h.votes h.wf m (by omega)
  rw [lastV_at hm] at hvr
  obtain ⟨g4, o4, c4, hv4, hle, hcm, hvr⟩ := hvr
  rw [hm] at hv4 hle
  rw [hv4] at F4
  have HX := Lib.hid (h.wf _ (lastV_mem (l := z.vs) (by omega)))
  have FR := Lib.hid hvr
  unfold maxLen at hcm
  have ew := IntWalk.i64_in (m : Int) (by omega)
  have hix : ¬ ((m : Int) + 1 ≤ (m : Int)) := by omega
  have hpos : decide ((0 : Int) < (m : Int) + 1) = true := decide_eq_true (by omega)
  rw [hm, hv4] at HVR
  have HVS := Lib.hid HVR
  have HVV := Lib.hid hv4
  have HNN := Lib.hid hm
  clear HVR
  clear hv4 hvr
  have CAH := Lib.hid (fun w => show Calls Tryz.prog 34 #[.agg (lastP z.vs).cells.toArray, .agg (voteOf z.chain hx rx tx b).pl.cells.toArray] w fun e w' => e = .returned (.bool true) ∧ w.grownBy w' none from (by have := ahead_ok (lastP z.vs) (voteOf z.chain hx rx tx b).pl w; rwa [ha] at this))
  unfold SigArgs
  obtain ⟨V, hV⟩ : ∃ v, voteOf z.chain hx rx tx b = v := ⟨_, rfl⟩
  rw [hV] at HWV BV CAH CT HSW CK he ⊢
  obtain ⟨LP, hLP⟩ : ∃ p, lastP z.vs = p := ⟨_, rfl⟩
  rw [hLP] at CL CAH
  obtain ⟨S, hS⟩ : ∃ v, (signL z.secret V).1 = v := ⟨_, rfl⟩
  rw [hS] at CT HSW CK ⊢
  rw [he] at CT
  have HSL := Lib.hid (S.cells_length HSW.out.1)
  have HLN := Lib.hid (show m + 1 ≤ 1000000 by omega)
  clear hroom hS he hsl hlen
  clear h hh hr ht hb hn hbad hV ha hLP hm hR
  have HVL := Lib.hid (V.cells_length HWV.out)
  have O := OwF.start (fun _ => False) w0
  go_enter Tryz.func11, Tryz.ntmps11
  go_upto_region 3 with (first | ((with_reducible refine @wpList_at _ _ _ _ _ _ _ (.box 26 (.tmp 4)) rfl ?_); refine @wpList_of_box _ _ _ _ _ _ _ _ _ _ 26 (.tmp 4) rfl (Lib.byteCells b) rfl O rfl ?_; clear O; intro b9 w O) | ((with_reducible refine @wpList_at _ _ _ _ _ _ _ (.alloc 40) rfl ?_); refine @wpList_of_alloc _ _ _ _ _ _ _ _ _ _ 40 rfl ZVote ZVote_info O rfl ?_; clear O; intro b10 w O))
  replace O := O.drew
  refine wp_region_J (rdf [(3, z.s, 3, [(.string z.chain)]), (7, b9, 0, (Lib.byteCells b))]) [9, 10] (by kernel_rfl) (RdA.cons (F3.out.grown (O.tch.grown (fun _ h => h.elim)) (by simp)) (RdA.cons (O.at_ 1 rfl).row RdA.nil)) (fun hH => ?_)
  refine jp 0 ((.pointer (some ⟨z.s, 0, none⟩))) (Still.all hH) ?_
  simp only [Act.put, jq1, jq2, jq3, jq4, jq5, jq6]
  refine jp 1 ((.pointer (some ⟨z.s, 0, none⟩))) (Still.all hH) ?_
  simp only [Act.put, jq1, jq2, jq3, jq4, jq5, jq6]
  refine jp 2 ((.pointer (some ⟨z.s, 3, none⟩))) (Still.all hH) ?_
  simp only [Act.put, jq1]
  refine jr 0 3 ((.string z.chain)) rfl rfl (yields_cell (by rfl) 9 _ rfl z.s 3 rfl (.string z.chain) _ (fun W h => h) Tryz.underlying9 rfl) (Still.all hH) ?_
  simp only [Act.put, jq1, jq2, jq3, jq4, jq5, jq6]
  refine jp 4 ((.int .i64 hx)) (Still.all hH) ?_
  simp only [Act.put, jq1, jq2, jq3, jq5, jq6]
  refine jp 5 ((.int .i64 rx)) (Still.all hH) ?_
  simp only [Act.put, jq1, jq2, jq3, jq4, jq5, jq6]
  refine jp 6 ((.int .i64 tx)) (Still.all hH) ?_
  simp only [Act.put, jq1, jq4, jq5, jq6]
  refine jr 1 7 ((.agg ((Lib.byteCells b)).toArray)) rfl rfl (yieldsIf_load_mid (by rfl) 26 _ rfl b9 0 rfl (Lib.byteCells b) _ (fun W h => h) Tryz.underlying26 rfl (sizeH _ (by rw [Lib.byteCells_length, HBL.out]))) (Still.all hH) ?_
  simp only [Act.put, jq1, jq2, jq3]
  refine jp 8 ((.agg V.cells.toArray)) (Still.all hH) ?_ (hy := (Or.inl ⟨by rfl, fun W _ => run_buildS 40 _ rfl [(0, .string z.chain), (1, .int .i64 hx), (2, .int .i64 rx), (3, .int .i64 tx), (4, .agg (Lib.byteCells b).toArray)] (by kernel_rfl) _ BV.out⟩))
  simp only [Act.put, jq1, jq3, jq4, jq5, jq6]
  refine wpAnyJ_ready (rs := [9]) (by kernel_rfl) (by simp) ?_
  refine AllJ.keep rfl (by rfl) (by rfl) (fun K hK => ?_) (AllJ.nil)
  refine wp_of_alloc 40 rfl ZVote ZVote_info O ?_
  clear O
  intro b12 u g2 O
  simp only [Act.put, jq1, jq2, jq3, jq4, jq5, jq6]
  refine hK.out _ _ (RdA.grown hH g2) ?_
  replace hH := RdA.grown hH g2
  clear hK K
  clear g2
  refine wpAnyJ_ready (rs := [10]) (by kernel_rfl) (by simp) ?_
  refine AllJ.turn rfl (by rfl) (by rfl) (fun K hK => ?_) (AllJ.nil)
  refine wp_of_store 40 _ _ rfl O 0 b12 rfl V.cells ZVote _ rfl rfl (by rw [HVL.out]; rfl) (VoteD_one _) (sizeVote _ HVL.out) ?_
  clear O
  intro w O
  simp only [List.set_cons_zero] at O
  simp only [Act.put, jq1, jq4]
  refine hK.out _ _ (waits_all (by kernel_rfl)) ?_
  clear hK K hH
  refine wpAnyJ_done (by kernel_rfl) ?_ _
  go_upto_region 5 with (first | ((with_reducible refine @wpList_at _ _ _ _ _ _ _ (.load 43 (.tmp 30)) rfl ?_); refine wpList_load_one rfl 43 _ rfl z.s 4 rfl (.slice (some ⟨g4, o4, none⟩) (m + 1) c4) _ (F4.out.grown (O.tch.grown (fun _ h => h.elim)) (by simp)) Tryz.underlying43 rfl ?_))
  replace O := O.drew
  refine wp_region_J (rdf [(5, b12, 0, V.cells)]) [4, 6, 7] (by kernel_rfl) (RdA.cons (O.at_ 0 rfl).row RdA.nil) (fun hH => ?_)
  refine jp 0 ((.int .i64 ((m + 1 : Nat) : Int))) (Still.all hH) ?_
  simp only [Act.put, jq1, jq2, jq3, jq4, jq5, jq6]
  refine jp 1 ((.bool true)) (Still.all hH) ?_
  simp only [Act.put, jq1, jq2, jq3, jq4, jq5, jq6]
  refine jp 2 ((.bool true)) (Still.all hH) ?_
  simp only [Act.put, jq1, jq2, jq3, jq4, jq5, jq6]
  refine jp 3 ((.pointer (some ⟨z.s, 0, none⟩))) (Still.all hH) ?_
  simp only [Act.put, jq1, jq2, jq3, jq4, jq5, jq6]
  refine jr 0 5 ((.agg (V.cells).toArray)) rfl rfl (yieldsIf_load_mid (by rfl) 40 _ rfl b12 0 rfl V.cells _ (fun W h => h) Tryz.underlying40 rfl (sizeVote _ HVL.out)) (Still.all hH) ?_
  simp only [Act.put, jq1, jq3]
  refine wpAnyJ_ready (rs := [4]) (by kernel_rfl) (by simp) ?_
  refine AllJ.keep rfl (by rfl) (by rfl) (fun K hK => ?_) (AllJ.nil)
  refine wp_call 33 _ _ (by rfl) (enters Tryz.func33 (by kernel_rfl) rfl) (by rfl) (CL.out _ (O.tch.grown (fun _ h => h.elim))) ?_
  rintro e u ⟨rfl, g9⟩
  refine ⟨_, rfl, ?_⟩
  replace O := O.call g9
  simp only [Act.put, jq1, jq2, jq3, jq4, jq5, jq6]
  refine hK.out _ _ (RdA.grown hH g9) ?_
  replace hH := RdA.grown hH g9
  clear hK K
  clear g9
  refine wpAnyJ_ready (rs := [6]) (by kernel_rfl) (by simp) ?_
  refine AllJ.keep rfl (by rfl) (by rfl) (fun K hK => ?_) (AllJ.nil)
  refine wp_call 35 _ _ (by rfl) (enters Tryz.func35 (by kernel_rfl) rfl) (by rfl) (placeOf_ok V _) ?_
  rintro e u ⟨rfl, g9⟩
  refine ⟨_, rfl, ?_⟩
  replace O := O.call g9
  simp only [Act.put, jq1, jq4, jq5, jq6]
  refine hK.out _ _ (RdA.grown hH g9) ?_
  replace hH := RdA.grown hH g9
  clear hK K
  clear g9
  refine wpAnyJ_ready (rs := [7]) (by kernel_rfl) (by simp) ?_
  refine AllJ.keep rfl (by rfl) (by rfl) (fun K hK => ?_) (AllJ.nil)
  refine wp_call 34 _ _ (by rfl) (enters Tryz.func34 (by kernel_rfl) rfl) (by rfl) (CAH.out _) ?_
  rintro e u ⟨rfl, g9⟩
  refine ⟨_, rfl, ?_⟩
  replace O := O.call g9
  simp only [Act.put, jq1, jq2, jq3]
  refine hK.out _ _ (RdA.grown hH g9) ?_
  replace hH := RdA.grown hH g9
  clear hK K
  clear g9
  refine jp 8 ((.bool false)) (Still.all hH) ?_
  simp only [Act.put, jq1, jq2, jq3]
  refine jp 9 ((.bool false)) (Still.all hH) ?_
  simp only [Act.put, jq1, jq2, jq3, jq4, jq5, jq6]
  refine wpAnyJ_done (by kernel_rfl) ?_ _
  clear hH
  go_upto_region 12 with (first | ((with_reducible refine @wpList_at _ _ _ _ _ _ _ (.load 4 (.tmp 66)) rfl ?_); refine wpList_load_one rfl 4 _ rfl z.s 5 rfl (.bool false) _ (F5.out.grown (O.tch.grown (fun _ h => h.elim)) (by simp)) Tryz.underlying4 rfl ?_))
  replace O := O.drew
  refine wp_region_J (rdf [(3, z.s, 1, [(.int .u64 (z.secret : Int))]), (4, b12, 0, V.cells)]) [5, 9] (by kernel_rfl) (RdA.cons (F1.out.grown (O.tch.grown (fun _ h => h.elim)) (by simp)) (RdA.cons (O.at_ 0 rfl).row RdA.nil)) (fun hH => ?_)
  refine jp 0 ((.pointer (some ⟨z.s, 0, none⟩))) (Still.all hH) ?_
  simp only [Act.put, jq1, jq2, jq3]
  refine jp 1 ((.pointer (some ⟨z.s, 0, none⟩))) (Still.all hH) ?_
  simp only [Act.put, jq1, jq4]
  refine jp 2 ((.pointer (some ⟨z.s, 1, none⟩))) (Still.all hH) ?_
  simp only [Act.put, jq1]
  refine jr 0 3 ((.int .u64 (z.secret : Int))) rfl rfl (yields_cell (by rfl) 22 _ rfl z.s 1 rfl (.int .u64 (z.secret : Int)) _ (fun W h => h) Tryz.underlying22 rfl) (Still.all hH) ?_
  simp only [Act.put, jq1, jq3, jq4, jq5, jq6]
  refine jr 1 4 ((.agg (V.cells).toArray)) rfl rfl (yieldsIf_load_mid (by rfl) 40 _ rfl b12 0 rfl V.cells _ (fun W h => h) Tryz.underlying40 rfl (sizeVote _ HVL.out)) (Still.all hH) ?_
  simp only [Act.put, jq1, jq2, jq3, jq4, jq5, jq6]
  refine wpAnyJ_ready (rs := [5]) (by kernel_rfl) (by simp) ?_
  refine AllJ.keep rfl (by rfl) (by rfl) (fun K hK => ?_) (AllJ.nil)
  refine wp_call 36 _ _ (by rfl) (enters Tryz.func36 (by kernel_rfl) rfl) (by rfl) (CT.out _ (O.tch.grown (fun _ h => h.elim))) ?_
  rintro e u ⟨rfl, g9⟩
  refine ⟨_, rfl, ?_⟩
  replace O := O.call g9
  simp only [Act.put, jq1, jq2, jq3, jq4, jq5, jq6]
  refine hK.out _ _ (RdA.grown hH g9) ?_
  replace hH := RdA.grown hH g9
  clear hK K
  clear g9
  refine jp 6 ((.tuple #[.agg S.cells.toArray, .int .i64 0])) (Still.all hH) ?_
  simp only [Act.put, jq1, jq2, jq3, jq4, jq5, jq6]
  refine jp 7 ((.agg S.cells.toArray)) (Still.all hH) ?_
  simp only [Act.put, jq1, jq2, jq3, jq4, jq5, jq6]
  refine jp 8 ((.int .i64 0)) (Still.all hH) ?_
  simp only [Act.put, jq1, jq2, jq3, jq4, jq5, jq6]
  refine wpAnyJ_ready (rs := [9]) (by kernel_rfl) (by simp) ?_
  refine AllJ.turn rfl (by rfl) (by rfl) (fun K hK => ?_) (AllJ.nil)
  refine wp_of_store 40 _ _ rfl O 0 b12 rfl S.cells V.cells _ rfl rfl (by rw [HSL.out, HVL.out]) (VoteD_one _) (sizeVote _ HSL.out) ?_
  clear O
  intro w O
  simp only [List.set_cons_zero] at O
  simp only [Act.put, jq1]
  refine hK.out _ _ (waits_all (by kernel_rfl)) ?_
  clear hK K hH
  refine jp 10 ((.int .i64 0)) (Still.none (by kernel_rfl)) ?_
  simp only [Act.put, jq1, jq2, jq3, jq4, jq5, jq6]
  refine wpAnyJ_done (by kernel_rfl) ?_ _
  go_wp2_with (first | ((with_reducible refine @wpList_at _ _ _ _ _ _ _ (.load 40 (.tmp 12)) rfl ?_); refine @wpList_of_whole _ _ _ _ _ _ _ _ _ _ 40 (.tmp 12) rfl O 0 b12 rfl S.cells _ rfl _ Tryz.underlying40 rfl (sizeVote _ HSL.out) rfl ?_))
  refine (CK.out w (O.tch.grown (fun _ h => h.elim))).mono ?_
  rintro e u ⟨rfl, bv, sv, rv, rw, sv2, hp⟩
  have HG := Lib.hid (show w0.grownBy w none from O.tch.grown (fun _ h => h.elim))
  have HP := Lib.hid hp
  have HLT := Lib.hid (show ∀ k, z.y.foot k → k < w0.heap.size from fun k hk => HH.out.log.lt hk)
  have HBN := Lib.hid (show w0.heap.size ≤ b12 ∧ w0.heap.size ≤ b10 ∧ b10 ≠ b12 from ⟨(O.lie 0 rfl).resolve_right id, (O.lie 1 rfl).resolve_right id, O.ne (i := 1) (j := 0) rfl rfl (by decide)⟩)
  have hb12 := hp.2.1.blk (O.at_ 0 rfl) (fun hf => by have h1 := HLT.out _ hf; have h2 := HBN.out; omega)
  have hb10 := hp.2.1.blk (O.at_ 1 rfl) (fun hf => by have h1 := HLT.out _ hf; have h2 := HBN.out; omega)
  have hbs := (HH.out.blk.grown HG.out (by simp)).ty_keep hp.2.1 (HH.out.log.grown HG.out).tys (by decide)
  have hsw := HH.out.blk.lt
  have hvu := (HVS.out.grown HG.out).ty_keep hp.2.1 (HH.out.log.grown HG.out).tys (by decide)
  unfold SgP.cells at hbs
  rw [HVV.out] at hbs
  have HNO := Lib.hid (show ∀ k, (Value.ownBlock (.slice (some ⟨g4, o4, none⟩) (m + 1) c4)) = some k → k ≠ z.s ∧ k < w0.heap.size from fun k hk => ⟨fun e => HVS.out.ne HH.out.blk (by decide) (e ▸ hk), HVS.out.lt hk⟩)
  have HVU := Lib.hid hvu; have HB12 := Lib.hid hb12; have HB10 := Lib.hid hb10; have HBS := Lib.hid hbs; have HSW0 := Lib.hid hsw
  obtain ⟨F2, hF2⟩ : ∃ F : Nat → Prop, F = fun k => k = z.s ∨ k = b10 ∨ k = b12 := ⟨_, rfl⟩
  have HF2 := Lib.hid (show ∀ k, F2 k ↔ (k = z.s ∨ k = b10 ∨ k = b12) from fun k => by rw [hF2])
  clear O hF2 hvu hp
  have O := (((OwF.start F2 u).add hb12 ((HF2.out _).2 (.inr (.inr rfl))) (by simp)).add hb10 ((HF2.out _).2 (.inr (.inl rfl))) (by intro e he; simp only [List.mem_cons, List.not_mem_nil, or_false] at he; rcases he with rfl; exact HBN.out.2.2)).add hbs ((HF2.out _).2 (.inl rfl)) (by intro e he; have h1 := HBN.out; simp only [List.mem_cons, List.not_mem_nil, or_false] at he; rcases he with rfl | rfl <;> (dsimp only; omega))
  clear hb12 hb10 hbs hsw
  go_upto_region 17 with fail
  replace O := O.drew
  refine wp_region_J (rdf [(4, z.s, 4, [(.slice (some ⟨g4, o4, none⟩) (m + 1) c4)]), (5, b12, 0, S.cells)]) [6, 7, 10] (by kernel_rfl) (RdA.cons (O.cellr (n := 0) rfl rfl) (RdA.cons (O.at_ 2 rfl).row RdA.nil)) (fun hH => ?_)
  refine jp 0 ((.pointer (some ⟨z.s, 0, none⟩))) (Still.all hH) ?_
  simp only [Act.put, jq1, jq4]
  refine jp 1 ((.pointer (some ⟨z.s, 0, none⟩))) (Still.all hH) ?_
  simp only [Act.put, jq1, jq3, jq4, jq5, jq6]
  refine jp 2 ((.pointer (some ⟨z.s, 0, none⟩))) (Still.all hH) ?_
  simp only [Act.put, jq1, jq2, jq3]
  refine jp 3 ((.pointer (some ⟨z.s, 4, none⟩))) (Still.all hH) ?_
  simp only [Act.put, jq1, jq2, jq3, jq4, jq5, jq6]
  refine jr 0 4 ((.slice (some ⟨g4, o4, none⟩) (m + 1) c4)) rfl rfl (yields_cell (by rfl) 43 _ rfl z.s 4 rfl (.slice (some ⟨g4, o4, none⟩) (m + 1) c4) _ (fun W h => h) Tryz.underlying43 rfl) (Still.all hH) ?_
  simp only [Act.put, jq1, jq4]
  refine jr 1 5 ((.agg (S.cells).toArray)) rfl rfl (yieldsIf_load_mid (by rfl) 40 _ rfl b12 0 rfl S.cells _ (fun W h => h) Tryz.underlying40 rfl (sizeVote _ HSL.out)) (Still.all hH) ?_
  simp only [Act.put, jq1, jq2, jq3, jq4, jq5, jq6]
  refine wpAnyJ_ready (rs := [6]) (by kernel_rfl) (by simp) ?_
  refine AllJ.keep rfl (by rfl) (by rfl) (fun K hK => ?_) (AllJ.nil)
  refine wp_of_slice1 43 _ rfl S.cells rfl 40 _ 39 Tryz.underlying43 vote_inf2 HSL.out (by decide) O ?_
  clear O
  intro b8 u9 g2 O
  simp only [Act.put, jq1, jq2, jq3, jq4, jq5, jq6]
  refine hK.out _ _ (RdA.grown hH g2) ?_
  replace hH := RdA.grown hH g2
  clear hK K
  clear g2
  refine wpAnyJ_ready (rs := [7]) (by kernel_rfl) (by simp) ?_
  refine AllJ.keep rfl (by rfl) (by rfl) (fun K hK => ?_) (AllJ.nil)
  have hnf : ∀ k, (Value.ownBlock (.slice (some ⟨g4, o4, none⟩) (m + 1) c4)) = some k → ¬ F2 k := fun k hk hf => by have h1 := HNO.out k hk; have h2 := HBN.out; rcases (HF2.out k).1 hf with h | h | h <;> omega
  have hs9 := HVU.out.tch O.tch hnf
  have hH9 : ∀ e ∈ ([(4, z.s, 4, [(.slice (some ⟨g4, o4, none⟩) (m + 1) c4)]), (5, b12, 0, S.cells)] : RdR), (Value.ownBlock (.slice (some ⟨g4, o4, none⟩) (m + 1) c4)) ≠ some e.2.1 := by intro e he; simp only [List.mem_cons, List.not_mem_nil, or_false] at he; rcases he with rfl | rfl; exact fun e => (HNO.out z.s e).1 rfl; exact fun e => by have h1 := HNO.out b12 e; have h2 := HBN.out; omega
  refine wp_of_app _ _ 43 rfl 40 (.agg ZVote.toArray) 39 96 Tryz.underlying43 vote_inf rfl (.slice (some ⟨g4, o4, none⟩) (m + 1) c4) (m + 1) (votesCells z.vs) rfl hs9 b8 rfl S.cells (O.at_ 0 rfl).row HSL.out (VoteD_one _) HLN.out (by decide) ?_
  intro v7 u7 hS t9 o9
  obtain ⟨a7, c7, hv7, _⟩ := hS.shape
  subst hv7
  have HS9 := Lib.hid hS; have HO9 := Lib.hid o9; have HT9 := Lib.hid t9; have HTO := Lib.hid O.tch
  have hq1 := t9.blk (O.at_ 1 rfl) (fun e => (HNO.out z.s e).1 rfl)
  have hq2 := t9.blk (O.at_ 2 rfl) (fun e => by have h1 := HNO.out b10 e; have h2 := HBN.out; omega)
  have hq3 := t9.blk (O.at_ 3 rfl) (fun e => by have h1 := HNO.out b12 e; have h2 := HBN.out; omega)
  have HLS := Lib.hid (show z.s < u9.heap.size ∧ b10 < u9.heap.size ∧ b12 < u9.heap.size from ⟨(O.at_ 1 rfl).lt, (O.at_ 2 rfl).lt, (O.at_ 3 rfl).lt⟩)
  have OQ := (((OwF.start F2 u7).add hq3 ((HF2.out _).2 (.inr (.inr rfl))) (by simp)).add hq2 ((HF2.out _).2 (.inr (.inl rfl))) (by intro e he; simp only [List.mem_cons, List.not_mem_nil, or_false] at he; rcases he with rfl; exact HBN.out.2.2)).add hq1 ((HF2.out _).2 (.inl rfl)) (by intro e he; have h1 := HBN.out; have h3 := HSW0.out; simp only [List.mem_cons, List.not_mem_nil, or_false] at he; rcases he with rfl | rfl <;> (dsimp only; omega))
  clear O hS t9 o9 hs9 hq1 hq2 hq3
  simp only [Act.put, jq1, jq2, jq3, jq4, jq5, jq6]
  refine hK.out _ _ (RdA.tch hH HT9.out hH9) ?_
  replace hH := RdA.tch hH HT9.out hH9
  clear hK K hH9
  refine jp 8 ((.pointer (some ⟨z.s, 0, none⟩))) (Still.all hH) ?_
  simp only [Act.put, jq1, jq2, jq3, jq4, jq5, jq6]
  refine jp 9 ((.pointer (some ⟨z.s, 4, none⟩))) (Still.all hH) ?_
  simp only [Act.put, jq1, jq2, jq3, jq4, jq5, jq6]
  refine wpAnyJ_ready (rs := [10]) (by kernel_rfl) (by simp) ?_
  refine AllJ.turn rfl (by rfl) (by rfl) (fun K hK => ?_) (AllJ.nil)
  refine wp_of_store_cell 43 _ _ rfl OQ 0 z.s 4 rfl (.slice a7 (m + 1 + 1) c7) rfl rfl _ _ rfl (by show (4 : Nat) < 6; decide) rfl ?_
  clear OQ
  intro w OQ
  simp only [List.set_cons_zero, List.set_cons_succ] at OQ
  simp only [Act.put, jq1, jq2, jq3, jq4, jq5, jq6]
  refine hK.out _ _ (waits_all (by kernel_rfl)) ?_
  clear hK K hH
  refine wpAnyJ_done (by kernel_rfl) ?_ _
  go_wp2_with (first | ((with_reducible refine @wpList_at _ _ _ _ _ _ _ (.load 40 (.tmp 12)) rfl ?_); refine @wpList_of_whole _ _ _ _ _ _ _ _ _ _ 40 (.tmp 12) rfl OQ 2 b12 rfl S.cells _ rfl _ Tryz.underlying40 rfl (sizeVote _ HSL.out) rfl ?_) | ((with_reducible refine @wpList_at _ _ _ _ _ _ _ (.store 40 (.tmp 10) (.tmp 97)) rfl ?_); refine @wpList_of_store _ _ _ _ _ _ _ _ _ _ 40 (.tmp 10) (.tmp 97) rfl OQ 1 b10 rfl S.cells ZVote _ rfl rfl (by rw [HSL.out]; rfl) (VoteD_one _) (sizeVote _ HSL.out) rfl ?_; clear OQ; intro w OQ; simp only [List.set_cons_zero, List.set_cons_succ] at OQ))
  refine bodyPost_ret (results_cell_tmp rfl _ _ ⟨b10, 0, none⟩ _ _ rfl rfl (run_loadVar_part _ _ _ 40 S.cells _ (OQ.row_of (g := b10) (T := 40) (by simp)) Tryz.underlying40 rfl (sizeVote _ HSL.out))) rfl ?_
  have T2 := ((HTO.out.mono (G := fun k => F2 k ∨ (Value.ownBlock (.slice (some ⟨g4, o4, none⟩) (m + 1) c4)) = some k) (fun k hk _ => .inl hk)).trans HT9.out (fun k hk _ => .inr hk)).trans OQ.tch (fun k hk _ => .inl hk)
  have hty : Ty u ([83, 40, 40] ++ [40]) (fun k => F2 k ∨ (Value.ownBlock (.slice (some ⟨g4, o4, none⟩) (m + 1) c4)) = some k) := by
    have h1 := (((Ty.one HBS.out).or ((Ty.one HB10.out).or (Ty.one HB12.out))).or HVU.out.tys)
    intro k hk hl
    exact h1 k (hk.imp (HF2.out k).1 id) hl
  have hz1 := HG.out.size
  have hz2 := HP.out.2.1.size
  have hz3 := HTO.out.size
  refine ⟨rfl, bv, sv, rv, rw, sv2, .slice a7 (m + 1 + 1) c7, ⟨OQ.at_ 0 rfl, HP.out.1.ty_keep T2 hty (by decide) (by decide) (by decide) (by decide) (by decide), ?_, ?_, ?_, HH.out.sec, HH.out.hkey, HH.out.name⟩, ?_, fun k hk => ?_⟩
  · have h9 := HS9.out.tch OQ.tch (fun k hk hf => by
      have h2 := HBN.out
      have h3 := (HF2.out k).1 hf
      rcases HO9.out with h9 | ⟨b9, h9, h8⟩
      · have h1 := HNO.out k (h9 ▸ hk)
        rcases h3 with h | h | h <;> omega
      · have e := Option.some.inj (h9.symm.trans hk)
        have h4 := HLS.out
        subst e
        rcases h3 with h | h | h <;> omega)
    show SRow _ _ 39 _ (z.vs ++ [S]).length (votesCells (z.vs ++ [S]))
    rw [votesCells_snoc, List.length_append, HNN.out]
    exact h9
  · intro v hv
    rcases List.mem_append.1 hv with hv | hv
    · exact HH.out.wf v hv
    · obtain rfl := List.mem_singleton.1 hv
      exact HSW.out.1
  · intro h0
    simp at h0
  · refine ((Tch.of_grown (F := z.foot) HG.out).trans HP.out.2.1 (fun k hk _ => .inr (.inl hk))).trans T2 (fun k hk hl => ?_)
    rcases hk with hk | hk
    · have h2 := HBN.out
      rcases (HF2.out k).1 hk with h | h | h
      · exact .inl h
      · omega
      · omega
    · exact .inr (.inr (by rw [HVV.out]; exact hk))
  · rcases hk with hk | hk | hk
    · exact .inl (.inl hk)
    · rcases HP.out.2.2 k hk with h | h
      · exact .inl (.inr (.inl h))
      · exact .inr (by omega)
    · rcases HO9.out with h9 | ⟨b9, h9, h8⟩
      · exact .inl (.inr (.inr (by rw [HVV.out, ← h9]; exact hk)))
      · have e := Option.some.inj (h9.symm.trans hk)
        subst e
        exact .inr (by omega)

end Go.Proofs.YtcbkehnlgpcelaaGreatDoor
