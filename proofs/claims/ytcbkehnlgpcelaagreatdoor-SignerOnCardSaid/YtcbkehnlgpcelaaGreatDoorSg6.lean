/- Walks: a vote's place, the last one's; a vote is written down; the key, the votes. -/
import Derived.Test.YtcbkehnlgpcelaaGreatDoorSg5
import Derived.Shelf.SlicesE.Clone
namespace Go.Proofs.YtcbkehnlgpcelaaGreatDoor
open Go.RowKit
open Go.Shelf
set_option maxRecDepth 100000

def ZPl : List Value := [.int .i64 0, .int .i64 0, .int .i64 0]
theorem ZPl_info : (Tryz.prog.info? 88).map (fun i => i.zero.map (fun v => v.cells)) = some (some ZPl.toArray) := by kernel_rfl
theorem sizePl (p : Pl) : (Tryz.prog.info? 88).map (·.size) = some p.cells.length := by show _ = some 3; kernel_rfl
theorem Pl_one (p : Pl) : ∀ u ∈ p.cells, u.oneCell' = true := by simp [Pl.cells, Value.oneCell']
theorem bPl (h r t : Int) : Tryz.prog.built 88 [(0, .int .i64 h), (1, .int .i64 r), (2, .int .i64 t)] = some [.int .i64 h, .int .i64 r, .int .i64 t].toArray := by kernel_rfl
theorem bPl0 : Tryz.prog.built 88 [] = some [.int .i64 0, .int .i64 0, .int .i64 0].toArray := by kernel_rfl
def VoteD.pl (v : VoteD) : Pl := ⟨v.height, v.round, v.type⟩
def aheadB (p q : Pl) : Bool := decide (cmpP p q < 0)
def lastV (l : List VoteD) : VoteD := l.getLastD zeroV
def lastP (l : List VoteD) : Pl := (lastV l).pl
theorem lastV_at {l : List VoteD} {m : Nat} (h : l.length = m + 1) : l[m]'(by omega) = lastV l := by
  have e : l[l.length - 1]? = some (l[m]'(by omega)) := by
    have h2 : l.length - 1 = m := by omega
    rw [h2]; exact List.getElem?_eq_getElem _
  unfold lastV
  rw [List.getLastD_eq_getLast?, List.getLast?_eq_getElem?, e]; rfl
theorem lastV_mem {l : List VoteD} (h : 0 < l.length) : lastV l ∈ l := by
  obtain ⟨m, hm⟩ : ∃ m, l.length = m + 1 := ⟨l.length - 1, by omega⟩
  rw [← lastV_at hm]; exact List.getElem_mem _
theorem votes_at {w : World} {v : Value} {l : List VoteD} (h : SRow w 40 39 v l.length (votesCells l)) (hw : ∀ u ∈ l, u.wf) (i : Nat) (hi : i < l.length) :
    ∃ g o c, v = .slice (some ⟨g, o, none⟩) l.length c ∧ l.length ≤ c ∧ c ≤ maxLen ∧ RowAt w g (o + i * 39) l[i].cells := by
  obtain ⟨g, o, c, hv, h1, h2, _, hr⟩ := h.at_ (by omega)
  exact ⟨g, o, c, hv, h1, h2, RowAt.elem hr (fun d hd => d.cells_length (hw d hd)) i hi⟩
set_option maxHeartbeats 2000000 in
theorem placeOf_ok (v : VoteD) (w0 : World) : Calls Tryz.prog 35 #[.agg v.cells.toArray] w0 fun e w' => e = .returned (.agg v.pl.cells.toArray) ∧ w0.grownBy w' none := by
  have O := OwF.start (fun _ => False) w0
  go_enter Tryz.func35, Tryz.ntmps35
  go_wp2_with (first | ((with_reducible refine @wpList_at _ _ _ _ _ _ _ (.box 40 (.tmp 0)) rfl ?_); refine @wpList_of_box _ _ _ _ _ _ _ _ _ _ 40 (.tmp 0) rfl v.cells rfl O rfl ?_; clear O; intro b1 w O) | ((with_reducible refine @wpList_at _ _ _ _ _ _ _ (.alloc 88) rfl ?_); refine @wpList_of_alloc _ _ _ _ _ _ _ _ _ _ 88 rfl ZPl ZPl_info O rfl ?_; clear O; intro b2 w O) | ((with_reducible refine @wpList_at _ _ _ _ _ _ _ (.load 3 (.tmp 3)) rfl ?_); refine @wpList_of_cell _ _ _ _ _ _ _ _ _ _ 3 (.tmp 3) rfl O 1 b1 1 rfl _ _ rfl (.int .i64 v.height) rfl _ Tryz.underlying3 rfl rfl ?_) | ((with_reducible refine @wpList_at _ _ _ _ _ _ _ (.load 3 (.tmp 5)) rfl ?_); refine @wpList_of_cell _ _ _ _ _ _ _ _ _ _ 3 (.tmp 5) rfl O 1 b1 2 rfl _ _ rfl (.int .i64 v.round) rfl _ Tryz.underlying3 rfl rfl ?_) | ((with_reducible refine @wpList_at _ _ _ _ _ _ _ (.load 24 (.tmp 7)) rfl ?_); refine @wpList_of_cell _ _ _ _ _ _ _ _ _ _ 24 (.tmp 7) rfl O 1 b1 3 rfl _ _ rfl (.int .i64 v.type) rfl _ Tryz.underlying24 rfl rfl ?_) | ((with_reducible refine @wpList_at _ _ _ _ _ _ _ (.build 88 #[(0, .tmp 4), (1, .tmp 6), (2, .tmp 8)]) rfl ?_); refine wpList_build_eq rfl 88 _ rfl [(0, .int .i64 v.height), (1, .int .i64 v.round), (2, .int .i64 v.type)] (by kernel_rfl) v.pl.cells (bPl _ _ _) ?_) | ((with_reducible refine @wpList_at _ _ _ _ _ _ _ (.store 88 (.tmp 2) (.tmp 9)) rfl ?_); refine @wpList_of_store _ _ _ _ _ _ _ _ _ _ 88 (.tmp 2) (.tmp 9) rfl O 0 b2 rfl v.pl.cells ZPl _ rfl rfl rfl (Pl_one _) (sizePl v.pl) rfl ?_; clear O; intro w O; simp only [List.set_cons_zero] at O))
  refine bodyPost_ret (results_cell_one rfl _ _ ⟨b2, 0, none⟩ _ rfl (run_loadVar_part _ _ _ 88 _ _ (O.row_of (g := b2) (T := 88) (by simp)) Tryz.underlying88 rfl (sizePl v.pl))) rfl ?_
  exact ⟨rfl, O.tch.grown (fun _ h => h.elim)⟩
set_option maxHeartbeats 2000000 in
theorem ahead_ok (p q : Pl) (w0 : World) : Calls Tryz.prog 34 #[.agg p.cells.toArray, .agg q.cells.toArray] w0 fun e w' => e = .returned (.bool (aheadB p q)) ∧ w0.grownBy w' none := by
  have O := OwF.start (fun _ => False) w0
  unfold aheadB
  go_enter Tryz.func34, Tryz.ntmps34
  go_upto_region 1 with (first | ((with_reducible refine @wpList_at _ _ _ _ _ _ _ (.box 88 (.tmp 0)) rfl ?_); refine @wpList_of_box _ _ _ _ _ _ _ _ _ _ 88 (.tmp 0) rfl p.cells rfl O rfl ?_; clear O; intro b2 w O) | ((with_reducible refine @wpList_at _ _ _ _ _ _ _ (.box 88 (.tmp 1)) rfl ?_); refine @wpList_of_box _ _ _ _ _ _ _ _ _ _ 88 (.tmp 1) rfl q.cells rfl O rfl ?_; clear O; intro b3 w O))
  replace O := O.drew
  refine wp_region_J (rdf []) [2] (by kernel_rfl) RdA.nil (fun hH => ?_)
  refine jp 0 ((.slice (some ⟨b2, 0, none⟩) 3 3)) (Still.all hH) ?_
  simp only [Act.put, jq1, jq3, jq4, jq5, jq6]
  refine jp 1 ((.slice (some ⟨b3, 0, none⟩) 3 3)) (Still.all hH) ?_
  simp only [Act.put, jq1, jq2, jq3, jq4, jq5, jq6]
  refine wpAnyJ_ready (rs := [2]) (by kernel_rfl) (by simp) ?_
  refine AllJ.keep rfl (by rfl) (by rfl) (fun K hK => ?_) (AllJ.nil)
  refine wp_call 67 _ _ (by rfl) (enters Tryz.func67 (by kernel_rfl) rfl) (by rfl) (comp_ok b2 b3 p q _ (O.at_ 1 rfl).row (O.at_ 0 rfl).row) ?_
  rintro e u ⟨rfl, rfl⟩
  refine ⟨_, rfl, ?_⟩
  simp only [Act.put, jq1, jq2, jq3, jq4, jq5, jq6]
  refine hK.out _ _ hH ?_
  clear hK K
  refine jp 3 ((.bool (decide (cmpP p q < 0)))) (Still.all hH) ?_
  simp only [Act.put, jq1, jq2, jq3, jq4, jq5, jq6]
  refine jp 4 ((.bool (decide (cmpP p q < 0)))) (Still.all hH) ?_
  simp only [Act.put, jq1, jq2, jq3, jq4, jq5, jq6]
  refine wpAnyJ_done (by kernel_rfl) ?_ _
  clear hH
  go_wp2_with fail
  go_ret
  exact ⟨rfl, O.tch.grown (fun _ h => h.elim)⟩
set_option maxHeartbeats 4000000 in
theorem slast_ok {w0 : World} {z : SgP} (h : SgRep w0 z) : Calls Tryz.prog 33 #[.pointer (some ⟨z.s, 0, none⟩)] w0 fun e w' => e = .returned (.agg (lastP z.vs).cells.toArray) ∧ w0.grownBy w' none := by
  have O := OwF.start (fun _ => False) w0
  have F0 := Lib.hid (show RowAt w0 z.s 4 [z.vv] from RowAt.one (h.blk.row 4 _ rfl))
  by_cases hn : z.vs.length = 0
  · have hp : lastP z.vs = ⟨0, 0, 0⟩ := by rw [List.eq_nil_of_length_eq_zero hn]; rfl
    rw [hp]
    obtain ⟨a, c, hv, _⟩ := h.votes.shape
    rw [hn] at hv
    rw [hv] at F0
    clear h hn hp hv
    go_enter Tryz.func33, Tryz.ntmps33
    go_wp2_with (first | ((with_reducible refine @wpList_at _ _ _ _ _ _ _ (.alloc 88) rfl ?_); refine @wpList_of_alloc _ _ _ _ _ _ _ _ _ _ 88 rfl ZPl ZPl_info O rfl ?_; clear O; intro b2 w O) | ((with_reducible refine @wpList_at _ _ _ _ _ _ _ (.load 43 (.tmp 5)) rfl ?_); refine wpList_load_one rfl 43 _ rfl z.s 4 rfl (.slice a 0 c) _ (F0.out.grown (O.tch.grown (fun _ h => h.elim)) (by simp)) Tryz.underlying43 rfl ?_) | ((with_reducible refine @wpList_at _ _ _ _ _ _ _ (.build 88 #[]) rfl ?_); refine wpList_build_eq rfl 88 _ rfl [] (by kernel_rfl) (Pl.cells ⟨0, 0, 0⟩) bPl0 ?_) | ((with_reducible refine @wpList_at _ _ _ _ _ _ _ (.store 88 (.tmp 2) (.tmp 9)) rfl ?_); refine @wpList_of_store _ _ _ _ _ _ _ _ _ _ 88 (.tmp 2) (.tmp 9) rfl O 0 b2 rfl (Pl.cells ⟨0, 0, 0⟩) ZPl _ rfl rfl rfl (Pl_one _) (sizePl ⟨0, 0, 0⟩) rfl ?_; clear O; intro w O; simp only [List.set_cons_zero] at O))
    refine bodyPost_ret (results_cell_one rfl _ _ ⟨b2, 0, none⟩ _ rfl (run_loadVar_part _ _ _ 88 _ _ (O.row_of (g := b2) (T := 88) (by simp)) Tryz.underlying88 rfl (sizePl ⟨0, 0, 0⟩))) rfl ?_
    exact ⟨rfl, O.tch.grown (fun _ h => h.elim)⟩
  · obtain ⟨m, hm⟩ : ∃ m, z.vs.length = m + 1 := ⟨z.vs.length - 1, by omega⟩
    have hv := votes_at h.votes h.wf m (by omega)
    rw [lastV_at hm] at hv
    obtain ⟨g, o, cp, hv, hle, hcm, hr⟩ := hv
    rw [hm] at hv hle
    rw [hv] at F0
    unfold lastP
    have HX := Lib.hid (h.wf _ (lastV_mem (l := z.vs) (by omega)))
    obtain ⟨x, hx⟩ : ∃ x, lastV z.vs = x := ⟨_, rfl⟩
    rw [hx] at hr HX ⊢
    have FR := Lib.hid hr
    unfold maxLen at hcm
    have ew := IntWalk.i64_in (m : Int) (by omega)
    have hix : ¬ ((m : Int) + 1 ≤ (m : Int)) := by omega
    have hz1 : (((m : Int) + 1) == 0) = false := by simp; omega
    clear h hn hm hv hr hx
    go_enter Tryz.func33, Tryz.ntmps33
    go_upto_region 3 with (first | ((with_reducible refine @wpList_at _ _ _ _ _ _ _ (.alloc 88) rfl ?_); refine @wpList_of_alloc _ _ _ _ _ _ _ _ _ _ 88 rfl ZPl ZPl_info O rfl ?_; clear O; intro b2 w O) | ((with_reducible refine @wpList_at _ _ _ _ _ _ _ (.load 43 (.tmp 5)) rfl ?_); refine wpList_load_one rfl 43 _ rfl z.s 4 rfl (.slice (some ⟨g, o, none⟩) (m + 1) cp) _ (F0.out.grown (O.tch.grown (fun _ h => h.elim)) (by simp)) Tryz.underlying43 rfl ?_))
    replace O := O.drew
    refine wp_region_J (rdf [(3, z.s, 4, [(.slice (some ⟨g, o, none⟩) (m + 1) cp)]), (7, z.s, 4, [(.slice (some ⟨g, o, none⟩) (m + 1) cp)]), (11, g, (o + m * 39), x.cells)]) [12, 13] (by kernel_rfl) (RdA.cons (F0.out.grown (O.tch.grown (fun _ h => h.elim)) (by simp)) (RdA.cons (F0.out.grown (O.tch.grown (fun _ h => h.elim)) (by simp)) (RdA.cons (FR.out.grown (O.tch.grown (fun _ h => h.elim)) (by simp)) RdA.nil))) (fun hH => ?_)
    refine jp 0 ((.pointer (some ⟨z.s, 0, none⟩))) (Still.all hH) ?_
    simp only [Act.put, jq1, jq3, jq4, jq5, jq6]
    refine jp 1 ((.pointer (some ⟨z.s, 0, none⟩))) (Still.all hH) ?_
    simp only [Act.put, jq1, jq2, jq3, jq4, jq5, jq6]
    refine jp 2 ((.pointer (some ⟨z.s, 4, none⟩))) (Still.all hH) ?_
    simp only [Act.put, jq1, jq2, jq3, jq4, jq5, jq6]
    refine jr 0 3 ((.slice (some ⟨g, o, none⟩) (m + 1) cp)) rfl rfl (yields_cell (by rfl) 43 _ rfl z.s 4 rfl (.slice (some ⟨g, o, none⟩) (m + 1) cp) _ (fun W h => h) Tryz.underlying43 rfl) (Still.all hH) ?_
    simp only [Act.put, jq1, jq2, jq3, jq4, jq5, jq6]
    refine jp 4 ((.pointer (some ⟨z.s, 0, none⟩))) (Still.all hH) ?_
    simp only [Act.put, jq1, jq2, jq3, jq4, jq5, jq6]
    refine jp 5 ((.pointer (some ⟨z.s, 0, none⟩))) (Still.all hH) ?_
    simp only [Act.put, jq1, jq2, jq3, jq4, jq5, jq6]
    refine jp 6 ((.pointer (some ⟨z.s, 4, none⟩))) (Still.all hH) ?_
    simp only [Act.put, jq1, jq2, jq3, jq4, jq5, jq6]
    refine jr 1 7 ((.slice (some ⟨g, o, none⟩) (m + 1) cp)) rfl rfl (yields_cell (by rfl) 43 _ rfl z.s 4 rfl (.slice (some ⟨g, o, none⟩) (m + 1) cp) _ (fun W h => h) Tryz.underlying43 rfl) (Still.all hH) ?_
    simp only [Act.put, jq1, jq2, jq3, jq4, jq5, jq6]
    refine jp 8 ((.int .i64 ((m + 1 : Nat) : Int))) (Still.all hH) ?_
    simp only [Act.put, jq1, jq2, jq3, jq4, jq5, jq6]
    refine jp 9 ((.int .i64 (m : Int))) (Still.all hH) ?_
    simp only [Act.put, jq1, jq2, jq3, jq4, jq5, jq6]
    refine jp 10 ((.pointer (some ⟨g, o + m * 39, none⟩))) (Still.all hH) ?_
    simp only [Act.put, jq1, jq2, jq3, jq4, jq5, jq6]
    refine jr 2 11 ((.agg (x.cells).toArray)) rfl rfl (yieldsIf_load_mid (by rfl) 40 _ rfl g (o + m * 39) rfl x.cells _ (fun W h => h) Tryz.underlying40 rfl (x.size HX.out)) (Still.all hH) ?_
    simp only [Act.put, jq1, jq2, jq3, jq4, jq5, jq6]
    refine wpAnyJ_ready (rs := [12]) (by kernel_rfl) (by simp) ?_
    refine AllJ.keep rfl (by rfl) (by rfl) (fun K hK => ?_) (AllJ.nil)
    refine wp_call 35 _ _ (by rfl) (enters Tryz.func35 (by kernel_rfl) rfl) (by rfl) (placeOf_ok x _) ?_
    rintro e u ⟨rfl, g9⟩
    refine ⟨_, rfl, ?_⟩
    replace O := O.call g9
    simp only [Act.put, jq1, jq2, jq3, jq4, jq5, jq6]
    refine hK.out _ _ (RdA.grown hH g9) ?_
    replace hH := RdA.grown hH g9
    clear hK K
    clear g9
    refine wpAnyJ_ready (rs := [13]) (by kernel_rfl) (by simp) ?_
    refine AllJ.turn rfl (by rfl) (by rfl) (fun K hK => ?_) (AllJ.nil)
    refine wp_of_store 88 _ _ rfl O 0 b2 rfl x.pl.cells ZPl _ rfl rfl rfl (Pl_one _) (sizePl x.pl) ?_
    clear O
    intro w O
    simp only [List.set_cons_zero] at O
    simp only [Act.put, jq1, jq2, jq3]
    refine hK.out _ _ (waits_all (by kernel_rfl)) ?_
    clear hK K hH
    refine wpAnyJ_done (by kernel_rfl) ?_ _
    go_wp2_with fail
    refine bodyPost_ret (results_cell_one rfl _ _ ⟨b2, 0, none⟩ _ rfl (run_loadVar_part _ _ _ 88 _ _ (O.row_of (g := b2) (T := 88) (by simp)) Tryz.underlying88 rfl (sizePl x.pl))) rfl ?_
    exact ⟨rfl, O.tch.grown (fun _ h => h.elim)⟩
/-- what a signer's log may yet take -/
def LgP.room (y : LgP) (n : Nat) : Prop := y.x.B.length + n * 1100 ≤ 1048576 ∧ y.x.ns + 2 * n ≤ 100000 ∧ y.nr + n ≤ 100000
set_option maxHeartbeats 4000000 in
theorem keep_ok {w0 : World} {z : SgP} (h : SgRep w0 z) (v : VoteD) (hv : v.wf) (ho : okVote v = true) (hroom : z.y.room 1) (hR : RowAt w0 3 0 (wCells rootsL)) :
    Calls Tryz.prog 37 #[.pointer (some ⟨z.s, 0, none⟩), .agg v.cells.toArray] w0 fun e w' => e = .returned (.int .i64 0) ∧ ∃ bv sv rv rw sv2, LgPost w0 z.y ((z.y.next bv (encVote v) sv rv rw).synced sv2) w' := by
  have hl := encVote_len v hv ho; have hp := encVote_pos v
  have hrm := hroom
  unfold LgP.room at hrm
  have CA := Lib.hid (fun w (g : w0.grownBy w none) (u : Value) (hu : SRow w 5 1 u (encVote v).length (Lib.byteCells (encVote v))) => lgAppend_ok (h.log.grown g) u (encVote v) hu hp (by omega) (by omega) (by omega) (by omega) (hR.grown g (by simp)))
  have CS := Lib.hid (fun w bv sv rv rw (k : LgRep w (z.y.next bv (encVote v) sv rv rw)) => lgSync_ok k (by show z.y.x.ns + 1 ≤ 100000; omega))
  have CE := Lib.hid (fun w => EncodeVote_yes v w hv ho)
  have HVS := Lib.hid (v.size hv); have HVB := Lib.hid h.blk; have HTY := Lib.hid h.log
  have F0 := Lib.hid (show RowAt w0 z.s 0 [.pointer (some ⟨z.y.l, 0, none⟩)] from RowAt.one (h.blk.row 0 _ rfl))
  have O := OwF.start (fun _ => False) w0
  obtain ⟨R, hRR⟩ : ∃ R, encVote v = R := ⟨_, rfl⟩
  rw [hRR] at CA CS CE ⊢
  clear h hv ho hroom hrm hR hl hp hRR
  go_enter Tryz.func37, Tryz.ntmps37
  go_wp2_with (first | ((with_reducible refine @wpList_at _ _ _ _ _ _ _ (.box 40 (.tmp 1)) rfl ?_); refine @wpList_of_box _ _ _ _ _ _ _ _ _ _ 40 (.tmp 1) rfl v.cells rfl O rfl ?_; clear O; intro b1 w O) | ((with_reducible refine @wpList_at _ _ _ _ _ _ _ (.load 40 (.tmp 3)) rfl ?_); refine @wpList_of_whole _ _ _ _ _ _ _ _ _ _ 40 (.tmp 3) rfl O 0 b1 rfl v.cells _ rfl _ Tryz.underlying40 rfl HVS.out rfl ?_))
  refine (CE.out w).mono ?_
  rintro e w2 ⟨sa, sn, sc, rfl, o3, g3⟩
  replace O := O.call (below_grown g3)
  have hs := SRow.of_owns o3
  obtain ⟨_, _, hsv, _⟩ := hs.shape
  have hsn : sn = R.length := by injection hsv
  subst hsn
  have HS := Lib.hid hs
  clear o3 g3 hs hsv CE
  go_wp2_with (first | ((with_reducible refine @wpList_at _ _ _ _ _ _ _ (.load 79 (.tmp 16)) rfl ?_); refine wpList_load_one rfl 79 _ rfl z.s 0 rfl (.pointer (some ⟨z.y.l, 0, none⟩)) _ (F0.out.grown (O.tch.grown (fun _ h => h.elim)) (by simp)) Tryz.underlying79 rfl ?_))
  refine (CA.out w2 (O.tch.grown (fun _ h => h.elim)) _ HS.out).mono ?_
  rintro e w3 ⟨rfl, bv, sv, rv, rw, hp⟩
  have HP := Lib.hid hp
  have HG := Lib.hid (show w0.grownBy w2 none from O.tch.grown (fun _ h => h.elim))
  clear hp O CA HS
  have f0 := RowAt.one ((HVB.out.grown HG.out (by simp)).ty_keep HP.out.2.1 (HTY.out.grown HG.out).tys (by decide) |>.row 0 _ rfl)
  have F3 := Lib.hid f0
  clear f0
  go_wp2_with (first | ((with_reducible refine @wpList_at _ _ _ _ _ _ _ (.load 79 (.tmp 24)) rfl ?_); refine wpList_load_one rfl 79 _ rfl z.s 0 rfl (.pointer (some ⟨z.y.l, 0, none⟩)) _ F3.out Tryz.underlying79 rfl ?_))
  refine (CS.out w3 bv sv rv rw HP.out.1).mono ?_
  rintro e w4 ⟨rfl, sv2, hp2⟩
  have HP2 := Lib.hid hp2
  clear hp2
  go_wp2_with fail
  go_ret
  have t1 := (Tch.of_grown (F := z.y.foot) HG.out).trans HP.out.2.1 (fun _ hb _ => hb)
  have hsz := HG.out.size; have hs1 := HP.out.2.1.size
  refine ⟨rfl, bv, sv, rv, rw, sv2, HP2.out.1, t1.trans HP2.out.2.1 (fun b hb hl => ?_), fun b hb => ?_⟩
  · exact (HP.out.2.2 b hb).resolve_right (by omega)
  · rcases HP2.out.2.2 b hb with h2 | h2
    · rcases HP.out.2.2 b h2 with h3 | h3
      · exact .inl h3
      · exact .inr (by omega)
    · exact .inr (by omega)
theorem skey_ok {w0 : World} {z : SgP} (h : SgRep w0 z) : Calls Tryz.prog 16 #[.pointer (some ⟨z.s, 0, none⟩)] w0 fun e w' => e = .returned (.int .u64 (z.key : Int)) ∧ w' = w0 := by
  have F0 : w0.cell? ⟨z.s, 2, none⟩ = some (.int .u64 (z.key : Int)) := h.blk.row 2 _ rfl
  clear h
  go_enter Tryz.func16, Tryz.ntmps16
  go_wp2_with fail
  go_ret
  exact ⟨rfl, rfl⟩
def cloneRenV : Go.Shelf.Ren := ⟨fun | 41 => 38 | n => n, fun | 4 => 4 | 3 => 3 | 22 => 43 | 23 => 40 | n => n, fun | n => n⟩
theorem cloneLaysV : SlLaysE0.n41 Tryz.prog cloneRenV := {
  mixed := by kernel_rfl
  f41 := ⟨Tryz.f38.name, by decide +kernel, Tryz.func38.trans (congrArg some (by kernel_rfl))⟩
  t4 := Tryz.underlying4
  a4 := Tryz.isAgg4
  z4 := Tryz.sizeOf4
  v4 := Tryz.zeroValue4
  t22 := Tryz.underlying43
  a22 := Tryz.isAgg43
  z22 := Tryz.sizeOf43
  v22 := Tryz.zeroValue43 }
noncomputable def voteI : TypeInfo := (Tryz.prog.info? 40).get (by kernel_rfl)
theorem votesCells_one (ds : List VoteD) : ∀ u ∈ votesCells ds, u.oneCell' = true := by
  intro u hu
  obtain ⟨d, _, hd⟩ := List.mem_flatMap.1 hu
  exact VoteD_one d u hd
theorem cloneV_ok {w : World} {v : Value} {l : List VoteD} (h : SRow w 40 39 v l.length (votesCells l)) (hl : l.length ≤ 3000) (hnil : l.length = 0 → v = .slice none 0 0) :
    Calls Tryz.prog 38 #[v] w fun e w' => ∃ v', e = .returned v' ∧ SRow w' 40 39 v' l.length (votesCells l) ∧ w.grownBy w' none ∧ ∀ b, v'.ownBlock = some b → w.heap.size ≤ b := by
  by_cases hz : l.length = 0
  · obtain rfl := hnil hz
    have hx : l = [] := List.eq_nil_of_length_eq_zero hz
    subst hx
    exact (AnyE.slices_Clone_nil cloneLaysV 0 0 w).mono fun e w' ⟨he, hw⟩ => ⟨_, he, SRow.nil _ _ _, by rw [hw]; exact World.grownBy.refl _ _, fun b hb => by cases hb⟩
  · obtain ⟨g, o, c, rfl, h1, h2, _, hr⟩ := h.at_ (by omega)
    refine (AnyE.slices_Clone cloneLaysV voteI (.agg ZVote.toArray) 39 96 (by kernel_rfl) (by kernel_rfl) (by kernel_rfl) (by kernel_rfl) rfl (by decide) Tryz.sizeOf40 g o l.length c (votesCells l) w h.1 (Nat.le_trans hl (by decide)) (Nat.le_trans (Nat.mul_le_mul_right 96 hl) (by decide)) (fun j u hj => ?_) (votesCells_one l)).mono ?_
    · have := hr j u hj
      have e2 : (⟨g, o, none⟩ : Addr).add j = ⟨g, o + j, none⟩ := by unfold Addr.add; split <;> simp_all
      first | exact this | rwa [e2]
    · rintro e w' ⟨v', rfl, ho, _, hb⟩
      refine ⟨v', rfl, SRow.of_owns ho, ⟨hb.os, hb.tape, hb.output, hb.size, fun k hk _ => hb.block k hk⟩, fun b hv => ?_⟩
      obtain ⟨_, ⟨rfl, _⟩ | ⟨g2, cp2, cur2, rfl, hB, _⟩⟩ := id ho
      · cases hv
      · injection hv with hv; subst hv; exact hB
theorem sVotes_ok {w0 : World} {z : SgP} (h : SgRep w0 z) (hl : z.vs.length ≤ 3000) :
    Calls Tryz.prog 12 #[.pointer (some ⟨z.s, 0, none⟩)] w0 fun e w' => ∃ v', e = .returned v' ∧ SRow w' 40 39 v' z.vs.length (votesCells z.vs) ∧ w0.grownBy w' none ∧ ∀ b, v'.ownBlock = some b → w0.heap.size ≤ b := by
  have F0 : w0.cell? ⟨z.s, 4, none⟩ = some z.vv := h.blk.row 4 _ rfl
  have C := Lib.hid (cloneV_ok h.votes hl h.nil0)
  obtain ⟨vv, hvv⟩ : ∃ v, z.vv = v := ⟨_, rfl⟩
  rw [hvv] at F0 C
  clear h hl hvv
  go_enter Tryz.func12, Tryz.ntmps12
  go_wp2_with fail
  refine C.out.mono ?_
  rintro e w ⟨v', rfl, h1, h2, h3⟩
  have H := Lib.hid (show _ ∧ _ ∧ _ from ⟨h1, h2, h3⟩)
  clear h1 h2 h3
  go_wp2_with fail
  go_ret
  exact ⟨v', rfl, H.out⟩

end Go.Proofs.YtcbkehnlgpcelaaGreatDoor
