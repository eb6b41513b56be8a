/- Walk: Tally.Add. -/
import Derived.Test.YtfnginmoiecgnaaDoorTd
namespace Go.Proofs.YtfnginmoiecgnaaDoor
open Go.RowKit
open Go.Maps (Keyed)
set_option maxRecDepth 100000

def likeC1 (of v : VoteD) : List Value := of.cells.take 4 ++ Lib.byteCells v.block ++ of.cells.drop (4 + (Lib.byteCells v.block).length)
def likeC2 (of v : VoteD) : List Value := (likeC1 of v).set 36 (.int .u64 v.key)
def likeC3 (of v : VoteD) : List Value := (likeC2 of v).take 37 ++ [.int .u64 v.r, .int .u64 v.s] ++ (likeC2 of v).drop (37 + 2)
theorem like_c1 {of v : VoteD} (h : of.wf) (hv : v.wf) : likeC1 of v = ([.string of.chain, .int .i64 of.height, .int .i64 of.round, .int .i64 of.type] ++ Lib.byteCells v.block) ++ [.int .u64 of.key, .int .u64 of.r, .int .u64 of.s] := by
  have e : of.cells = [.string of.chain, .int .i64 of.height, .int .i64 of.round, .int .i64 of.type] ++ (Lib.byteCells of.block ++ [.int .u64 of.key, .int .u64 of.r, .int .u64 of.s]) := by simp [VoteD.cells]
  unfold likeC1
  rw [e, Lib.byteCells_length, hv.block, List.take_left' (show _ = 4 from rfl), ← List.drop_drop, List.drop_left' (show _ = 4 from rfl), List.drop_left' (by rw [Lib.byteCells_length, h.block])]
theorem like_c3 {of v : VoteD} (h : of.wf) (hv : v.wf) : likeC3 of v = (of.like v).cells := by
  unfold likeC3 likeC2
  rw [like_c1 h hv]
  generalize hp : [Value.string of.chain, .int .i64 of.height, .int .i64 of.round, .int .i64 of.type] ++ Lib.byteCells v.block = p
  have hlen : p.length = 36 := by rw [← hp]; simp [Lib.byteCells_length, hv.block]
  rw [List.set_append_right _ _ (by omega), hlen]
  show (p ++ ([.int .u64 v.key, .int .u64 of.r, .int .u64 of.s] : List Value)).take 37 ++ ([.int .u64 v.r, .int .u64 v.s] : List Value) ++ (p ++ ([.int .u64 v.key, .int .u64 of.r, .int .u64 of.s] : List Value)).drop 39 = _
  rw [List.take_append, List.take_of_length_le (by omega), hlen, List.drop_eq_nil_of_le (by simp [hlen])]
  simp [VoteD.cells, VoteD.like, ← hp]
theorem like_len1 {of v : VoteD} (h : of.wf) (hv : v.wf) : (likeC1 of v).length = 39 := by rw [like_c1 h hv]; simp [Lib.byteCells_length, hv.block]

theorem enters_vPower : ∀ args w, (callFunc 46 args).run Tryd.prog w = .ok (.enter 46 args) w := enters Tryd.func46 (by kernel_rfl) rfl
theorem tl_of {w : World} {p : Nat} {sv : Value} {tot : Int} {of : VoteD} {bm bs : Nat} {all : Int} {tv : Value} (hv : of.wf) (h : RowAt w p 0 (tlCells sv tot of bm bs all tv)) : RowAt w p 2 of.cells := by
  refine part_of (k := 2) (n := 39) h ?_
  have e : tlCells sv tot of bm bs all tv = [sv, .int .i64 tot] ++ (of.cells ++ [.map (some bm), .map (some bs), .int .i64 all, tv]) := by simp [tlCells]
  rw [e, List.drop_left' (show _ = 2 from rfl), List.take_left' (VoteD.cells_length of hv)]

section
variable (p : Nat) (sv : Value) (ds : List ValD) (tot : Int) (of v old : VoteD) (bm bs : Nat) (all pw : Int) (tv : Value) (n m nb : Nat) (D E : DataW Value) (isS : Bool) (both : List Value) (w : World)
/-- what Add does -/
inductive AddR : Ending → World → Prop
  | form {w' : World} (h1 : VEq v.cells (of.like v).cells = false) (g : w.grownBy w' none) : AddR (.returned (.int .i64 91)) w'
  | key {w' : World} (h1 : VEq v.cells (of.like v).cells = true) (h2 : powL v.key ds = 0) (g : w.grownBy w' none) : AddR (.returned (.int .i64 92)) w'
  | sig {w' : World} (h1 : VEq v.cells (of.like v).cells = true) (h2 : powL v.key ds ≠ 0) (h3 : signedB v = false) (g : w.grownBy w' none) : AddR (.returned (.int .i64 93)) w'
  | had {w' : World} (h1 : VEq v.cells (of.like v).cells = true) (h2 : powL v.key ds ≠ 0) (h3 : signedB v = true) (h4 : isS = true) (h5 : old.block = v.block) (g : w.grownBy w' none) : AddR (.returned (.int .i64 0)) w'
  | twice {w' : World} (h1 : VEq v.cells (of.like v).cells = true) (h2 : powL v.key ds ≠ 0) (h3 : signedB v = true) (h4 : isS = true) (h5 : old.block ≠ v.block) (k : Kp w w' (fun i => i = p ∨ tv.ownBlock = some i)) (g cap : Nat)
      (b : Blk w' p (tlCells sv tot of bm bs all (.slice (some ⟨g, 0, none⟩) (nb + 2) cap)) 84) (r : w'.ownsRow 0 29 39 (.slice (some ⟨g, 0, none⟩) (nb + 2) cap) (nb + 2) (both ++ (old.cells ++ v.cells))) (hg : tv.ownBlock = some g ∨ w.heap.size ≤ g) : AddR (.returned (.int .i64 94)) w'
  | new {w' : World} (h1 : VEq v.cells (of.like v).cells = true) (h2 : powL v.key ds ≠ 0) (h3 : signedB v = true) (h4 : isS = false) (k : Kp w w' (fun i => i = p ∨ i = bm ∨ i = bs)) (b : Blk w' p (tlCells sv tot of bm bs (all + powL v.key ds) tv) 84)
      (d : w'.ownsMap Tryd.prog 22 heldR bm (n + 1) (D.put (.int .u64 v.key) (.held (.agg v.cells.toArray)))) (e : w'.ownsMap Tryd.prog 25 sumR bs (m + 1) (E.put (hkL v.block) (.lit (.int .i64 (pw + powL v.key ds))))) : AddR (.returned (.int .i64 0)) w'
set_option maxHeartbeats 8000000 in
theorem Add_walk (hof : of.wf) (hv : v.wf) (ho : old.wf) (hb : Blk w p (tlCells sv tot of bm bs all tv) 84) (hrd : RdS w.heap.size w sv ds.length 2 (setCells ds)) (hD : w.ownsMap Tryd.prog 22 heldR bm n D) (hE : w.ownsMap Tryd.prog 25 sumR bs m E)
    (htw : w.ownsRow 0 29 39 tv nb both) (hR : RowAt w 0 0 (wCells rootsL)) (hsm : n ≤ 1000 ∧ m ≤ 1000 ∧ nb ≤ 2000) (hh : Maps.has D (.int .u64 v.key) = isS) (hat : D.atKey (.int .u64 v.key) (.held (.agg ZVote.toArray)) = .held (.agg old.cells.toArray))
    (hpw : E.atKey (hkL v.block) (.lit (.int .i64 0)) = .lit (.int .i64 pw)) (hr : isS = false → 0 ≤ pw ∧ 0 ≤ all ∧ 0 ≤ powL v.key ds ∧ pw + powL v.key ds ≤ 1125899906842624 ∧ all + powL v.key ds ≤ 1125899906842624)
    (hne : bm ≠ p ∧ bs ≠ p ∧ bm ≠ bs) (htp : ∀ g, tv.ownBlock = some g → g ≠ p) :
    Calls Tryd.prog 20 #[.pointer (some ⟨p, 0, none⟩), .agg v.cells.toArray] w (AddR p sv ds tot of v old bm bs all pw tv n m nb D E isS both w) := by
  have HP := Lib.hid hb; have HR := Lib.hid hrd; have HO := Lib.hid hof; have HV := Lib.hid hv; have HOld := Lib.hid ho
  have HD := Lib.hid hD; have HE := Lib.hid hE; have HT := Lib.hid htw; have HRo := Lib.hid hR; have HSm := Lib.hid hsm; have HH := Lib.hid hh; have HAt := Lib.hid hat; have HPw := Lib.hid hpw; have HRg := Lib.hid hr; have HNe := Lib.hid hne; have HTp := Lib.hid htp
  clear hb hrd hof hv ho hD hE htw hR hsm hh hat hpw hr hne htp
  go_enter Tryd.func20, Tryd.ntmps20
  go_wp2_with (first | (refine wpList_box_as rfl 29 _ rfl v.cells rfl ?_))
  intro w1 b1 g1 s1
  obtain ⟨b, hb⟩ : ∃ b, w.heap.size = b := ⟨_, rfl⟩
  rw [hb] at b1 ⊢
  have B1 := Lib.hid b1; have G1 := Lib.hid g1; have S1 := Lib.hid (show w1.heap.size = b + 1 by omega); have HB := Lib.hid hb
  have O1 := Lib.hid (tl_of HO.out (HP.out.grown g1 (by simp)).row)
  clear b1 g1 s1 hb
  go_wp2_with (first | (refine wpList_load_part rfl 29 _ rfl p 2 rfl of.cells _ O1.out Tryd.underlying29 rfl (of.size HO.out) ?_) | (refine wpList_alloc_as rfl 29 rfl ZVote ZVote_info ?_))
  intro w2 b2 g2 s2
  rw [S1.out] at b2 s2 ⊢
  have D2 := Lib.hid b2; have B2 := Lib.hid (B1.out.grown g2 (by simp)); have G2 := Lib.hid (Lib.grownBy_trans G1.out g2)
  clear b2 g2 O1 B1 G1
  have hl := Lib.hid (VoteD.cells_length _ HO.out)
  go_wp2_with (first | (refine wpList_store_whole rfl 29 _ _ rfl (b + 1) rfl of.cells ZVote 29 rfl D2.out (by rw [hl.out]; rfl) (VoteD_one _) (sizeVote _ hl.out) ?_))
  intro w3 g3 s3 b3
  have D3 := Lib.hid b3; have B3 := Lib.hid (B2.out.grown g3 (by simp)); have G3 := Lib.hid (grown_new G2.out g3 (by rw [HB.out]; omega))
  clear b3 g3 s3 s2 B2 D2 G2
  go_upto_region 4 with (fail)
  obtain ⟨kq, hkq⟩ : ∃ n, v.key = n := ⟨_, rfl⟩
  have hg0 : w3.grownBy w3.drew none := dr_grown w3 1
  have KF := Lib.hid (show ∀ W, w3.grownBy W (some (b + 1)) → RowAt W b 4 (Lib.byteCells v.block) ∧ W.cell? ⟨b, 36, none⟩ = some (.int .u64 v.key) ∧ RowAt W b 37 [.int .u64 v.r, .int .u64 v.s] from fun W g => by
    have r := (VoteD.At.of_row HV.out (B3.out.grown g (by simp)).row)
    have e1 := r.block; have e2 := r.key
    rw [Nat.zero_add] at e1 e2
    refine ⟨e1, e2, ?_⟩
    have h2 := vote_sig v HV.out
    have h3 := part_of (k := 37) (n := 2) r.row h2
    unfold sigC at h3
    rwa [← (u64_nat HV.out.r).1, ← (u64_nat HV.out.s).1] at h3)
  go_cut [5] from 15 (fun s5 w' => s5 = .pointer (some ⟨b + 1, 0, none⟩) ∧ Blk w' (b + 1) (of.like v).cells 29 ∧ Blk w' b v.cells 29 ∧ w.grownBy w' none)
  case first =>
    refine wp_region_held_drew (S := fun W => RowAt W b 4 (Lib.byteCells v.block) ∧ W.cell? ⟨b, 36, none⟩ = some (.int .u64 v.key) ∧ RowAt W b 37 [.int .u64 v.r, .int .u64 v.s]) (by kernel_rfl) (KF.out _ (Go.World.grownBy.but hg0 _)) (fun hH => ?_)
    refine wpAnyH_take (i := 0) (v := (.pointer (some ⟨b, 4, none⟩))) rfl (by kernel_rfl) (by kernel_rfl) (by kernel_rfl) (fun _ _ _ h => h) (Or.inl ⟨by rfl, fun W hS => by go_simp⟩) hH ?_
    simp only [Act.put, List.getElem_toArray, List.getElem_cons_zero, List.setIfInBounds_toArray, List.set_cons_zero, List.set_cons_succ]
    refine wpAnyH_take (i := 1) (v := (.agg (Lib.byteCells v.block).toArray)) rfl (by kernel_rfl) (by kernel_rfl) (by kernel_rfl) (fun _ _ _ h => h) (yieldsIf_load_mid (by rfl) 25 _ rfl b 4 rfl (Lib.byteCells v.block) _ (fun W h => h.1) Tryd.underlying25 rfl (sizeH _ (by rw [Lib.byteCells_length, HV.out.block]))) hH ?_
    simp only [Act.put, List.getElem_toArray, List.getElem_cons_succ, List.getElem_cons_zero, List.setIfInBounds_toArray, List.set_cons_zero, List.set_cons_succ]
    refine wpAnyH_take (i := 2) (v := (.pointer (some ⟨b, 36, none⟩))) rfl (by kernel_rfl) (by kernel_rfl) (by kernel_rfl) (fun _ _ _ h => h) (Or.inl ⟨by rfl, fun W hS => by go_simp⟩) hH ?_
    simp only [Act.put, List.getElem_toArray, List.getElem_cons_succ, List.getElem_cons_zero, List.setIfInBounds_toArray, List.set_cons_zero, List.set_cons_succ]
    refine wpAnyH_take (i := 3) (v := (.int .u64 v.key)) rfl (by kernel_rfl) (by kernel_rfl) (by kernel_rfl) (fun _ _ _ h => h) (Or.inl ⟨by rfl, fun W hS => by have c := hS.2.1; go_simp⟩) hH ?_
    simp only [Act.put, List.getElem_toArray, List.getElem_cons_succ, List.getElem_cons_zero, List.setIfInBounds_toArray, List.set_cons_zero, List.set_cons_succ]
    refine wpAnyH_take (i := 4) (v := (.pointer (some ⟨b, 37, none⟩))) rfl (by kernel_rfl) (by kernel_rfl) (by kernel_rfl) (fun _ _ _ h => h) (Or.inl ⟨by rfl, fun W hS => by go_simp⟩) hH ?_
    simp only [Act.put, List.getElem_toArray, List.getElem_cons_succ, List.getElem_cons_zero, List.setIfInBounds_toArray, List.set_cons_zero, List.set_cons_succ]
    refine wpAnyH_take (i := 5) (v := (.agg [.int .u64 v.r, .int .u64 v.s].toArray)) rfl (by kernel_rfl) (by kernel_rfl) (by kernel_rfl) (fun _ _ _ h => h) (yieldsIf_load_mid (by rfl) 27 _ rfl b 37 rfl [.int .u64 v.r, .int .u64 v.s] _ (fun W h => h.2.2) Tryd.underlying27 rfl sizeSig2) hH ?_
    simp only [Act.put, List.getElem_toArray, List.getElem_cons_succ, List.getElem_cons_zero, List.setIfInBounds_toArray, List.set_cons_zero, List.set_cons_succ]
    refine wpAnyH_take (i := 6) (v := (.pointer (some ⟨b + 1, 4, none⟩))) rfl (by kernel_rfl) (by kernel_rfl) (by kernel_rfl) (fun _ _ _ h => h) (Or.inl ⟨by rfl, fun W hS => by go_simp⟩) hH ?_
    simp only [Act.put, List.getElem_toArray, List.getElem_cons_succ, List.getElem_cons_zero, List.setIfInBounds_toArray, List.set_cons_zero, List.set_cons_succ]
    have D0 := D3.out.grown hg0 (by simp)
    have k0 := Go.World.grownBy.but hg0 (some (b + 1))
    refine wpAnyH_ready (rs := [7]) (by kernel_rfl) (by simp) ?_
    refine AllReadyH.cons rfl (fun K hK => ?_) AllReadyH.nil
    refine step_wanted (by rfl) (wp_store_part 25 _ _ (by rfl) (b + 1) 4 (by rfl) (Lib.byteCells v.block) of.cells 29 (by rfl) D0 (by rw [hl.out, Lib.byteCells_length, HV.out.block]; decide) (oneCell_bytes _) (sizeH _ (by rw [Lib.byteCells_length, HV.out.block])) ?_)
    intro v1 g1 s1 b1
    have k1 : w3.grownBy v1 (some (b + 1)) := World.grownBy.andThen k0 g1 (fun j hj => Or.inr hj)
    simp only [Act.put, List.getElem_toArray, List.getElem_cons_succ, List.getElem_cons_zero]
    refine hK.out _ _ (KF.out _ k1) (fun hH => ?_)
    clear hK K
    refine wpAnyH_take (i := 8) (v := (.pointer (some ⟨b + 1, 36, none⟩))) rfl (by kernel_rfl) (by kernel_rfl) (by kernel_rfl) (fun _ _ _ h => h) (Or.inl ⟨by rfl, fun W hS => by go_simp⟩) hH ?_
    simp only [Act.put, List.getElem_toArray, List.getElem_cons_succ, List.getElem_cons_zero]
    refine wpAnyH_ready (rs := [9]) (by kernel_rfl) (by simp) ?_
    refine AllReadyH.cons rfl (fun K hK => ?_) AllReadyH.nil
    refine step_wanted (by rfl) (wp_store_cell 22 _ _ (by rfl) (b + 1) 36 (by rfl) (.int .u64 v.key) (by rfl) rfl (likeC1 of v) 29 b1 (by rw [like_len1 HO.out HV.out]; decide) (by kernel_rfl) ?_)
    intro v2 g2 s2 b2
    have k2 : w3.grownBy v2 (some (b + 1)) := World.grownBy.andThen k1 g2 (fun j hj => Or.inr hj)
    simp only [Act.put, List.getElem_toArray, List.getElem_cons_succ, List.getElem_cons_zero, List.setIfInBounds_toArray, List.set_cons_zero, List.set_cons_succ]
    refine hK.out _ _ (KF.out _ k2) (fun hH => ?_)
    clear hK K
    refine wpAnyH_take (i := 10) (v := (.pointer (some ⟨b + 1, 37, none⟩))) rfl (by kernel_rfl) (by kernel_rfl) (by kernel_rfl) (fun _ _ _ h => h) (Or.inl ⟨by rfl, fun W hS => by go_simp⟩) hH ?_
    simp only [Act.put, List.getElem_toArray, List.getElem_cons_succ, List.getElem_cons_zero, List.setIfInBounds_toArray, List.set_cons_zero, List.set_cons_succ]
    refine wpAnyH_ready (rs := [11]) (by kernel_rfl) (by simp) ?_
    refine AllReadyH.cons rfl (fun K hK => ?_) AllReadyH.nil
    refine step_wanted (by rfl) (wp_store_part 27 _ _ (by rfl) (b + 1) 37 (by rfl) [.int .u64 v.r, .int .u64 v.s] (likeC2 of v) 29 (by rfl) b2 (by unfold likeC2; rw [List.length_set, like_len1 HO.out HV.out]; exact (by decide : 37 + 2 ≤ 39)) (by intro u hu; simp at hu; rcases hu with rfl | rfl <;> rfl) sizeSig2 ?_)
    intro v3 g3 s3 b3
    have k3 : w3.grownBy v3 (some (b + 1)) := World.grownBy.andThen k2 g3 (fun j hj => Or.inr hj)
    simp only [Act.put, List.getElem_toArray, List.getElem_cons_succ, List.getElem_cons_zero]
    refine hK.out _ _ (KF.out _ k3) (fun hH => ?_)
    clear hK K
    refine wpAnyH_done (by kernel_rfl) ?_ _
    go_wp2
    go_meet
    case rel =>
      refine ⟨rfl, ?_, B3.out.grown k3 (by simp), grown_new G3.out k3 (by rw [HB.out]; omega)⟩
      rw [← like_c3 HO.out HV.out]
      exact b3
  obtain ⟨sa, sc, hsv⟩ := HR.out.shape
  subst hsv
  go_wp2_with fail
  obtain ⟨rfl, d4, b4, g4⟩ := hcut
  have D4 := Lib.hid d4; have B4 := Lib.hid b4; have G4 := Lib.hid g4
  clear d4 b4 g4 KF hg0 D3 B3 G3 hkq
  have hg1 : wc.grownBy wc.drew none := dr_grown wc 1
  have KG := Lib.hid (show ∀ W, wc.grownBy W none → W.cell? ⟨p, 0, none⟩ = some (.slice sa ds.length sc) ∧ W.cell? ⟨b, 36, none⟩ = some (.int .u64 v.key) from fun W g => by
    have e2 := (VoteD.At.of_row HV.out (B4.out.grown g (by simp)).row).key
    have e1 := (HP.out.grown (Lib.grownBy_trans G4.out g) (by simp)).row 0 _ rfl
    rw [Nat.zero_add] at e1 e2
    exact ⟨e1, e2⟩)
  go_cut [6] from 24 (fun s6 w' => s6 = .int .i64 (powL v.key ds) ∧ wc.grownBy w' none)
  case first =>
    refine wp_region_held_drew (S := fun W => W.cell? ⟨p, 0, none⟩ = some (.slice sa ds.length sc) ∧ W.cell? ⟨b, 36, none⟩ = some (.int .u64 v.key)) (by kernel_rfl) (KG.out _ hg1) (fun hH => ?_)
    refine wpAnyH_take (i := 0) (v := (.pointer (some ⟨p, 0, none⟩))) rfl (by kernel_rfl) (by kernel_rfl) (by kernel_rfl) (fun _ _ _ h => h) (Or.inl ⟨by rfl, fun W hS => by go_simp⟩) hH ?_
    simp only [Act.put, List.getElem_toArray, List.getElem_cons_succ, List.getElem_cons_zero, List.setIfInBounds_toArray, List.set_cons_zero, List.set_cons_succ]
    refine wpAnyH_take (i := 1) (v := (.pointer (some ⟨p, 0, none⟩))) rfl (by kernel_rfl) (by kernel_rfl) (by kernel_rfl) (fun _ _ _ h => h) (Or.inl ⟨by rfl, fun W hS => by go_simp⟩) hH ?_
    simp only [Act.put, List.getElem_toArray, List.setIfInBounds_toArray]
    refine wpAnyH_take (i := 2) (v := (.pointer (some ⟨p, 0, none⟩))) rfl (by kernel_rfl) (by kernel_rfl) (by kernel_rfl) (fun _ _ _ h => h) (Or.inl ⟨by rfl, fun W hS => by go_simp⟩) hH ?_
    simp only [Act.put, List.getElem_toArray, List.getElem_cons_succ, List.getElem_cons_zero]
    refine wpAnyH_take (i := 3) (v := (.slice sa ds.length sc)) rfl (by kernel_rfl) (by kernel_rfl) (by kernel_rfl) (fun _ _ _ h => h) (Or.inl ⟨by rfl, fun W hS => by have c := hS.1; go_simp⟩) hH ?_
    simp only [Act.put, List.getElem_toArray, List.getElem_cons_succ, List.getElem_cons_zero, List.setIfInBounds_toArray, List.set_cons_zero, List.set_cons_succ]
    refine wpAnyH_take (i := 4) (v := (.pointer (some ⟨b, 36, none⟩))) rfl (by kernel_rfl) (by kernel_rfl) (by kernel_rfl) (fun _ _ _ h => h) (Or.inl ⟨by rfl, fun W hS => by go_simp⟩) hH ?_
    simp only [Act.put, List.getElem_toArray, List.getElem_cons_zero, List.setIfInBounds_toArray, List.set_cons_zero, List.set_cons_succ]
    refine wpAnyH_take (i := 5) (v := (.int .u64 v.key)) rfl (by kernel_rfl) (by kernel_rfl) (by kernel_rfl) (fun _ _ _ h => h) (Or.inl ⟨by rfl, fun W hS => by have c := hS.2; go_simp⟩) hH ?_
    simp only [Act.put, List.getElem_toArray, List.getElem_cons_succ, List.getElem_cons_zero, List.setIfInBounds_toArray, List.set_cons_zero, List.set_cons_succ]
    refine wpAnyH_ready (rs := [6]) (by kernel_rfl) (by simp) ?_
    refine AllReadyH.cons rfl (fun K hK => ?_) AllReadyH.nil
    refine step_wanted (by rfl) (wp_call 46 _ _ (by rfl) enters_vPower (by rfl) (vPower_ok (.slice sa ds.length sc) ds v.key wc.drew (HR.out.grown (Lib.grownBy_trans G4.out hg1))) ?_)
    rintro e u1 ⟨rfl, g1⟩
    refine ⟨_, rfl, ?_⟩
    have k1 := Lib.grownBy_trans hg1 g1
    simp only [Act.put, List.getElem_toArray, List.getElem_cons_succ, List.getElem_cons_zero, List.setIfInBounds_toArray, List.set_cons_zero, List.set_cons_succ]
    refine hK.out _ _ (KG.out _ k1) (fun hH => ?_)
    clear hK K
    refine wpAnyH_take (i := 7) (v := (.int .i64 (powL v.key ds))) rfl (by kernel_rfl) (by kernel_rfl) (by kernel_rfl) (fun _ _ _ h => h) (Or.inl ⟨by rfl, fun W hS => by go_simp⟩) hH ?_
    simp only [Act.put, List.getElem_toArray, List.getElem_cons_succ, List.getElem_cons_zero, List.setIfInBounds_toArray, List.set_cons_zero, List.set_cons_succ]
    refine wpAnyH_done (by kernel_rfl) ?_ _
    go_wp2
    go_meet
    case rel => exact ⟨rfl, k1⟩
  obtain ⟨hu6, g5⟩ := hcut
  have B5 := Lib.hid (B4.out.grown g5 (by simp)); have D5 := Lib.hid (D4.out.grown g5 (by simp)); have G5 := Lib.hid (Lib.grownBy_trans G4.out g5)
  subst hu6
  clear g5 hg1 KG B4 D4 G4
  obtain ⟨kn, hkn⟩ : ∃ k, powL v.key ds = k := ⟨_, rfl⟩
  rw [hkn]
  have HKN := Lib.hid hkn
  clear hkn
  have HB5 := Lib.hid (show w.heap.size ≤ b by rw [HB.out]; exact Nat.le_refl _)
  cases hve : VEq v.cells (of.like v).cells with
  | false =>
    have HVE := Lib.hid hve
    go_wp2_with (first | (refine wpList_load_part rfl 29 _ rfl b 0 rfl v.cells _ B5.out.row Tryd.underlying29 rfl (v.size HV.out) ?_) | (refine wpList_load_part rfl 29 _ rfl (b + 1) 0 rfl (of.like v).cells _ D5.out.row Tryd.underlying29 rfl ((of.like v).size (like_wf HO.out HV.out)) ?_) | (refine wpList_neq_flat rfl 29 _ _ _ rfl v.cells (of.like v).cells voteK rfl rfl vote_flat (v.fits HV.out) ((of.like v).fits (like_wf HO.out HV.out)) rfl (by kernel_rfl) ?_))
    go_ret
    exact .form HVE.out G5.out
  | true =>
    have HVE := Lib.hid hve
    by_cases h0 : kn = 0
    · subst h0
      go_wp2_with (first | (refine wpList_load_part rfl 29 _ rfl b 0 rfl v.cells _ B5.out.row Tryd.underlying29 rfl (v.size HV.out) ?_) | (refine wpList_load_part rfl 29 _ rfl (b + 1) 0 rfl (of.like v).cells _ D5.out.row Tryd.underlying29 rfl ((of.like v).size (like_wf HO.out HV.out)) ?_) | (refine wpList_neq_flat rfl 29 _ _ _ rfl v.cells (of.like v).cells voteK rfl rfl vote_flat (v.fits HV.out) ((of.like v).fits (like_wf HO.out HV.out)) rfl (by kernel_rfl) ?_))
      go_ret
      exact .key HVE.out HKN.out G5.out
    have HS := Lib.hid (Signed_ok v wc HV.out (HRo.out.grown G5.out (by simp)))
    have HN0 := Lib.hid (show powL v.key ds ≠ 0 by rw [HKN.out]; exact h0)
    cases hsg : signedB v with
    | false =>
      rw [hsg] at HS
      have HSG := Lib.hid hsg; clear hsg
      go_wp2_with (first | (refine wpList_load_part rfl 29 _ rfl b 0 rfl v.cells _ B5.out.row Tryd.underlying29 rfl (v.size HV.out) ?_) | (refine wpList_load_part rfl 29 _ rfl (b + 1) 0 rfl (of.like v).cells _ D5.out.row Tryd.underlying29 rfl ((of.like v).size (like_wf HO.out HV.out)) ?_) | (refine wpList_neq_flat rfl 29 _ _ _ rfl v.cells (of.like v).cells voteK rfl rfl vote_flat (v.fits HV.out) ((of.like v).fits (like_wf HO.out HV.out)) rfl (by kernel_rfl) ?_))
      refine HS.out.mono ?_
      rintro e u1 ⟨rfl, g6⟩
      have G6 := Lib.hid (Lib.grownBy_trans G5.out g6)
      clear g6
      go_wp2_with fail
      go_ret
      exact .sig HVE.out HN0.out HSG.out G6.out
    | true =>
      rw [hsg] at HS
      have HSG := Lib.hid hsg; clear hsg
      go_wp2_with (first | (refine wpList_load_part rfl 29 _ rfl b 0 rfl v.cells _ B5.out.row Tryd.underlying29 rfl (v.size HV.out) ?_) | (refine wpList_load_part rfl 29 _ rfl (b + 1) 0 rfl (of.like v).cells _ D5.out.row Tryd.underlying29 rfl ((of.like v).size (like_wf HO.out HV.out)) ?_) | (refine wpList_neq_flat rfl 29 _ _ _ rfl v.cells (of.like v).cells voteK rfl rfl vote_flat (v.fits HV.out) ((of.like v).fits (like_wf HO.out HV.out)) rfl (by kernel_rfl) ?_))
      refine HS.out.mono ?_
      rintro e u1 ⟨rfl, g6⟩
      have B6 := Lib.hid (B5.out.grown g6 (by simp)); have G6 := Lib.hid (Lib.grownBy_trans G5.out g6)
      clear g6 hve h0 B5 D5 G5 HS
      go_upto_region 12 with (fail)
      obtain ⟨q, hq⟩ : ∃ q, u1.heap.size = q := ⟨_, rfl⟩
      have hg2 : u1.grownBy u1.drew none := dr_grown u1 1
      have KH := Lib.hid (show ∀ W, u1.grownBy W none → W.cell? ⟨p, 41, none⟩ = some (.map (some bm)) ∧ W.cell? ⟨b, 36, none⟩ = some (.int .u64 v.key) ∧ W.ownsMap Tryd.prog 22 heldR bm n D from fun W g => by
        have e2 := (VoteD.At.of_row HV.out (B6.out.grown g (by simp)).row).key
        have e1 := (HP.out.grown (Lib.grownBy_trans G6.out g) (by simp)).row 41 _ (tl_tail HO.out 0)
        rw [Nat.zero_add] at e1 e2
        exact ⟨e1, e2, HD.out.kept (Lib.grownBy_trans G6.out g) (by simp)⟩)
      have HQ := Lib.hid hq
      have hbq := Lib.hid (show b < q by rw [← hq]; exact B6.out.lt)
      clear hq
      go_cut [7, 8] from 42 (fun s7 s8 w' => s7 = .pointer (some ⟨q, 0, none⟩) ∧ s8 = .bool isS ∧ Blk w' q old.cells 29 ∧ u1.grownBy w' none)
      case first =>
        refine wp_region_held_drew (S := fun W => W.cell? ⟨p, 41, none⟩ = some (.map (some bm)) ∧ W.cell? ⟨b, 36, none⟩ = some (.int .u64 v.key) ∧ W.ownsMap Tryd.prog 22 heldR bm n D) (by kernel_rfl) (KH.out _ hg2) (fun hH => ?_)
        refine wpAnyH_take (i := 0) (v := (.pointer (some ⟨p, 0, none⟩))) rfl (by kernel_rfl) (by kernel_rfl) (by kernel_rfl) (fun _ _ _ h => h) (Or.inl ⟨by rfl, fun W hS => by go_simp⟩) hH ?_
        simp only [Act.put, List.getElem_toArray, List.getElem_cons_zero, List.setIfInBounds_toArray, List.set_cons_zero, List.set_cons_succ]
        refine wpAnyH_take (i := 1) (v := (.pointer (some ⟨p, 0, none⟩))) rfl (by kernel_rfl) (by kernel_rfl) (by kernel_rfl) (fun _ _ _ h => h) (Or.inl ⟨by rfl, fun W hS => by go_simp⟩) hH ?_
        simp only [Act.put, List.getElem_toArray, List.getElem_cons_succ, List.getElem_cons_zero, List.setIfInBounds_toArray, List.set_cons_zero, List.set_cons_succ]
        refine wpAnyH_take (i := 2) (v := (.pointer (some ⟨p, 41, none⟩))) rfl (by kernel_rfl) (by kernel_rfl) (by kernel_rfl) (fun _ _ _ h => h) (Or.inl ⟨by rfl, fun W hS => by go_simp⟩) hH ?_
        simp only [Act.put, List.getElem_toArray, List.getElem_cons_succ, List.getElem_cons_zero, List.setIfInBounds_toArray, List.set_cons_zero, List.set_cons_succ]
        refine wpAnyH_take (i := 3) (v := (.map (some bm))) rfl (by kernel_rfl) (by kernel_rfl) (by kernel_rfl) (fun _ _ _ h => h) (Or.inl ⟨by rfl, fun W hS => by have c := hS.1; go_simp⟩) hH ?_
        simp only [Act.put, List.getElem_toArray, List.getElem_cons_succ, List.getElem_cons_zero, List.setIfInBounds_toArray, List.set_cons_zero, List.set_cons_succ]
        refine wpAnyH_take (i := 4) (v := (.pointer (some ⟨b, 36, none⟩))) rfl (by kernel_rfl) (by kernel_rfl) (by kernel_rfl) (fun _ _ _ h => h) (Or.inl ⟨by rfl, fun W hS => by go_simp⟩) hH ?_
        simp only [Act.put, List.getElem_toArray, List.getElem_cons_succ, List.getElem_cons_zero, List.setIfInBounds_toArray, List.set_cons_zero, List.set_cons_succ]
        refine wpAnyH_take (i := 5) (v := (.int .u64 v.key)) rfl (by kernel_rfl) (by kernel_rfl) (by kernel_rfl) (fun _ _ _ h => h) (Or.inl ⟨by rfl, fun W hS => by have c := hS.2.1; go_simp⟩) hH ?_
        simp only [Act.put, List.getElem_toArray, List.getElem_cons_succ, List.getElem_cons_zero, List.setIfInBounds_toArray, List.set_cons_zero, List.set_cons_succ]
        refine wpAnyH_take (i := 6) (v := (.tuple #[.agg old.cells.toArray, .bool isS])) rfl (by kernel_rfl) (by kernel_rfl) (by kernel_rfl) (fun _ _ _ h => h) (.inl ⟨by rfl, fun W hS => run_lookup_op _ _ _ _ (by rfl) (by rfl) (by rfl) (held_look hS.2.2 HV.out.key HH.out HAt.out)⟩) hH ?_
        simp only [Act.put, List.getElem_toArray, List.getElem_cons_succ, List.getElem_cons_zero, List.setIfInBounds_toArray, List.set_cons_zero, List.set_cons_succ]
        refine wpAnyH_take (i := 7) (v := (.tuple #[.agg old.cells.toArray, .bool isS])) rfl (by kernel_rfl) (by kernel_rfl) (by kernel_rfl) (fun _ _ _ h => h) (Or.inl ⟨by rfl, fun W hS => by go_simp⟩) hH ?_
        simp only [Act.put, List.getElem_toArray, List.getElem_cons_succ, List.getElem_cons_zero, List.setIfInBounds_toArray, List.set_cons_zero, List.set_cons_succ]
        refine wpAnyH_take (i := 8) (v := (.agg old.cells.toArray)) rfl (by kernel_rfl) (by kernel_rfl) (by kernel_rfl) (fun _ _ _ h => h) (Or.inl ⟨by rfl, fun W hS => by go_simp⟩) hH ?_
        simp only [Act.put, List.getElem_toArray, List.getElem_cons_succ, List.getElem_cons_zero, List.setIfInBounds_toArray, List.set_cons_zero, List.set_cons_succ]
        refine wpAnyH_take (i := 9) (v := (.bool isS)) rfl (by kernel_rfl) (by kernel_rfl) (by kernel_rfl) (fun _ _ _ h => h) (Or.inl ⟨by rfl, fun W hS => by go_simp⟩) hH ?_
        simp only [Act.put, List.getElem_toArray, List.getElem_cons_succ, List.getElem_cons_zero, List.setIfInBounds_toArray, List.set_cons_zero, List.set_cons_succ]
        refine wpAnyH_ready (rs := [10]) (by kernel_rfl) (by simp) ?_
        refine AllReadyH.cons rfl (fun K hK => ?_) AllReadyH.nil
        refine step_wanted (by rfl) (wp_alloc_as 29 (by rfl) ZVote ZVote_info ?_)
        intro v1 b1 g1 s1
        rw [show u1.drew.heap.size = q from HQ.out] at b1 s1 ⊢
        have k1 := Lib.grownBy_trans hg2 g1
        simp only [Act.put, List.getElem_toArray, List.getElem_cons_succ, List.getElem_cons_zero, List.setIfInBounds_toArray, List.set_cons_zero, List.set_cons_succ]
        refine hK.out _ _ (KH.out _ k1) (fun hH => ?_)
        clear hK K
        refine wpAnyH_ready (rs := [11]) (by kernel_rfl) (by simp) ?_
        refine AllReadyH.cons rfl (fun K hK => ?_) AllReadyH.nil
        refine step_wanted (by rfl) (wp_store_whole 29 _ _ (by rfl) q (by rfl) old.cells ZVote 29 (by rfl) b1 (by rw [VoteD.cells_length _ HOld.out]; rfl) (VoteD_one _) (sizeVote _ (VoteD.cells_length _ HOld.out)) ?_)
        intro v2 g2 s2 b2
        have k2 := grown_new k1 g2 (by rw [HQ.out]; exact Nat.le_refl _)
        simp only [Act.put, List.getElem_toArray, List.getElem_cons_succ, List.getElem_cons_zero]
        refine hK.out _ _ (KH.out _ k2) (fun hH => ?_)
        clear hK K
        refine wpAnyH_take (i := 12) (v := (.bool isS)) rfl (by kernel_rfl) (by kernel_rfl) (by kernel_rfl) (fun _ _ _ h => h) (Or.inl ⟨by rfl, fun W hS => by go_simp⟩) hH ?_
        simp only [Act.put, List.getElem_toArray, List.getElem_cons_succ, List.getElem_cons_zero]
        refine wpAnyH_done (by kernel_rfl) ?_ _
        go_wp2
        go_meet
        case rel => exact ⟨rfl, rfl, b2, k2⟩
      obtain ⟨hu7, hu8, q7, g7⟩ := hcut
      have B7 := Lib.hid (B6.out.grown g7 (by simp)); have Q7 := Lib.hid q7; have G7 := Lib.hid (Lib.grownBy_trans G6.out g7)
      subst hu7 hu8
      clear g7 q7 hg2 KH B6 G6
      cases hs : isS with
      | false =>
        have HRg2 := Lib.hid (HRg.out hs)
        subst hs
        go_upto_region 18 with (fail)
        have hg3 : wc.grownBy wc.drew none := dr_grown wc 1
        have HL := Lib.hid (show p < w.heap.size ∧ bm < w.heap.size ∧ bs < w.heap.size from ⟨HP.out.lt, HD.out.lt, HE.out.lt⟩)
        have KI := Lib.hid (show ∀ W, wc.grownBy W (some bm) → W.cell? ⟨p, 41, none⟩ = some (.map (some bm)) ∧ W.cell? ⟨b, 36, none⟩ = some (.int .u64 v.key) ∧ RowAt W b 0 v.cells from fun W g => by
          have gp : some p ≠ some bm := by have := HNe.out.1; simp; omega
          have gb : some b ≠ some bm := by have := HL.out; have := HB5.out; simp; omega
          have e2 := (VoteD.At.of_row HV.out (B7.out.grown g gb).row)
          have e1 := ((HP.out.grown G7.out (by simp)).grown g gp).row 41 _ (tl_tail HO.out 0)
          have e3 := e2.key
          rw [Nat.zero_add] at e1 e3
          exact ⟨e1, e3, e2.row⟩)
        have d3 := HD.out.kept (Lib.grownBy_trans G7.out hg3) (by simp)
        obtain ⟨x3, r3, o3, m3⟩ := d3.update key_law Tryd.underlying81 (Nat.lt_of_le_of_lt HSm.out.1 (by decide)) (u64_key v.key HV.out.key) (show heldR (.agg v.cells.toArray) = some (.held (.agg v.cells.toArray), []) from rfl)
        have R3 := Lib.hid r3; have O3 := Lib.hid o3; have k3 := Lib.hid (World.grownBy.andThen (Go.World.grownBy.but hg3 (some bm)) m3 (fun j hj => Or.inr hj))
        clear d3 r3 o3 m3
        go_cut [] from 74 (fun w' => wc.grownBy w' (some bm) ∧ w'.ownsMap Tryd.prog 22 heldR bm (n + 1) (D.put (.int .u64 v.key) (.held (.agg v.cells.toArray))))
        case first =>
          refine wp_region_held_drew (S := fun W => W.cell? ⟨p, 41, none⟩ = some (.map (some bm)) ∧ W.cell? ⟨b, 36, none⟩ = some (.int .u64 v.key) ∧ RowAt W b 0 v.cells) (by kernel_rfl) (KI.out _ (Go.World.grownBy.but hg3 _)) (fun hH => ?_)
          refine wpAnyH_take (i := 0) (v := (.pointer (some ⟨p, 0, none⟩))) rfl (by kernel_rfl) (by kernel_rfl) (by kernel_rfl) (fun _ _ _ h => h) (Or.inl ⟨by rfl, fun W hS => by go_simp⟩) hH ?_
          simp only [Act.put, List.getElem_toArray, List.getElem_cons_zero, List.setIfInBounds_toArray, List.set_cons_zero, List.set_cons_succ]
          refine wpAnyH_take (i := 1) (v := (.pointer (some ⟨p, 0, none⟩))) rfl (by kernel_rfl) (by kernel_rfl) (by kernel_rfl) (fun _ _ _ h => h) (Or.inl ⟨by rfl, fun W hS => by go_simp⟩) hH ?_
          simp only [Act.put, List.getElem_toArray, List.getElem_cons_succ, List.getElem_cons_zero, List.setIfInBounds_toArray, List.set_cons_zero, List.set_cons_succ]
          refine wpAnyH_take (i := 2) (v := (.pointer (some ⟨p, 41, none⟩))) rfl (by kernel_rfl) (by kernel_rfl) (by kernel_rfl) (fun _ _ _ h => h) (Or.inl ⟨by rfl, fun W hS => by go_simp⟩) hH ?_
          simp only [Act.put, List.getElem_toArray, List.getElem_cons_succ, List.getElem_cons_zero, List.setIfInBounds_toArray, List.set_cons_zero, List.set_cons_succ]
          refine wpAnyH_take (i := 3) (v := (.map (some bm))) rfl (by kernel_rfl) (by kernel_rfl) (by kernel_rfl) (fun _ _ _ h => h) (Or.inl ⟨by rfl, fun W hS => by have c := hS.1; go_simp⟩) hH ?_
          simp only [Act.put, List.getElem_toArray, List.getElem_cons_succ, List.getElem_cons_zero, List.setIfInBounds_toArray, List.set_cons_zero, List.set_cons_succ]
          refine wpAnyH_take (i := 4) (v := (.pointer (some ⟨b, 36, none⟩))) rfl (by kernel_rfl) (by kernel_rfl) (by kernel_rfl) (fun _ _ _ h => h) (Or.inl ⟨by rfl, fun W hS => by go_simp⟩) hH ?_
          simp only [Act.put, List.getElem_toArray, List.getElem_cons_succ, List.getElem_cons_zero, List.setIfInBounds_toArray, List.set_cons_zero, List.set_cons_succ]
          refine wpAnyH_take (i := 5) (v := (.int .u64 v.key)) rfl (by kernel_rfl) (by kernel_rfl) (by kernel_rfl) (fun _ _ _ h => h) (Or.inl ⟨by rfl, fun W hS => by have c := hS.2.1; go_simp⟩) hH ?_
          simp only [Act.put, List.getElem_toArray, List.getElem_cons_succ, List.getElem_cons_zero, List.setIfInBounds_toArray, List.set_cons_zero, List.set_cons_succ]
          refine wpAnyH_take (i := 6) (v := (.agg v.cells.toArray)) rfl (by kernel_rfl) (by kernel_rfl) (by kernel_rfl) (fun _ _ _ h => h) (yieldsIf_load_mid (by rfl) 29 _ rfl b 0 rfl v.cells _ (fun W h => h.2.2) Tryd.underlying29 rfl (v.size HV.out)) hH ?_
          simp only [Act.put, List.getElem_toArray, List.getElem_cons_succ, List.getElem_cons_zero, List.setIfInBounds_toArray, List.set_cons_zero, List.set_cons_succ]
          refine wpAnyH_ready (rs := [7]) (by kernel_rfl) (by simp) ?_
          refine AllReadyH.cons rfl (fun K hK => ?_) AllReadyH.nil
          refine step_wanted (by rfl) (wp_mapUpdate 81 _ _ _ (by rfl) (by rfl) (by rfl) (by rfl) R3.out ?_)
          simp only [Act.put, List.getElem_toArray, List.getElem_cons_zero]
          refine hK.out _ _ (KI.out _ k3.out) (fun hH => ?_)
          clear hK K
          refine wpAnyH_done (by kernel_rfl) ?_ _
          go_wp2
          go_meet
          case rel => exact ⟨k3.out, O3.out⟩
        obtain ⟨g8, d8⟩ := hcut
        have gb8 : some b ≠ some bm := by have := HL.out; have := HB5.out; simp; omega
        have G8 := Lib.hid (World.grownBy.andThen (Go.World.grownBy.but G7.out (some bm)) g8 (fun j hj => Or.inr hj))
        have B8 := Lib.hid (B7.out.grown g8 gb8); have D8 := Lib.hid d8
        have E8 := Lib.hid (HE.out.kept G8.out (by have := HNe.out.2.2; simp; omega))
        have P8 := Lib.hid (HP.out.grown G8.out (by have := HNe.out.1; simp; omega))
        clear g8 d8 gb8 k3 KI hg3 B7 R3 O3 Q7
        go_upto_region 19 with (fail)
        have hg4 : wc.grownBy wc.drew none := dr_grown wc 1
        have KJ := Lib.hid (show ∀ W, wc.grownBy W (some bs) → W.cell? ⟨p, 42, none⟩ = some (.map (some bs)) ∧ RowAt W b 4 (Lib.byteCells v.block) from fun W g => by
          have gp : some p ≠ some bs := by have := HNe.out.2.1; simp; omega
          have gb : some b ≠ some bs := by have := HL.out; have := HB5.out; simp; omega
          have e2 := (VoteD.At.of_row HV.out (B8.out.grown g gb).row).block
          have e1 := (P8.out.grown g gp).row 42 _ (tl_tail HO.out 1)
          rw [Nat.zero_add] at e1 e2
          exact ⟨e1, e2⟩)
        have e4 := E8.out.kept hg4 (by simp)
        obtain ⟨v0, st, x4, r4, m4, ⟨n', E', o4, at4⟩, hst⟩ := entry_own (R := sumR) hash_law hash_keyed Tryd.underlying82 (z := .int .i64 0) Tryd.zeroValue3 (plainElem_int Tryd.underlying3 (by decide)) e4 (Nat.lt_of_le_of_lt HSm.out.2.1 (by decide)) (hash_key v.block HV.out.block)
        have rg := HRg2.out
        rw [HKN.out] at rg
        have HRg3 := Lib.hid rg
        have HEw := Lib.hid (show IntKind.i64.wrap (pw + kn) = pw + kn from IntWalk.i64_in _ (by omega))
        have HEa := Lib.hid (show IntKind.i64.wrap (all + kn) = all + kn from IntWalk.i64_in _ (by omega))
        obtain ⟨x5, r5, o5, m5⟩ := hst (.int .i64 (pw + kn)) (.lit (.int .i64 (pw + kn))) [] (plainElem_int Tryd.underlying3 (by
          have e1 : IntKind.i64.min = -9223372036854775808 := rfl
          have e2 : IntKind.i64.max = 9223372036854775807 := rfl
          simp only [Lit.wf, e1, e2, Bool.and_eq_true, decide_eq_true_eq]; omega))
        have L4 := Lib.hid (int_lookup e4 hash_keyed Tryd.underlying82 Tryd.underlying3 (Tryd.zeroValue3 _) (hash_key v.block HV.out.block) HPw.out)
        have L5 := Lib.hid (int_lookup o4 hash_keyed Tryd.underlying82 Tryd.underlying3 (Tryd.zeroValue3 _) (hash_key v.block HV.out.block) (at4.trans HPw.out))
        have k4 := Lib.hid (World.grownBy.andThen (Go.World.grownBy.but hg4 (some bs)) m4 (fun j hj => Or.inr hj))
        have k5 := Lib.hid (World.grownBy.andThen k4.out m5 (fun j hj => Or.inr hj))
        have R4 := Lib.hid r4; have R5 := Lib.hid r5; have O5 := Lib.hid o5
        clear e4 r4 m4 o4 at4 hst r5 o5 m5 rg
        go_cut [] from 81 (fun w' => wc.grownBy w' (some bs) ∧ w'.ownsMap Tryd.prog 25 sumR bs (m + 1) (E.put (hkL v.block) (.lit (.int .i64 (pw + kn)))))
        case first =>
          refine wp_region_held_drew (S := fun W => W.cell? ⟨p, 42, none⟩ = some (.map (some bs)) ∧ RowAt W b 4 (Lib.byteCells v.block)) (by kernel_rfl) (KJ.out _ (Go.World.grownBy.but hg4 _)) (fun hH => ?_)
          refine wpAnyH_take (i := 0) (v := (.pointer (some ⟨p, 0, none⟩))) rfl (by kernel_rfl) (by kernel_rfl) (by kernel_rfl) (fun _ _ _ h => h) (Or.inl ⟨by rfl, fun W hS => by go_simp⟩) hH ?_
          simp only [Act.put, List.getElem_toArray, List.getElem_cons_succ, List.getElem_cons_zero]
          refine wpAnyH_take (i := 1) (v := (.pointer (some ⟨p, 0, none⟩))) rfl (by kernel_rfl) (by kernel_rfl) (by kernel_rfl) (fun _ _ _ h => h) (Or.inl ⟨by rfl, fun W hS => by go_simp⟩) hH ?_
          simp only [Act.put, List.getElem_toArray, List.getElem_cons_succ, List.getElem_cons_zero, List.setIfInBounds_toArray, List.set_cons_zero, List.set_cons_succ]
          refine wpAnyH_take (i := 2) (v := (.pointer (some ⟨p, 42, none⟩))) rfl (by kernel_rfl) (by kernel_rfl) (by kernel_rfl) (fun _ _ _ h => h) (Or.inl ⟨by rfl, fun W hS => by go_simp⟩) hH ?_
          simp only [Act.put, List.getElem_toArray, List.setIfInBounds_toArray]
          refine wpAnyH_take (i := 3) (v := (.map (some bs))) rfl (by kernel_rfl) (by kernel_rfl) (by kernel_rfl) (fun _ _ _ h => h) (Or.inl ⟨by rfl, fun W hS => by have c := hS.1; go_simp⟩) hH ?_
          simp only [Act.put, List.getElem_toArray, List.getElem_cons_succ, List.getElem_cons_zero, List.setIfInBounds_toArray, List.set_cons_zero, List.set_cons_succ]
          refine wpAnyH_take (i := 4) (v := (.pointer (some ⟨b, 4, none⟩))) rfl (by kernel_rfl) (by kernel_rfl) (by kernel_rfl) (fun _ _ _ h => h) (Or.inl ⟨by rfl, fun W hS => by go_simp⟩) hH ?_
          simp only [Act.put, List.getElem_toArray, List.getElem_cons_succ, List.getElem_cons_zero, List.setIfInBounds_toArray, List.set_cons_zero, List.set_cons_succ]
          refine wpAnyH_take (i := 5) (v := (.agg (Lib.byteCells v.block).toArray)) rfl (by kernel_rfl) (by kernel_rfl) (by kernel_rfl) (fun _ _ _ h => h) (yieldsIf_load_mid (by rfl) 25 _ rfl b 4 rfl (Lib.byteCells v.block) _ (fun W h => h.2) Tryd.underlying25 rfl (sizeH _ (by rw [Lib.byteCells_length, HV.out.block]))) hH ?_
          simp only [Act.put, List.getElem_toArray, List.getElem_cons_succ, List.getElem_cons_zero, List.setIfInBounds_toArray, List.set_cons_zero, List.set_cons_succ]
          refine wpAnyH_take (i := 7) (v := (.int .i64 kn)) rfl (by kernel_rfl) (by kernel_rfl) (by kernel_rfl) (fun _ _ _ h => h) (Or.inl ⟨by rfl, fun W hS => by go_simp⟩) hH ?_
          simp only [Act.put, List.getElem_toArray, List.getElem_cons_succ, List.getElem_cons_zero, List.setIfInBounds_toArray, List.set_cons_zero, List.set_cons_succ]
          refine wpAnyH_ready (rs := [6, 9]) (by kernel_rfl) (by simp) ?_
          refine AllReadyH.cons rfl (fun K hK => ?_) (AllReadyH.cons rfl (fun K hK => ?_) AllReadyH.nil)
          · refine step_wanted (by rfl) (wp_lookup 82 _ _ _ (by rfl) (by rfl) (by rfl) L4.out ?_)
            simp only [Act.put, List.getElem_toArray, List.getElem_cons_succ, List.getElem_cons_zero, List.setIfInBounds_toArray, List.set_cons_zero, List.set_cons_succ]
            refine hK.out _ _ (KJ.out _ (Go.World.grownBy.but hg4 _)) (fun hH => ?_)
            clear hK K
            refine wpAnyH_take (i := 8) (v := (.int .i64 (pw + kn))) rfl (by kernel_rfl) (by kernel_rfl) (by kernel_rfl) (fun _ _ _ h => h) (Or.inl ⟨by rfl, fun W hS => by have ew := HEw.out; go_simp⟩) hH ?_
            simp only [Act.put, List.getElem_toArray, List.getElem_cons_succ, List.getElem_cons_zero, List.setIfInBounds_toArray, List.set_cons_zero, List.set_cons_succ]
            refine wpAnyH_ready (rs := [9]) (by kernel_rfl) (by simp) ?_
            refine AllReadyH.cons rfl (fun K hK => ?_) AllReadyH.nil
            refine step_wanted (by rfl) (wp_mapEntry 82 _ _ (by rfl) (by rfl) (by rfl) R4.out ?_)
            simp only [Act.put, List.getElem_toArray, List.getElem_cons_succ, List.getElem_cons_zero, List.setIfInBounds_toArray, List.set_cons_zero, List.set_cons_succ]
            refine hK.out _ _ (KJ.out _ k4.out) (fun hH => ?_)
            clear hK K
            refine wpAnyH_take (i := 10) (v := (.int .i64 st)) rfl (by kernel_rfl) (by kernel_rfl) (by kernel_rfl) (fun _ _ _ h => h) (Or.inl ⟨by rfl, fun W hS => by go_simp⟩) hH ?_
            simp only [Act.put, List.getElem_toArray, List.getElem_cons_succ, List.getElem_cons_zero, List.setIfInBounds_toArray, List.set_cons_zero, List.set_cons_succ]
            refine wpAnyH_ready (rs := [11]) (by kernel_rfl) (by simp) ?_
            refine AllReadyH.cons rfl (fun K hK => ?_) AllReadyH.nil
            refine step_wanted (by rfl) (wp_entryStore 82 _ _ _ (by rfl) (by rfl) (by rfl) (by rfl) R5.out ?_)
            simp only [Act.put, List.getElem_toArray, List.getElem_cons_succ, List.getElem_cons_zero]
            refine hK.out _ _ (KJ.out _ k5.out) (fun hH => ?_)
            clear hK K
            refine wpAnyH_done (by kernel_rfl) ?_ _
            go_wp2
            go_meet
            case rel => exact ⟨k5.out, O5.out⟩
          · refine step_wanted (by rfl) (wp_mapEntry 82 _ _ (by rfl) (by rfl) (by rfl) R4.out ?_)
            simp only [Act.put, List.getElem_toArray, List.getElem_cons_succ, List.getElem_cons_zero, List.setIfInBounds_toArray, List.set_cons_zero, List.set_cons_succ]
            refine hK.out _ _ (KJ.out _ k4.out) (fun hH => ?_)
            clear hK K
            refine wpAnyH_take (i := 10) (v := (.int .i64 st)) rfl (by kernel_rfl) (by kernel_rfl) (by kernel_rfl) (fun _ _ _ h => h) (Or.inl ⟨by rfl, fun W hS => by go_simp⟩) hH ?_
            simp only [Act.put, List.getElem_toArray, List.getElem_cons_succ, List.getElem_cons_zero, List.setIfInBounds_toArray, List.set_cons_zero, List.set_cons_succ]
            refine wpAnyH_ready (rs := [6]) (by kernel_rfl) (by simp) ?_
            refine AllReadyH.cons rfl (fun K hK => ?_) AllReadyH.nil
            refine step_wanted (by rfl) (wp_lookup 82 _ _ _ (by rfl) (by rfl) (by rfl) L5.out ?_)
            simp only [Act.put, List.getElem_toArray, List.getElem_cons_succ, List.getElem_cons_zero, List.setIfInBounds_toArray, List.set_cons_zero, List.set_cons_succ]
            refine hK.out _ _ (KJ.out _ k4.out) (fun hH => ?_)
            clear hK K
            refine wpAnyH_take (i := 8) (v := (.int .i64 (pw + kn))) rfl (by kernel_rfl) (by kernel_rfl) (by kernel_rfl) (fun _ _ _ h => h) (Or.inl ⟨by rfl, fun W hS => by have ew := HEw.out; go_simp⟩) hH ?_
            simp only [Act.put, List.getElem_toArray, List.getElem_cons_succ, List.getElem_cons_zero, List.setIfInBounds_toArray, List.set_cons_zero, List.set_cons_succ]
            refine wpAnyH_ready (rs := [11]) (by kernel_rfl) (by simp) ?_
            refine AllReadyH.cons rfl (fun K hK => ?_) AllReadyH.nil
            refine step_wanted (by rfl) (wp_entryStore 82 _ _ _ (by rfl) (by rfl) (by rfl) (by rfl) R5.out ?_)
            simp only [Act.put, List.getElem_toArray, List.getElem_cons_zero]
            refine hK.out _ _ (KJ.out _ k5.out) (fun hH => ?_)
            clear hK K
            refine wpAnyH_done (by kernel_rfl) ?_ _
            go_wp2
            go_meet
            case rel => exact ⟨k5.out, O5.out⟩
        obtain ⟨g9, e9⟩ := hcut
        have D9 := Lib.hid (D8.out.kept g9 (by have := HNe.out.2.2; simp; omega)); have E9 := Lib.hid e9
        have P9 := Lib.hid (P8.out.grown g9 (by have := HNe.out.2.1; simp; omega))
        have K9 := Lib.hid (Kp.add (Kp.of (S := fun i => i = p ∨ i = bm ∨ i = bs) G8.out (fun k e _ => by cases e; exact Or.inr (Or.inl rfl))) g9 (fun k e _ => by cases e; exact Or.inr (Or.inr rfl)))
        clear g9 e9 KJ k4 k5 L4 L5 R4 R5 O5 hg4 B8 D8 E8 P8 G8
        have c9 := P9.out.row 43 _ (tl_tail HO.out 2)
        rw [Nat.zero_add] at c9
        have ea := HEa.out
        go_wp2_with (first | (refine wpList_store_cell rfl 3 _ _ rfl p 43 rfl (.int .i64 (all + kn)) rfl rfl _ 84 P9.out (by rw [tl_len HO.out]; decide) (by kernel_rfl) ?_))
        intro w4 g4 s4 b4
        rw [tl_set HO.out 2] at b4
        have B4 := Lib.hid b4; have K4 := Lib.hid (K9.out.add g4 (fun k e _ => by cases e; exact Or.inl rfl)); have D4 := Lib.hid (D9.out.kept g4 (by have := HNe.out.1; simp; omega)); have E4 := Lib.hid (E9.out.kept g4 (by have := HNe.out.2.1; simp; omega))
        clear b4 g4 s4 ea c9
        go_wp2_with fail
        go_ret
        exact .new HVE.out HN0.out HSG.out rfl K4.out (by rw [HKN.out]; exact B4.out) D4.out (by rw [HKN.out]; exact E4.out)
      | true =>
        subst hs
        have qr := (VoteD.At.of_row HOld.out Q7.out.row).block
        have br := (VoteD.At.of_row HV.out B7.out.row).block
        rw [Nat.zero_add] at qr br
        have QR := Lib.hid qr; have BR := Lib.hid br
        clear qr br
        cases hbb : VEq (Lib.byteCells old.block) (Lib.byteCells v.block) with
        | true =>
          go_wp2_with (first | (refine wpList_load_part rfl 25 _ rfl q 4 rfl (Lib.byteCells old.block) _ QR.out Tryd.underlying25 rfl (sizeH _ (by rw [Lib.byteCells_length, HOld.out.block])) ?_) | (refine wpList_load_part rfl 25 _ rfl b 4 rfl (Lib.byteCells v.block) _ BR.out Tryd.underlying25 rfl (sizeH _ (by rw [Lib.byteCells_length, HV.out.block])) ?_) | (refine wpList_eql_flat rfl 25 _ _ _ rfl (Lib.byteCells old.block) (Lib.byteCells v.block) _ rfl rfl hash_flat (hash_fits _ HOld.out.block) (hash_fits _ HV.out.block) rfl (by kernel_rfl) ?_))
          go_ret
          exact .had HVE.out HN0.out HSG.out rfl (by rw [VEq.bytes] at hbb; simpa using hbb) G7.out
        | false =>
          have HBB := Lib.hid (show old.block ≠ v.block by rw [VEq.bytes] at hbb; simpa using hbb)
          go_upto_region 16 with (first | (refine wpList_load_part rfl 25 _ rfl q 4 rfl (Lib.byteCells old.block) _ QR.out Tryd.underlying25 rfl (sizeH _ (by rw [Lib.byteCells_length, HOld.out.block])) ?_) | (refine wpList_load_part rfl 25 _ rfl b 4 rfl (Lib.byteCells v.block) _ BR.out Tryd.underlying25 rfl (sizeH _ (by rw [Lib.byteCells_length, HV.out.block])) ?_) | (refine wpList_eql_flat rfl 25 _ _ _ rfl (Lib.byteCells old.block) (Lib.byteCells v.block) _ rfl rfl hash_flat (hash_fits _ HOld.out.block) (hash_fits _ HV.out.block) rfl (by kernel_rfl) ?_))
          have hg5 : wc.grownBy wc.drew none := dr_grown wc 1
          obtain ⟨ta, tn, tc, rfl⟩ : ∃ a b c, tv = .slice a b c := by rcases HT.out.2 with ⟨h, _⟩ | ⟨g, cap, cur, h, _⟩ <;> exact ⟨_, _, _, h⟩
          have HL := Lib.hid (show p < w.heap.size ∧ ∀ g, (Value.slice ta tn tc).ownBlock = some g → g < w.heap.size from ⟨HP.out.lt, fun g hg => ownsRow.lt HT.out hg⟩)
          have KL := Lib.hid (show ∀ W, Kp wc W (fun i => i = p ∨ (Value.slice ta tn tc).ownBlock = some i) → RowAt W q 0 old.cells ∧ RowAt W b 0 v.cells from fun W g => by
            refine ⟨(Q7.out.kp g ?_).row, (B7.out.kp g ?_).row⟩
            · rintro (e | e)
              · have := HL.out.1; have := HB5.out; have := hbq.out; omega
              · have := HL.out.2 _ e; have := HB5.out; have := hbq.out; omega
            · rintro (e | e)
              · have := HL.out.1; have := HB5.out; omega
              · have := HL.out.2 _ e; have := HB5.out; omega)
          have T5 := Lib.hid (ownsRow.kp HT.out (S := fun _ => False) (Kp.still (Lib.grownBy_trans G7.out hg5)) (fun _ _ => id))
          have P5 := Lib.hid (HP.out.grown (Lib.grownBy_trans G7.out hg5) (by simp))
          obtain ⟨iV, hi, hz, hsz, hby⟩ := voteInfo
          have HIV := Lib.hid (And.intro hi (And.intro hz (And.intro hsz hby)))
          clear hi hz hsz hby
          have hl1 := Lib.hid (VoteD.cells_length _ HOld.out); have hl2 := Lib.hid (VoteD.cells_length _ HV.out)
          have HTp2 := Lib.hid (show some p ≠ (Value.slice ta tn tc).ownBlock from fun e => HTp.out p e.symm rfl)
          go_cut [] from 63 (fun w' => Kp w w' (fun i => i = p ∨ (Value.slice ta tn tc).ownBlock = some i) ∧ ∃ g cap, Blk w' p (tlCells (.slice sa ds.length sc) tot of bm bs all (.slice (some ⟨g, 0, none⟩) (nb + 2) cap)) 84 ∧ w'.ownsRow 0 29 39 (.slice (some ⟨g, 0, none⟩) (nb + 2) cap) (nb + 2) (both ++ (old.cells ++ v.cells)) ∧ ((Value.slice ta tn tc).ownBlock = some g ∨ w.heap.size ≤ g))
          case first =>
            obtain ⟨u0, hu0⟩ : ∃ u, wc.drewN 1 = u := ⟨_, rfl⟩
            rw [show wc.drew = u0 from hu0] at hg5 T5 P5
            have k0 := Lib.hid (Kp.still (S := fun i => i = p ∨ (Value.slice ta tn tc).ownBlock = some i) hg5)
            refine wp_region_held_drew (S := fun W => RowAt W q 0 old.cells ∧ RowAt W b 0 v.cells) (by kernel_rfl) (by rw [show wc.drew = u0 from hu0]; exact KL.out _ k0.out) (fun hH => ?_)
            rw [show wc.drew = u0 from hu0] at hH ⊢
            have c0 := P5.out.row 44 _ (tl_tail HO.out 3)
            rw [Nat.zero_add] at c0
            have C0 := Lib.hid c0
            clear c0
            refine wpAnyH_take (i := 0) (v := (.pointer (some ⟨p, 0, none⟩))) rfl (by kernel_rfl) (by kernel_rfl) (by kernel_rfl) (fun _ _ _ h => h) (Or.inl ⟨by rfl, fun W hS => by go_simp⟩) hH ?_
            simp only [Act.put, List.getElem_toArray, List.getElem_cons_succ, List.getElem_cons_zero]
            refine wpAnyH_take (i := 1) (v := (.pointer (some ⟨p, 0, none⟩))) rfl (by kernel_rfl) (by kernel_rfl) (by kernel_rfl) (fun _ _ _ h => h) (Or.inl ⟨by rfl, fun W hS => by go_simp⟩) hH ?_
            simp only [Act.put, List.getElem_toArray, List.getElem_cons_succ, List.getElem_cons_zero, List.setIfInBounds_toArray, List.set_cons_zero, List.set_cons_succ]
            refine wpAnyH_take (i := 2) (v := (.pointer (some ⟨p, 0, none⟩))) rfl (by kernel_rfl) (by kernel_rfl) (by kernel_rfl) (fun _ _ _ h => h) (Or.inl ⟨by rfl, fun W hS => by go_simp⟩) hH ?_
            simp only [Act.put, List.getElem_toArray, List.setIfInBounds_toArray]
            refine wpAnyH_take (i := 3) (v := (.pointer (some ⟨p, 44, none⟩))) rfl (by kernel_rfl) (by kernel_rfl) (by kernel_rfl) (fun _ _ _ h => h) (Or.inl ⟨by rfl, fun W hS => by go_simp⟩) hH ?_
            simp only [Act.put, List.getElem_toArray, List.getElem_cons_succ, List.getElem_cons_zero, List.setIfInBounds_toArray, List.set_cons_zero, List.set_cons_succ]
            refine wpAnyH_take (i := 5) (v := (.agg old.cells.toArray)) rfl (by kernel_rfl) (by kernel_rfl) (by kernel_rfl) (fun _ _ _ h => h) (yieldsIf_load_mid (by rfl) 29 _ rfl q 0 rfl old.cells _ (fun W h => h.1) Tryd.underlying29 rfl (old.size HOld.out)) hH ?_
            simp only [Act.put, List.getElem_toArray, List.getElem_cons_succ, List.getElem_cons_zero, List.setIfInBounds_toArray, List.set_cons_zero, List.set_cons_succ]
            refine wpAnyH_take (i := 6) (v := (.agg v.cells.toArray)) rfl (by kernel_rfl) (by kernel_rfl) (by kernel_rfl) (fun _ _ _ h => h) (yieldsIf_load_mid (by rfl) 29 _ rfl b 0 rfl v.cells _ (fun W h => h.2) Tryd.underlying29 rfl (v.size HV.out)) hH ?_
            simp only [Act.put, List.getElem_toArray, List.getElem_cons_succ, List.getElem_cons_zero, List.setIfInBounds_toArray, List.set_cons_zero, List.set_cons_succ]
            refine wpAnyH_ready (rs := [4, 7]) (by kernel_rfl) (by simp) ?_
            refine AllReadyH.cons rfl (fun K hK => ?_) (AllReadyH.cons rfl (fun K hK => ?_) AllReadyH.nil)
            · refine step_wanted (by rfl) (wp_yields (v := .slice ta tn tc) (by have c := C0.out; go_simp) ?_)
              simp only [Act.put, List.getElem_toArray, List.getElem_cons_succ, List.getElem_cons_zero, List.setIfInBounds_toArray, List.set_cons_zero, List.set_cons_succ]
              refine hK.out _ _ (KL.out _ k0.out) (fun hH => ?_)
              clear hK K
              refine wpAnyH_ready (rs := [7]) (by kernel_rfl) (by simp) ?_
              refine AllReadyH.cons rfl (fun K hK => ?_) AllReadyH.nil
              refine step_wanted (by rfl) (wp_two 41 29 _ _ (by rfl) Tryd.underlying41 ZVote old.cells v.cells 39 (by decide) (by decide) (by kernel_rfl) ZVote_length hl1.out hl2.out (by rfl) (by rfl) ?_)
              intro v1 b1 g1 s1
              obtain ⟨r, hr⟩ : ∃ r, u0.heap.size = r := ⟨_, rfl⟩
              rw [hr] at b1 ⊢
              have k1 := Lib.hid (k0.out.add g1 (by simp))
              have B1 := Lib.hid b1; have P1 := Lib.hid (P5.out.grown g1 (by simp)); have T1 := Lib.hid (ownsRow.kp T5.out (S := fun _ => False) (Kp.still g1) (fun _ _ => id)); have C1 := Lib.hid (g1.cell C0.out (by simp))
              clear b1 g1 s1
              simp only [Act.put, List.getElem_toArray, List.getElem_cons_succ, List.getElem_cons_zero, List.setIfInBounds_toArray, List.set_cons_zero, List.set_cons_succ]
              refine hK.out _ _ (KL.out _ k1.out) (fun hH => ?_)
              clear hK K
              refine wpAnyH_ready (rs := [8]) (by kernel_rfl) (by simp) ?_
              refine AllReadyH.cons rfl (fun K hK => ?_) AllReadyH.nil
              refine step_wanted (by rfl) (wp_append_lies _ _ _ 41 (by rfl) 0 29 iV (.agg ZVote.toArray) 39 96 Tryd.underlying41 HIV.out.1 HIV.out.2.1 HIV.out.2.2.1 HIV.out.2.2.2 (by rfl) (by decide) (.slice ta tn tc) nb both (by rfl) T1.out ⟨r, 0, none⟩ 2 2 (old.cells ++ v.cells) (by rfl) (by rw [List.length_append, hl1.out, hl2.out]) (fun j u hj => by rw [Addr.add_mid]; exact B1.out.row j u hj) (fun u hu => by rcases List.mem_append.1 hu with h | h <;> exact VoteD_one _ u h) (by decide) (Nat.le_trans (show nb + 2 ≤ 2002 by have := HSm.out.2.2; omega) (by decide)) (Nat.le_trans (show (nb + 2) * 96 ≤ 192192 by have := HSm.out.2.2; omega) (by decide)) (Nat.zero_le _) _ rfl ?_)
              intro g cap v2 r2 g2 hat hlt
              have k2 := Lib.hid (k1.out.add g2 (fun i e _ => Or.inr e))
              have P2 := Lib.hid (P1.out.grown g2 HTp2.out)
              have R2 := Lib.hid r2
              have HAT := Lib.hid (show (Value.slice ta tn tc).ownBlock = some g ∨ w.heap.size ≤ g from hat.imp id (fun e => by have := k1.out.size; have := G7.out.size; omega))
              have HGP := Lib.hid (show g ≠ p from by rcases hat with e | e; exact HTp.out g e; have := k1.out.size; have := G7.out.size; have := HL.out.1; omega)
              clear r2 g2 hat hlt
              simp only [Act.put, List.getElem_toArray, List.getElem_cons_succ, List.getElem_cons_zero, List.setIfInBounds_toArray, List.set_cons_zero, List.set_cons_succ]
              refine hK.out _ _ (KL.out _ k2.out) (fun hH => ?_)
              clear hK K
              refine wpAnyH_take (i := 9) (v := (.pointer (some ⟨p, 0, none⟩))) rfl (by kernel_rfl) (by kernel_rfl) (by kernel_rfl) (fun _ _ _ h => h) (Or.inl ⟨by rfl, fun W hS => by go_simp⟩) hH ?_
              simp only [Act.put, List.getElem_toArray, List.getElem_cons_succ, List.getElem_cons_zero, List.setIfInBounds_toArray, List.set_cons_zero, List.set_cons_succ]
              refine wpAnyH_take (i := 10) (v := (.pointer (some ⟨p, 44, none⟩))) rfl (by kernel_rfl) (by kernel_rfl) (by kernel_rfl) (fun _ _ _ h => h) (Or.inl ⟨by rfl, fun W hS => by go_simp⟩) hH ?_
              simp only [Act.put, List.getElem_toArray, List.getElem_cons_succ, List.getElem_cons_zero, List.setIfInBounds_toArray, List.set_cons_zero, List.set_cons_succ]
              refine wpAnyH_ready (rs := [11]) (by kernel_rfl) (by simp) ?_
              refine AllReadyH.cons rfl (fun K hK => ?_) AllReadyH.nil
              refine step_wanted (by rfl) (wp_store_cell 41 _ _ (by rfl) p 44 (by rfl) (.slice (some ⟨g, 0, none⟩) (nb + 2) cap) (by rfl) rfl _ 84 P2.out (by rw [tl_len HO.out]; decide) (by kernel_rfl) ?_)
              intro v3 g3 s3 b3
              rw [tl_set HO.out 3] at b3
              have k3 := Lib.hid (k2.out.add g3 (fun i e _ => by cases e; exact Or.inl rfl))
              have R3 := Lib.hid (ownsRow.kp R2.out (Kp.of (S := fun i => i = p) g3 (fun i e _ => by cases e; rfl)) (fun i e => by simp [Value.ownBlock] at e; subst e; exact HGP.out))
              have B3 := Lib.hid b3
              clear b3 g3 s3
              simp only [Act.put, List.getElem_toArray, List.getElem_cons_succ, List.getElem_cons_zero]
              refine hK.out _ _ (KL.out _ k3.out) (fun hH => ?_)
              clear hK K
              refine wpAnyH_done (by kernel_rfl) ?_ _
              go_wp2
              go_meet
              case rel => exact ⟨(Kp.still G7.out).trans k3.out (fun i _ h => h), g, cap, B3.out, R3.out, HAT.out⟩
            · refine step_wanted (by rfl) (wp_two 41 29 _ _ (by rfl) Tryd.underlying41 ZVote old.cells v.cells 39 (by decide) (by decide) (by kernel_rfl) ZVote_length hl1.out hl2.out (by rfl) (by rfl) ?_)
              intro v1 b1 g1 s1
              obtain ⟨r, hr⟩ : ∃ r, u0.heap.size = r := ⟨_, rfl⟩
              rw [hr] at b1 ⊢
              have k1 := Lib.hid (k0.out.add g1 (by simp))
              have B1 := Lib.hid b1; have P1 := Lib.hid (P5.out.grown g1 (by simp)); have T1 := Lib.hid (ownsRow.kp T5.out (S := fun _ => False) (Kp.still g1) (fun _ _ => id)); have C1 := Lib.hid (g1.cell C0.out (by simp))
              clear b1 g1 s1
              simp only [Act.put, List.getElem_toArray, List.getElem_cons_succ, List.getElem_cons_zero, List.setIfInBounds_toArray, List.set_cons_zero, List.set_cons_succ]
              refine hK.out _ _ (KL.out _ k1.out) (fun hH => ?_)
              clear hK K
              refine wpAnyH_ready (rs := [4]) (by kernel_rfl) (by simp) ?_
              refine AllReadyH.cons rfl (fun K hK => ?_) AllReadyH.nil
              refine step_wanted (by rfl) (wp_yields (v := .slice ta tn tc) (by have c := C1.out; go_simp) ?_)
              simp only [Act.put, List.getElem_toArray, List.getElem_cons_succ, List.getElem_cons_zero, List.setIfInBounds_toArray, List.set_cons_zero, List.set_cons_succ]
              refine hK.out _ _ (KL.out _ k1.out) (fun hH => ?_)
              clear hK K
              refine wpAnyH_ready (rs := [8]) (by kernel_rfl) (by simp) ?_
              refine AllReadyH.cons rfl (fun K hK => ?_) AllReadyH.nil
              refine step_wanted (by rfl) (wp_append_lies _ _ _ 41 (by rfl) 0 29 iV (.agg ZVote.toArray) 39 96 Tryd.underlying41 HIV.out.1 HIV.out.2.1 HIV.out.2.2.1 HIV.out.2.2.2 (by rfl) (by decide) (.slice ta tn tc) nb both (by rfl) T1.out ⟨r, 0, none⟩ 2 2 (old.cells ++ v.cells) (by rfl) (by rw [List.length_append, hl1.out, hl2.out]) (fun j u hj => by rw [Addr.add_mid]; exact B1.out.row j u hj) (fun u hu => by rcases List.mem_append.1 hu with h | h <;> exact VoteD_one _ u h) (by decide) (Nat.le_trans (show nb + 2 ≤ 2002 by have := HSm.out.2.2; omega) (by decide)) (Nat.le_trans (show (nb + 2) * 96 ≤ 192192 by have := HSm.out.2.2; omega) (by decide)) (Nat.zero_le _) _ rfl ?_)
              intro g cap v2 r2 g2 hat hlt
              have k2 := Lib.hid (k1.out.add g2 (fun i e _ => Or.inr e))
              have P2 := Lib.hid (P1.out.grown g2 HTp2.out)
              have R2 := Lib.hid r2
              have HAT := Lib.hid (show (Value.slice ta tn tc).ownBlock = some g ∨ w.heap.size ≤ g from hat.imp id (fun e => by have := k1.out.size; have := G7.out.size; omega))
              have HGP := Lib.hid (show g ≠ p from by rcases hat with e | e; exact HTp.out g e; have := k1.out.size; have := G7.out.size; have := HL.out.1; omega)
              clear r2 g2 hat hlt
              simp only [Act.put, List.getElem_toArray, List.getElem_cons_succ, List.getElem_cons_zero, List.setIfInBounds_toArray, List.set_cons_zero, List.set_cons_succ]
              refine hK.out _ _ (KL.out _ k2.out) (fun hH => ?_)
              clear hK K
              refine wpAnyH_take (i := 9) (v := (.pointer (some ⟨p, 0, none⟩))) rfl (by kernel_rfl) (by kernel_rfl) (by kernel_rfl) (fun _ _ _ h => h) (Or.inl ⟨by rfl, fun W hS => by go_simp⟩) hH ?_
              simp only [Act.put, List.getElem_toArray, List.getElem_cons_succ, List.getElem_cons_zero, List.setIfInBounds_toArray, List.set_cons_zero, List.set_cons_succ]
              refine wpAnyH_take (i := 10) (v := (.pointer (some ⟨p, 44, none⟩))) rfl (by kernel_rfl) (by kernel_rfl) (by kernel_rfl) (fun _ _ _ h => h) (Or.inl ⟨by rfl, fun W hS => by go_simp⟩) hH ?_
              simp only [Act.put, List.getElem_toArray, List.getElem_cons_succ, List.getElem_cons_zero, List.setIfInBounds_toArray, List.set_cons_zero, List.set_cons_succ]
              refine wpAnyH_ready (rs := [11]) (by kernel_rfl) (by simp) ?_
              refine AllReadyH.cons rfl (fun K hK => ?_) AllReadyH.nil
              refine step_wanted (by rfl) (wp_store_cell 41 _ _ (by rfl) p 44 (by rfl) (.slice (some ⟨g, 0, none⟩) (nb + 2) cap) (by rfl) rfl _ 84 P2.out (by rw [tl_len HO.out]; decide) (by kernel_rfl) ?_)
              intro v3 g3 s3 b3
              rw [tl_set HO.out 3] at b3
              have k3 := Lib.hid (k2.out.add g3 (fun i e _ => by cases e; exact Or.inl rfl))
              have R3 := Lib.hid (ownsRow.kp R2.out (Kp.of (S := fun i => i = p) g3 (fun i e _ => by cases e; rfl)) (fun i e => by simp [Value.ownBlock] at e; subst e; exact HGP.out))
              have B3 := Lib.hid b3
              clear b3 g3 s3
              simp only [Act.put, List.getElem_toArray, List.getElem_cons_succ, List.getElem_cons_zero]
              refine hK.out _ _ (KL.out _ k3.out) (fun hH => ?_)
              clear hK K
              refine wpAnyH_done (by kernel_rfl) ?_ _
              go_wp2
              go_meet
              case rel => exact ⟨(Kp.still G7.out).trans k3.out (fun i _ h => h), g, cap, B3.out, R3.out, HAT.out⟩
          obtain ⟨k9, g, cap, b9, r9, h9⟩ := hcut
          have K9 := Lib.hid k9; have B9 := Lib.hid b9; have R9 := Lib.hid r9; have H9 := Lib.hid h9
          clear k9 b9 r9 h9 hbb hg5
          go_wp2_with fail
          go_ret
          exact .twice HVE.out HN0.out HSG.out rfl HBB.out K9.out g cap B9.out R9.out H9.out
end

end Go.Proofs.YtfnginmoiecgnaaDoor
