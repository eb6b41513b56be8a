/- Walks: a log's calls. -/
import Derived.Test.YtcbkehnlgpcelaaGreatDoorSg2
namespace Go.Proofs.YtcbkehnlgpcelaaGreatDoor
open Go.RowKit
set_option maxRecDepth 100000

def LgPost (w : World) (y z : LgP) (w' : World) : Prop := LgRep w' z ∧ Tch y.foot w w' ∧ ∀ b, z.foot b → y.foot b ∨ w.heap.size ≤ b
theorem LgPost.back {w0 w w' : World} {x y : LgP} (g : w0.grownBy w none) (h : LgPost w x y w') : LgPost w0 x y w' :=
  ⟨h.1, (Tch.of_grown g).trans h.2.1 (fun _ hb _ => hb), fun b hb => (h.2.2 b hb).elim .inl (fun hl => .inr (Nat.le_trans g.size hl))⟩
/-- behind a record more -/
def LgP.next (y : LgP) (bv : Value) (R : List UInt8) (sv rv rw : Value) : LgP := { y with x := y.x.next bv (y.x.B ++ frameL R) y.x.safe sv, rv := rv, nr := y.nr + 1, rx := y.rx ++ [rw], rc := y.rc ++ [(rw, R)] }
/-- behind all being made safe -/
def LgP.synced (y : LgP) (sv : Value) : LgP := { y with x := y.x.next y.x.bv y.x.B (y.x.B.length : Int) sv, syn := (y.nr : Int) }
set_option maxHeartbeats 4000000 in
theorem lgAppend_ok {w0 : World} {y : LgP} (h : LgRep w0 y) (v : Value) (R : List UInt8) (hv : SRow w0 5 1 v R.length (Lib.byteCells R)) (hR0 : 0 < R.length) (hR1 : R.length ≤ 4096) (hfit : y.x.B.length + R.length + 6 ≤ 1048576)
    (hns : y.x.ns ≤ 100000) (hnr : y.nr ≤ 100000) (hR : RowAt w0 3 0 (wCells rootsL)) :
    Calls Tryz.prog 69 #[.pointer (some ⟨y.l, 0, none⟩), v] w0 fun e w' => e = .returned (.int .i64 0) ∧ ∃ bv sv rv rw, LgPost w0 y (y.next bv R sv rv rw) w' := by
  have CF := Lib.hid (fun w (gg : w0.grownBy w none) => frame_ok (hv.grown gg) hR1 (hR.grown gg (by simp)))
  have CA := Lib.hid (fun w (gg : w0.grownBy w none) (v9 : Value) (hv9 : SRow w 5 1 v9 (frameL R).length (Lib.byteCells (frameL R))) => (tpAppend_ok (h.tape.grown gg) hns v9 (frameL R) hv9 (by rw [frameL_len]; omega) (by rw [frameL_len]; omega)).mono (fun e w' hh => (⟨hh.1, hh.2.imp fun bv k => k.imp fun sv k => k.back gg⟩ : e = .returned (.int .i64 0) ∧ ∃ bv sv, TpPost w0 y.x (y.x.next bv (y.x.B ++ frameL R) y.x.safe sv) w')))
  obtain ⟨av, cv, rfl, _⟩ := hv.shape
  obtain ⟨a9, c9, hrv, _⟩ := h.recs.shape
  have hb0 := h.blk
  unfold LgP.cells at hb0
  rw [hrv] at hb0
  have H := Lib.hid h; have HV := Lib.hid hv; have HB := Lib.hid hb0; have HRV := Lib.hid hrv
  have HN := Lib.hid (show 0 < R.length ∧ R.length ≤ 4096 ∧ y.nr ≤ 100000 from ⟨hR0, hR1, hnr⟩)
  have F0 := Lib.hid (show RowAt w0 y.l 0 [.pointer (some ⟨y.x.t, 0, none⟩)] from RowAt.one (hb0.row 0 _ rfl))
  have d1 : ((R.length : Int) == 0) = false := by simp; intro e; rw [e] at hR0; simp at hR0
  have d2 : decide ((4096 : Int) < (R.length : Int)) = false := by simp; omega
  clear h hv hR hb0 hfit hns hrv hR0 hR1 hnr
  go_enter Tryz.func69, Tryz.ntmps69
  go_upto_region 3 with fail
  have O := OwF.start (fun _ => False) w0.drew
  have gd := dr1s w0
  have GD := Lib.hid gd
  clear gd
  refine wp_region_J (rdf [(3, y.l, 0, [(.pointer (some ⟨y.x.t, 0, none⟩))])]) [5, 6] (by kernel_rfl) (RdA.cons (F0.out.grown GD.out (by simp)) RdA.nil) (fun hH => ?_)
  refine jp 0 ((.pointer (some ⟨y.l, 0, none⟩))) (Still.all hH) ?_
  simp only [Act.put, jq1, jq3, jq4, jq5, jq6]
  refine jp 1 ((.pointer (some ⟨y.l, 0, none⟩))) (Still.all hH) ?_
  simp only [Act.put, jq1, jq2, jq3, jq4, jq5, jq6]
  refine jp 2 ((.pointer (some ⟨y.l, 0, none⟩))) (Still.all hH) ?_
  simp only [Act.put, jq1, jq2, jq3, jq4, jq5, jq6]
  refine jr 0 3 ((.pointer (some ⟨y.x.t, 0, none⟩))) rfl rfl (yields_cell (by rfl) 30 _ rfl y.l 0 rfl (.pointer (some ⟨y.x.t, 0, none⟩)) _ (fun W h => h) Tryz.underlying30 rfl) (Still.all hH) ?_
  simp only [Act.put, jq1, jq2, jq3, jq4, jq5, jq6]
  refine jp 4 ((.slice av R.length cv)) (Still.all hH) ?_
  simp only [Act.put, jq1, jq2, jq3, jq4, jq5, jq6]
  refine wpAnyJ_ready (rs := [5]) (by kernel_rfl) (by simp) ?_
  refine AllJ.keep rfl (by rfl) (by rfl) (fun K hK => ?_) (AllJ.nil)
  refine wp_call 107 _ _ (by rfl) (enters Tryz.func107 (by kernel_rfl) rfl) (by rfl) (CF.out _ (GD.out.trans (O.tch.grown (fun _ h => h.elim)))) ?_
  rintro e u ⟨v9, rfl, hv9, g9⟩
  refine ⟨_, rfl, ?_⟩
  replace O := O.call g9
  have HV9 := Lib.hid hv9
  clear hv9
  simp only [Act.put, jq1, jq2, jq3, jq4, jq5, jq6]
  refine hK.out _ _ (RdA.grown hH g9) ?_
  replace hH := RdA.grown hH g9
  clear hK K
  clear g9
  refine wpAnyJ_ready (rs := [6]) (by kernel_rfl) (by simp) ?_
  refine AllJ.keep rfl (by rfl) (by rfl) (fun K hK => ?_) (AllJ.nil)
  refine wp_call 20 _ _ (by rfl) (enters Tryz.func20 (by kernel_rfl) rfl) (by rfl) (CA.out _ (GD.out.trans (O.tch.grown (fun _ h => h.elim))) _ HV9.out) ?_
  rintro e u ⟨rfl, hp⟩
  refine ⟨_, rfl, ?_⟩
  have HP := Lib.hid hp
  simp only [Act.put, jq1, jq2, jq3, jq4, jq5, jq6]
  have hr1 := hp.elim fun _ k => k.elim fun _ k => RowAt.one ((HB.out.ty_keep k.2.1 H.out.tape.tys (by decide)).row 0 _ rfl)
  refine hK.out _ _ (RdA.cons (i := 3) hr1 RdA.nil) ?_
  replace hH := RdA.cons (i := 3) hr1 RdA.nil
  clear hK K hr1 hp
  refine jp 7 ((.int .i64 0)) (Still.all hH) ?_
  simp only [Act.put, jq1, jq2, jq3, jq4, jq5, jq6]
  refine wpAnyJ_done (by kernel_rfl) ?_ _
  clear hH
  obtain ⟨bv, sv, hp⟩ := HP.out
  have HQ := Lib.hid hp
  clear hp HP
  obtain ⟨u1, hu1⟩ : ∃ q, u = q := ⟨_, rfl⟩
  rw [hu1] at HQ ⊢
  have T1 := HQ.out.2.1
  have b1 := HB.out.ty_keep T1 H.out.tape.tys (by decide)
  have s1 := H.out.recs.ty_keep T1 H.out.tape.tys (by decide)
  rw [HRV.out] at s1
  have v1 := HV.out.ty_keep T1 H.out.tape.tys (by decide)
  have HS1 := Lib.hid s1; have HV1 := Lib.hid v1; have HB1 := Lib.hid b1
  clear T1 s1 v1 O
  go_upto_region 5 with fail
  have gd := dr1s u1
  have GD1 := Lib.hid gd
  have O := (OwF.start (fun b => b = y.l) u1.drew).add (b1.grown gd (by simp)) rfl (by simp)
  clear gd b1
  refine wp_region_J (rdf [(4, y.l, 1, [(.slice a9 y.nr c9)])]) [6, 7, 8, 11] (by kernel_rfl) (RdA.cons (O.cellr (n := 0) rfl rfl) RdA.nil) (fun hH => ?_)
  refine jp 0 ((.pointer (some ⟨y.l, 0, none⟩))) (Still.all hH) ?_
  simp only [Act.put, jq1, jq4]
  refine jp 1 ((.pointer (some ⟨y.l, 0, none⟩))) (Still.all hH) ?_
  simp only [Act.put, jq1, jq3, jq4, jq5, jq6]
  refine jp 2 ((.pointer (some ⟨y.l, 0, none⟩))) (Still.all hH) ?_
  simp only [Act.put, jq1, jq2, jq3, jq4, jq5, jq6]
  refine jp 3 ((.pointer (some ⟨y.l, 1, none⟩))) (Still.all hH) ?_
  simp only [Act.put, jq1, jq2, jq3, jq4, jq5, jq6]
  refine jr 0 4 ((.slice a9 y.nr c9)) rfl rfl (yields_cell (by rfl) 61 _ rfl y.l 1 rfl (.slice a9 y.nr c9) _ (fun W h => h) Tryz.underlying61 rfl) (Still.all hH) ?_
  simp only [Act.put, jq1, jq2, jq3, jq4, jq5, jq6]
  refine jp 5 ((.slice av R.length cv)) (Still.all hH) ?_
  simp only [Act.put, jq1, jq2, jq3, jq4, jq5, jq6]
  refine wpAnyJ_ready (rs := [6]) (by kernel_rfl) (by simp) ?_
  refine AllJ.keep rfl (by rfl) (by rfl) (fun K hK => ?_) (AllJ.nil)
  refine wp_call 55 _ _ (by rfl) (enters Tryz.func55 (by kernel_rfl) rfl) (by rfl) (bClone_ok (HV1.out.grown GD1.out) (by have := HN.out; omega)) ?_
  rintro e u ⟨v7, rfl, hv7, g7⟩
  refine ⟨_, rfl, ?_⟩
  obtain ⟨a7, c7, hv7s, _⟩ := hv7.shape
  subst hv7s
  replace O := O.call g7
  have HV7 := Lib.hid hv7
  clear hv7
  simp only [Act.put, jq1, jq2, jq3, jq4, jq5, jq6]
  refine hK.out _ _ (RdA.grown hH g7) ?_
  replace hH := RdA.grown hH g7
  clear hK K
  clear g7
  refine wpAnyJ_ready (rs := [7]) (by kernel_rfl) (by simp) ?_
  refine AllJ.keep rfl (by rfl) (by rfl) (fun K hK => ?_) (AllJ.nil)
  refine wp_of_slice1v 61 _ rfl (.slice a7 R.length c7) [.slice a7 R.length c7] rfl rfl 27 _ 1 Tryz.underlying61 bs_inf2 rfl (by decide) O ?_
  clear O
  intro b8 u g2 O
  replace HV7 := Lib.hid (HV7.out.grown g2)
  simp only [Act.put, jq1, jq2, jq3, jq4, jq5, jq6]
  refine hK.out _ _ (RdA.grown hH g2) ?_
  replace hH := RdA.grown hH g2
  clear hK K
  clear g2
  refine wpAnyJ_ready (rs := [8]) (by kernel_rfl) (by simp) ?_
  refine AllJ.keep rfl (by rfl) (by rfl) (fun K hK => ?_) (AllJ.nil)
  have hne : (Value.slice a9 y.nr c9).ownBlock ≠ some y.l := HS1.out.ne HB1.out (by decide)
  have hH9 : ∀ e ∈ ([(4, y.l, 1, [.slice a9 y.nr c9])] : RdR), (Value.slice a9 y.nr c9).ownBlock ≠ some e.2.1 := by intro e he; simp only [List.mem_cons, List.not_mem_nil, or_false] at he; subst he; exact hne
  have hs9 := (HS1.out.grown GD1.out).tch O.tch (fun b hb e => hne (e ▸ hb))
  refine wp_of_app _ _ 61 rfl 27 (.slice none 0 0) 1 24 Tryz.underlying61 bs_inf rfl (.slice a9 y.nr c9) y.nr y.rx rfl hs9 b8 rfl [.slice a7 R.length c7] (O.at_ 0 rfl).row rfl (by simp [Value.oneCell']) (by have := HN.out; omega) (by decide) ?_
  intro v6 u6 hS t6 o6
  obtain ⟨a6, c6, hv6, _⟩ := hS.shape
  subst hv6
  have HS6 := Lib.hid hS; have HO6 := Lib.hid o6; have HT6 := Lib.hid t6; have HTO := Lib.hid O.tch
  replace HV7 := Lib.hid (HV7.out.ty_keep t6 hs9.tys (by decide))
  have HBL := Lib.hid (t6.blk (O.at_ 1 rfl) hne)
  have OQ := (OwF.start (fun b => b = y.l) u6).add HBL.out rfl (by simp)
  clear O hS t6 o6 hs9
  simp only [Act.put, jq1, jq2, jq3, jq4, jq5, jq6]
  refine hK.out _ _ (RdA.tch hH HT6.out hH9) ?_
  replace hH := RdA.tch hH HT6.out hH9
  clear hK K hH9
  refine jp 9 ((.pointer (some ⟨y.l, 0, none⟩))) (Still.all hH) ?_
  simp only [Act.put, jq1, jq2, jq3, jq4, jq5, jq6]
  refine jp 10 ((.pointer (some ⟨y.l, 1, none⟩))) (Still.all hH) ?_
  simp only [Act.put, jq1, jq2, jq3, jq4, jq5, jq6]
  refine wpAnyJ_ready (rs := [11]) (by kernel_rfl) (by simp) ?_
  refine AllJ.turn rfl (by rfl) (by rfl) (fun K hK => ?_) (AllJ.nil)
  refine wp_of_store_cell 61 _ _ rfl OQ 0 y.l 1 rfl (.slice a6 (y.nr + 1) c6) rfl rfl _ _ rfl (by show (1 : Nat) < 3; decide) rfl ?_
  clear OQ
  intro w OQ
  simp only [List.set_cons_zero, List.set_cons_succ] at OQ
  simp only [Act.put, jq1, jq2, jq3]
  refine hK.out _ _ (waits_all (by kernel_rfl)) ?_
  clear hK K hH
  refine wpAnyJ_done (by kernel_rfl) ?_ _
  go_wp2_with fail
  go_ret
  have T2 := (((Tch.of_grown (F := fun b => b = y.l ∨ (Value.slice a9 y.nr c9).ownBlock = some b) GD1.out).trans HTO.out (fun b hb _ => .inl hb)).trans HT6.out (fun b hb _ => .inr hb)).trans OQ.tch (fun b hb _ => .inl hb)
  have ty2 := (Ty.one HB1.out).or HS1.out.tys
  have hz := HTO.out.size
  have e7 := HV7.out.ty_keep OQ.tch (Ty.one HBL.out) (by decide)
  have TU := HQ.out.2.1
  have eo : ∀ r ∈ y.rc, SRow w 5 1 r.1 r.2.length (Lib.byteCells r.2) := fun r hr => ((H.out.each r hr).ty_keep TU H.out.tape.tys (by decide)).ty_keep T2 ty2 (by decide)
  refine ⟨rfl, bv, sv, .slice a6 (y.nr + 1) c6, .slice a7 R.length c7, ⟨OQ.at_ 0 rfl, HQ.out.1.ty_keep T2 ty2 (by decide) (by decide) (by decide), HS6.out.ty_keep OQ.tch (Ty.one HBL.out) (by decide), ?_, ?_, fun r hr => ?_⟩, (HQ.out.2.1.mono (fun b hb _ => .inr (.inl hb))).trans T2 (fun b hb _ => ?_), fun b hb => ?_⟩
  · show y.nr + 1 = (y.rc ++ [_]).length
    rw [H.out.nrc, List.length_append]; rfl
  · show y.rx ++ [Value.slice a7 R.length c7] = (y.rc ++ [((Value.slice a7 R.length c7), R)]).map (·.1)
    rw [H.out.src, List.map_append]; rfl
  · rcases List.mem_append.1 hr with hr | hr
    · exact eo r hr
    · obtain rfl := List.mem_singleton.1 hr
      exact e7
  · rcases hb with hb | hb
    · exact .inl hb
    · exact .inr (.inr (by rw [HRV.out]; exact hb))
  · have hs0 : w0.heap.size ≤ u1.heap.size := HQ.out.2.1.size
    rcases hb with hb | hb | hb
    · exact .inl (.inl hb)
    · exact (HQ.out.2.2.2 b hb).imp (fun h => .inr (.inl h)) id
    · rcases HO6.out with h6 | ⟨b9, h6, h8⟩
      · exact .inl (.inr (.inr (by rw [HRV.out, ← h6]; exact hb)))
      · have e := Option.some.inj (h6.symm.trans hb)
        subst e
        exact .inr (Nat.le_trans hs0 (Nat.le_trans GD1.out.size (Nat.le_trans hz h8)))

end Go.Proofs.YtcbkehnlgpcelaaGreatDoor
