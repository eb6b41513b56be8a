/- Walks: nunciolaw16.one, options. Walk: bisect.New. Walk: nunciolaw16.alive. -/
import Derived.Test.YtdhchehagfmjcaaGreatDoorAl
import Derived.Test.YtdhchehagfmjcaaGreatDoorBc
import Derived.Test.YtdhchehagfmjcaaGreatDoorDrw
import Derived.Test.YtdhchehagfmjcaaGreatDoorBs
namespace Go.Proofs.YtdhchehagfmjcaaGreatDoor
open Go.RowKit
set_option maxRecDepth 100000

def One16 (h t : Int) (last : List UInt8) (w : World) (e : Ending) (w' : World) : Prop := ∃ x : LtR, e = .returned (.agg x.cells.toArray) ∧ x.of w'.heap.size w' (oneL h t last) ∧ x.inn (fun b => w.heap.size ≤ b) ∧ w.grownBy w' none
set_option maxHeartbeats 8000000 in
theorem one16_ok (h : Int) (last : List UInt8) (w0 : World) (hh : 1 ≤ h ∧ h ≤ 1099511627776) (hl : last.length = 32) :
    Calls Tryz.prog 72 #[.int .i64 h, .agg (Lib.byteCells last).toArray] w0 (One16 h (10 * h) last w0) := by
  have ew := IntWalk.i64_in (10 * h) (by omega)
  obtain ⟨t, ht10⟩ : ∃ t, 10 * h = t := ⟨_, rfl⟩
  have ht : i64R t := by unfold i64R; omega
  rw [ht10]
  conv at ew => rhs; rw [ht10]
  clear ht10
  have O := Own.start w0
  have hhr : i64R h := ⟨by omega, by omega⟩
  have CK := fun w => RKey_ok 5 w (by decide)
  rw [if_pos key5_ok, if_pos key5_ok] at CK
  have CS : ∀ (w : World) (g : Nat) (T : TypeId), Blk w g (setCells set5) T → Calls Tryz.prog 29 #[.slice (some ⟨g, 0, none⟩) 1 1] w fun e w' => e = .returned (.tuple #[.agg (Lib.byteCells (setHash set5)).toArray, .int .i64 0]) ∧ w.grownBy w' none := fun w g T hb => by
    have := RHashV_ok (.slice (some ⟨g, 0, none⟩) 1 1) set5 w set5_wf (rds_blk hb rfl 1 (Nat.le_refl _) (by unfold maxLen; omega)) (Nat.le_refl _)
    rw [set5_hash, set5_err] at this
    exact this
  have hdw := hdr5_wf hhr ht hl
  have CH := fun w => RHeaderHash (hdr5 h t last) w hdw (by show ([97] : List UInt8).length ≤ _; decide)
  unfold RHashes at CH
  have hv := vote5_wf (h := h) (b := hdrHash (hdr5 h t last)) hhr (hdrHash_len _)
  have CV := fun w => RTSign_ok 5 (vote5 h (hdrHash (hdr5 h t last))) w (by decide) hv (by show ([97] : List UInt8).length ≤ _; decide)
  rw [sign5 hh] at CV
  have EX1 : blake (2 :: encHeader (hdr5 h t last)) = hdrHash (hdr5 h t last) := rfl
  rw [EX1] at CH
  have vsz : ((vote5 h (hdrHash (hdr5 h t last))).by (pw 37 5) (sgR 5 (encVote (vote5 h (hdrHash (hdr5 h t last))).bare)) (sgS 5 (encVote (vote5 h (hdrHash (hdr5 h t last))).bare))).cells.length = 39 := by_length _ hv _ _ _
  have vone := VoteD_one ((vote5 h (hdrHash (hdr5 h t last))).by (pw 37 5) (sgR 5 (encVote (vote5 h (hdrHash (hdr5 h t last))).bare)) (sgS 5 (encVote (vote5 h (hdrHash (hdr5 h t last))).bare)))
  have vsig : ∀ (w : World) (g : Nat), RowAt w g 0 ((vote5 h (hdrHash (hdr5 h t last))).by (pw 37 5) (sgR 5 (encVote (vote5 h (hdrHash (hdr5 h t last))).bare)) (sgS 5 (encVote (vote5 h (hdrHash (hdr5 h t last))).bare))).cells → RowAt w g 37 [.int .u64 ((sgR 5 (encVote (vote5 h (hdrHash (hdr5 h t last))).bare) : Nat) : Int), .int .u64 ((sgS 5 (encVote (vote5 h (hdrHash (hdr5 h t last))).bare) : Nat) : Int)] := fun w g hr => by
    refine part_of (k := 37) (n := 2) hr ?_
    unfold VoteD.by VoteD.cells vote5
    dsimp only
    have hb : (Lib.byteCells (hdrHash (hdr5 h t last))).length = 32 := by rw [Lib.byteCells_length, hdrHash_len]
    generalize Lib.byteCells (hdrHash (hdr5 h t last)) = B at *
    rw [List.drop_append, List.drop_eq_nil_of_le (by simp; omega)]
    simp [hb]
  have bH := bHdrG ⟨#[97]⟩ h t last (setHash set5) (setHash set5) hl (setHash_len _) (setHash_len _)
  have bV := bVoteG ⟨#[97]⟩ h 2 (hdrHash (hdr5 h t last)) (hdrHash_len _)
  have E1 : oneL h t last = ⟨hdr5 h t last, ⟨h, 0, hdrHash (hdr5 h t last), [⟨((pw 37 5 : Nat) : Int), ((sgR 5 (encVote (vote5 h (hdrHash (hdr5 h t last))).bare) : Nat) : Int), ((sgS 5 (encVote (vote5 h (hdrHash (hdr5 h t last))).bare) : Nat) : Int)⟩]⟩, [⟨((pw 37 5 : Nat) : Int), 2⟩], [⟨((pw 37 5 : Nat) : Int), 2⟩]⟩ := rfl
  have E2 : setCells set5 = (⟨((pw 37 5 : Nat) : Int), 2⟩ : ValD).cells := rfl
  rw [E2] at CS
  have E3 : (⟨⟨#[97]⟩, h, t, last, setHash set5, setHash set5, z32, z32⟩ : HeaderD) = hdr5 h t last := rfl
  rw [E3] at bH
  have E4 : (⟨⟨#[97]⟩, h, 0, 2, hdrHash (hdr5 h t last), 0, 0, 0⟩ : VoteD) = vote5 h (hdrHash (hdr5 h t last)) := rfl
  rw [E4] at bV
  unfold One16
  rw [E1]
  obtain ⟨r, hr⟩ : ∃ r, sgR 5 (encVote (vote5 h (hdrHash (hdr5 h t last))).bare) = r := ⟨_, rfl⟩
  obtain ⟨s, hs⟩ : ∃ r, sgS 5 (encVote (vote5 h (hdrHash (hdr5 h t last))).bare) = r := ⟨_, rfl⟩
  rw [hr, hs] at CV vsz vone vsig ⊢
  obtain ⟨VB, hVB⟩ : ∃ v, (vote5 h (hdrHash (hdr5 h t last))).by (pw 37 5) r s = v := ⟨_, rfl⟩
  rw [hVB] at CV vsz vone vsig
  have hvl := (vote5 h (hdrHash (hdr5 h t last))).cells_length hv
  obtain ⟨VV, hVV⟩ : ∃ v, vote5 h (hdrHash (hdr5 h t last)) = v := ⟨_, rfl⟩
  rw [hVV] at CV bV hvl
  obtain ⟨K, hK⟩ : ∃ k : Int, ((pw 37 5 : Nat) : Int) = k := ⟨_, rfl⟩
  rw [hK] at CK CS ⊢
  have LB := hdrHash_len (hdr5 h t last)
  obtain ⟨BB, hBB⟩ : ∃ b, hdrHash (hdr5 h t last) = b := ⟨_, rfl⟩
  rw [hBB] at CH bV LB ⊢
  have LS := setHash_len set5
  obtain ⟨SS, hSS⟩ : ∃ b, setHash set5 = b := ⟨_, rfl⟩
  rw [hSS] at CS bH LS
  obtain ⟨HH, hHH⟩ : ∃ b, hdr5 h t last = b := ⟨_, rfl⟩
  rw [hHH] at CH bH hdw ⊢
  obtain ⟨RI, hRI⟩ : ∃ x : Int, ((r : Nat) : Int) = x := ⟨_, rfl⟩
  obtain ⟨SI, hSI⟩ : ∃ x : Int, ((s : Nat) : Int) = x := ⟨_, rfl⟩
  rw [hRI, hSI] at vsig ⊢
  replace CK := Lib.hid CK; replace CS := Lib.hid CS; replace CH := Lib.hid CH; replace CV := Lib.hid CV
  have L0 := Lib.hid hl; replace LB := Lib.hid LB; replace LS := Lib.hid LS; have HDW := Lib.hid hdw; replace bH := Lib.hid bH; replace bV := Lib.hid bV
  have VS := Lib.hid vsz; have V1 := Lib.hid vone; have VG := Lib.hid vsig; have BL := Lib.hid (bLightG HH hdw)
  have PC := Lib.hid (fun (h r h' r' : Int) (b b' : List UInt8) hb hb' a1 a2 a3 a4 n1 k1 n2 k2 n3 k3 n4 k4 => LtR.put_commit HH hdw h r h' r' b b' hb hb' a1 a2 a3 a4 n1 k1 n2 k2 n3 k3 n4 k4)
  clear hr hs hVB hVV hK hBB hSS hHH hRI hSI vsz vone vsig hv hdw hh ht hl hhr E1 E2 E3 E4 EX1 hvl
  go_enter Tryz.func72, Tryz.ntmps72
  go_wp2_with (first | ((with_reducible refine @wpList_at _ _ _ _ _ _ _ (.box 23 (.tmp 1)) rfl ?_); refine @wpList_own_box _ _ _ _ _ _ _ _ _ 23 (.tmp 1) rfl (Lib.byteCells last) rfl O rfl ?_; clear O; intro b5 w O) | ((with_reducible refine @wpList_at _ _ _ _ _ _ _ (.alloc 31) rfl ?_); refine @wpList_own_alloc _ _ _ _ _ _ _ _ _ 31 rfl ZLt0 ZLt0_info O rfl ?_; clear O; intro b6 w O))
  refine (CK.out _).mono ?_
  rintro e w' ⟨rfl, rfl⟩
  go_wp2_with (first | ((with_reducible refine @wpList_at _ _ _ _ _ _ _ (.build 115 #[(0, .tmp 19), (1, .const (.int .i64 2))]) rfl ?_); refine wpList_build_eq rfl 115 _ rfl [(0, .int .u64 K), (1, .int .i64 2)] (by kernel_rfl) _ (bValG K 2) ?_) | ((with_reducible refine @wpList_at _ _ _ _ _ _ _ (.buildSlice 29 1 #[(0, .tmp 20)]) rfl ?_); refine wpList_own_one rfl 29 (.tmp 20) rfl (⟨K, 2⟩ : ValD).cells rfl 115 _ 2 Tryz.underlying29 val_z rfl (by decide) O ?_; clear O; intro gv w O))
  refine (CS.out _ _ _ (O.at_ 0 rfl)).mono ?_
  rintro e w ⟨rfl, g⟩
  replace O := O.call g
  clear g
  go_wp2_with (first | ((with_reducible refine @wpList_at _ _ _ _ _ _ _ (.alloc 23) rfl ?_); refine @wpList_own_alloc _ _ _ _ _ _ _ _ _ 23 rfl ZH ZH_info O rfl ?_; clear O; intro p10 w O) | ((with_reducible refine @wpList_at _ _ _ _ _ _ _ (.store 23 (.tmp 8) (.tmp 25)) rfl ?_); refine @wpList_own_store _ _ _ _ _ _ _ _ _ 23 (.tmp 8) (.tmp 25) rfl O 0 p10 rfl (Lib.byteCells SS) ZH _ rfl rfl (by rw [Lib.byteCells_length, LS.out]; rfl) (oneCell_bytes _) (sizeH _ (by rw [Lib.byteCells_length, LS.out])) rfl ?_; clear O; intro w O; simp only [List.set_cons_zero] at O) | ((with_reducible refine @wpList_at _ _ _ _ _ _ _ (.load 23 (.tmp 3)) rfl ?_); refine @wpList_own_whole _ _ _ _ _ _ _ _ _ 23 (.tmp 3) rfl O 3 b5 rfl (Lib.byteCells last) _ rfl _ Tryz.underlying23 rfl (sizeH _ (by rw [Lib.byteCells_length, L0.out])) rfl ?_) | ((with_reducible refine @wpList_at _ _ _ _ _ _ _ (.load 23 (.tmp 8)) rfl ?_); refine @wpList_own_whole _ _ _ _ _ _ _ _ _ 23 (.tmp 8) rfl O 0 p10 rfl (Lib.byteCells SS) _ rfl _ Tryz.underlying23 rfl (sizeH _ (by rw [Lib.byteCells_length, LS.out])) rfl ?_) | ((with_reducible refine @wpList_at _ _ _ _ _ _ _ (.build 25 #[(0, .const (.string { data := #[97] })), (1, .tmp 27), (2, .tmp 29), (3, .tmp 30), (4, .tmp 31), (5, .tmp 32)]) rfl ?_); refine wpList_build_eq rfl 25 _ rfl [(0, .string ⟨#[97]⟩), (1, .int .i64 h), (2, .int .i64 t), (3, .agg (Lib.byteCells last).toArray), (4, .agg (Lib.byteCells SS).toArray), (5, .agg (Lib.byteCells SS).toArray)] (by kernel_rfl) _ bH.out ?_) | ((with_reducible refine @wpList_at _ _ _ _ _ _ _ (.build 31 #[(0, .tmp 33), (2, .tmp 34), (3, .tmp 35)]) rfl ?_); refine wpList_build_eq rfl 31 _ rfl [(0, .agg HH.cells.toArray), (2, .slice (some ⟨gv, 0, none⟩) 1 1), (3, .slice (some ⟨gv, 0, none⟩) 1 1)] (by kernel_rfl) _ (BL.out (some ⟨gv, 0, none⟩) (some ⟨gv, 0, none⟩) 1 1 1 1) ?_) | ((with_reducible refine @wpList_at _ _ _ _ _ _ _ (.alloc 31) rfl ?_); refine @wpList_own_alloc _ _ _ _ _ _ _ _ _ 31 rfl ZLt0 ZLt0_info O rfl ?_; clear O; intro b12 w O) | ((with_reducible refine @wpList_at _ _ _ _ _ _ _ (.store 31 (.tmp 10) (.tmp 36)) rfl ?_); refine @wpList_own_store _ _ _ _ _ _ _ _ _ 31 (.tmp 10) (.tmp 36) rfl O 0 b12 rfl (⟨HH, 0, 0, z32, none, 0, 0, some ⟨gv, 0, none⟩, 1, 1, some ⟨gv, 0, none⟩, 1, 1⟩ : LtR).cells ZLt0 _ rfl rfl (LtR.cells_length _ (lt_wf HDW.out rfl (by decide) (by decide) (by decide))) (LtR_one _) (sizeLt _ (lt_wf HDW.out rfl (by decide) (by decide) (by decide))) rfl ?_; clear O; intro w O; simp only [List.set_cons_zero] at O) | ((with_reducible refine @wpList_at _ _ _ _ _ _ _ (.load 25 (.tmp 38)) rfl ?_); refine @wpList_own_part _ _ _ _ _ _ _ _ _ 25 (.tmp 38) rfl O 0 b12 0 rfl _ _ rfl HH.cells _ (fun h => LtR.hdr_at (x := ⟨HH, 0, 0, z32, none, 0, 0, some ⟨gv, 0, none⟩, 1, 1, some ⟨gv, 0, none⟩, 1, 1⟩) h (lt_wf HDW.out rfl (by decide) (by decide) (by decide))) Tryz.underlying25 rfl (sizeHeader _ (HH.cells_length HDW.out)) rfl ?_))
  refine (CH.out _).mono ?_
  rintro e w ⟨rfl, g⟩
  replace O := O.call g
  clear g
  go_wp2_with (first | ((with_reducible refine @wpList_at _ _ _ _ _ _ _ (.alloc 23) rfl ?_); refine @wpList_own_alloc _ _ _ _ _ _ _ _ _ 23 rfl ZH ZH_info O rfl ?_; clear O; intro p13 w O) | ((with_reducible refine @wpList_at _ _ _ _ _ _ _ (.store 23 (.tmp 11) (.tmp 41)) rfl ?_); refine @wpList_own_store _ _ _ _ _ _ _ _ _ 23 (.tmp 11) (.tmp 41) rfl O 0 p13 rfl (Lib.byteCells BB) ZH _ rfl rfl (by rw [Lib.byteCells_length, LB.out]; rfl) (oneCell_bytes _) (sizeH _ (by rw [Lib.byteCells_length, LB.out])) rfl ?_; clear O; intro w O; simp only [List.set_cons_zero] at O) | ((with_reducible refine @wpList_at _ _ _ _ _ _ _ (.load 23 (.tmp 11)) rfl ?_); refine @wpList_own_whole _ _ _ _ _ _ _ _ _ 23 (.tmp 11) rfl O 0 p13 rfl (Lib.byteCells BB) _ rfl _ Tryz.underlying23 rfl (sizeH _ (by rw [Lib.byteCells_length, LB.out])) rfl ?_) | ((with_reducible refine @wpList_at _ _ _ _ _ _ _ (.build 54 #[(0, .const (.string { data := #[97] })), (1, .tmp 44), (3, .const (.int .i64 2)), (4, .tmp 45)]) rfl ?_); refine wpList_build_eq rfl 54 _ rfl [(0, .string ⟨#[97]⟩), (1, .int .i64 h), (3, .int .i64 2), (4, .agg (Lib.byteCells BB).toArray)] (by kernel_rfl) _ bV.out ?_))
  refine (CV.out _).mono ?_
  rintro e w ⟨rfl, g⟩
  replace O := O.call g
  clear g
  go_wp2_with (first | ((with_reducible refine @wpList_at _ _ _ _ _ _ _ (.alloc 54) rfl ?_); refine @wpList_own_alloc _ _ _ _ _ _ _ _ _ 54 rfl ZVote ZVote_info O rfl ?_; clear O; intro b15 w O) | ((with_reducible refine @wpList_at _ _ _ _ _ _ _ (.store 54 (.tmp 13) (.tmp 48)) rfl ?_); refine @wpList_own_store _ _ _ _ _ _ _ _ _ 54 (.tmp 13) (.tmp 48) rfl O 0 b15 rfl VB.cells ZVote _ rfl rfl VS.out V1.out (sizeVote _ VS.out) rfl ?_; clear O; intro w O; simp only [List.set_cons_zero] at O) | ((with_reducible refine @wpList_at _ _ _ _ _ _ _ (.load 23 (.tmp 11)) rfl ?_); refine @wpList_own_whole _ _ _ _ _ _ _ _ _ 23 (.tmp 11) rfl O 1 p13 rfl (Lib.byteCells BB) _ rfl _ Tryz.underlying23 rfl (sizeH _ (by rw [Lib.byteCells_length, LB.out])) rfl ?_) | ((with_reducible refine @wpList_at _ _ _ _ _ _ _ (.load 49 (.tmp 53)) rfl ?_); refine @wpList_own_part _ _ _ _ _ _ _ _ _ 49 (.tmp 53) rfl O 0 b15 37 rfl _ _ rfl [.int .u64 RI, .int .u64 SI] _ (fun h => VG.out _ _ h) Tryz.underlying49 rfl sizeSigI rfl ?_) | ((with_reducible refine @wpList_at _ _ _ _ _ _ _ (.build 51 #[(0, .tmp 52), (1, .tmp 54)]) rfl ?_); refine wpList_build_eq rfl 51 _ rfl [(0, .int .u64 K), (1, .agg #[.int .u64 RI, .int .u64 SI])] (by kernel_rfl) _ (bSealG K RI SI) ?_) | ((with_reducible refine @wpList_at _ _ _ _ _ _ _ (.buildSlice 26 1 #[(0, .tmp 55)]) rfl ?_); refine wpList_own_one rfl 26 (.tmp 55) rfl (⟨K, RI, SI⟩ : SealD).cells rfl 51 _ 3 Tryz.underlying26 seal_z rfl (by decide) O ?_; clear O; intro gs w O) | ((with_reducible refine @wpList_at _ _ _ _ _ _ _ (.build 28 #[(0, .tmp 50), (2, .tmp 51), (3, .tmp 56)]) rfl ?_); refine wpList_build_eq rfl 28 _ rfl [(0, .int .i64 h), (2, .agg (Lib.byteCells BB).toArray), (3, .slice (some ⟨gs, 0, none⟩) 1 1)] (by kernel_rfl) _ (bCommitG h BB LB.out (some ⟨gs, 0, none⟩) 1 1) ?_) | ((with_reducible refine @wpList_at _ _ _ _ _ _ _ (.store 28 (.tmp 58) (.tmp 57)) rfl ?_); refine @wpList_own_store_part _ _ _ _ _ _ _ _ _ 28 (.tmp 58) (.tmp 57) rfl O 3 b12 163 rfl (commitV h 0 BB (.slice (some ⟨gs, 0, none⟩) 1 1)) _ _ rfl rfl (by rw [commitV_len _ _ _ _ LB.out, LtR.cells_length _ (lt_wf HDW.out rfl (by decide) (by decide) (by decide))]; decide) (commitV_one _ _ _ _ rfl) (by rw [commitV_len _ _ _ _ LB.out]; exact sizeCommit) rfl ?_; clear O; intro w O; simp only [List.set_cons_zero, List.set_cons_succ] at O; rw [PC.out 0 0 h 0 z32 BB rfl LB.out none (some ⟨gv, 0, none⟩) (some ⟨gv, 0, none⟩) (some ⟨gs, 0, none⟩) 0 0 1 1 1 1 1 1] at O) | ((with_reducible refine @wpList_at _ _ _ _ _ _ _ (.load 31 (.tmp 10)) rfl ?_); refine @wpList_own_whole _ _ _ _ _ _ _ _ _ 31 (.tmp 10) rfl O 3 b12 rfl (⟨HH, h, 0, BB, some ⟨gs, 0, none⟩, 1, 1, some ⟨gv, 0, none⟩, 1, 1, some ⟨gv, 0, none⟩, 1, 1⟩ : LtR).cells _ rfl _ Tryz.underlying31 rfl (sizeLt _ (lt_wf HDW.out LB.out (by decide) (by decide) (by decide))) rfl ?_) | ((with_reducible refine @wpList_at _ _ _ _ _ _ _ (.store 31 (.tmp 4) (.tmp 59)) rfl ?_); refine @wpList_own_store _ _ _ _ _ _ _ _ _ 31 (.tmp 4) (.tmp 59) rfl O 6 b6 rfl (⟨HH, h, 0, BB, some ⟨gs, 0, none⟩, 1, 1, some ⟨gv, 0, none⟩, 1, 1, some ⟨gv, 0, none⟩, 1, 1⟩ : LtR).cells ZLt0 _ rfl rfl (LtR.cells_length _ (lt_wf HDW.out LB.out (by decide) (by decide) (by decide))) (LtR_one _) (sizeLt _ (lt_wf HDW.out LB.out (by decide) (by decide) (by decide))) rfl ?_; clear O; intro w O; simp only [List.set_cons_zero, List.set_cons_succ] at O))
  refine bodyPost_ret (results_cell_one rfl _ _ ⟨b6, 0, none⟩ _ rfl (run_loadVar_part _ _ _ 31 (⟨HH, h, 0, BB, some ⟨gs, 0, none⟩, 1, 1, some ⟨gv, 0, none⟩, 1, 1, some ⟨gv, 0, none⟩, 1, 1⟩ : LtR).cells _ (O.at_ 6 rfl).row Tryz.underlying31 rfl (sizeLt _ (lt_wf HDW.out LB.out (by decide) (by decide) (by decide))))) rfl ⟨(⟨HH, h, 0, BB, some ⟨gs, 0, none⟩, 1, 1, some ⟨gv, 0, none⟩, 1, 1, some ⟨gv, 0, none⟩, 1, 1⟩ : LtR), rfl, ⟨rfl, rfl, rfl, rfl, rds_blk (O.at_ 0 rfl) rfl 1 (Nat.le_refl _) (by unfold maxLen; omega), rds_blk (O.at_ 5 rfl) rfl 1 (Nat.le_refl _) (by unfold maxLen; omega), rds_blk (O.at_ 5 rfl) rfl 1 (Nat.le_refl _) (by unfold maxLen; omega)⟩, ⟨fun a _ e => by injection e with e; subst e; exact O.low 0 rfl, fun a _ e => by injection e with e; subst e; exact O.low 5 rfl, fun a _ e => by injection e with e; subst e; exact O.low 5 rfl⟩, O.grown⟩

/-! a client that is alive, plainly -/
def a16 : LightD := oneL 1 10 z32
def b16 : LightD := oneL 4 40 z32
theorem hz_b16 : hdrHash (hdr5 4 40 z32) ≠ z32 := by decide +kernel
def opt16 : OptD := ⟨4602678819172646912, 4652007308841189376, 4621819117588971520⟩
theorem opt16_wf : opt16.wf := ⟨by decide, by decide, by decide⟩
theorem a16_sound : soundL ⟨#[97]⟩ a16 = 0 := one_sound (by decide) (by decide) hz_a
theorem b16_sound : soundL ⟨#[97]⟩ b16 = 0 := one_sound (by decide) (by decide) hz_b16
theorem vouch16 : vouchL a16 b16 opt16 = 0 := by
  obtain ⟨h1, h2, h3, h4, _⟩ := check_iff.1 (sound_iff.1 b16_sound).check
  have hs : sharedL a16.next a16.header.chain b16.commit = (powS a16.next b16.commit.seals, 0) := shared_yes h1 h2 h3 h4
  have hp : powS a16.next b16.commit.seals = 2 := by
    show ([seal5 4 (hdrHash (hdr5 4 40 z32))].map fun s => powL s.key set5).sum = 2
    have : powL (seal5 4 (hdrHash (hdr5 4 40 z32))).key set5 = 2 := pow5
    simp [this]
  unfold vouchL
  rw [hs, hp, if_neg (by decide), if_neg]
  show ¬ excL 2 (totalL set5) opt16.level = false
  rw [total5]; decide +kernel
theorem step16 : vstepL a16 b16 4631530004285489152 opt16 = 0 := by
  rw [step_iff]
  exact ⟨by decide +kernel, by decide +kernel, by decide +kernel, by decide, by decide, by decide +kernel, b16_sound, .inr ⟨by decide, vouch16⟩⟩
theorem new16 : bnewE a16 4624633867356078080 opt16 = 0 := by
  unfold bnewE
  have h1 : rightO opt16 = true := by decide +kernel
  have h2 : finB 4624633867356078080 = true := by decide +kernel
  have h3 : expF a16.header.time 4624633867356078080 opt16 = false := by decide +kernel
  rw [if_neg (by rw [h1]; decide), if_neg (by rw [h2]; decide), if_neg (fun h => h a16_sound), if_neg (by rw [h3]; decide)]
theorem goal16 : (BcD.new a16 opt16).goal 4 = (⟨opt16, [a16], [], 4, 0, 0⟩, 0) := rfl
theorem give16 : (⟨opt16, [a16], [], 4, 0, 0⟩ : BcD).give b16 4631530004285489152 = (⟨opt16, [a16, b16], [], 0, 1, 0⟩, 0) := by
  unfold BcD.give
  rw [if_neg (by rintro (h | h | h); exact absurd h (by decide); exact h rfl; exact h rfl), if_neg (by decide)]
  show BcD.climb 4631530004285489152 1 _ = _
  unfold BcD.climb
  dsimp only
  rw [if_pos (show vstepL (lastB [a16]) (lastB ([] ++ [b16])) 4631530004285489152 opt16 = 0 from step16)]
  rfl
theorem a16_fit : a16.fit := ⟨one_wf (by unfold i64R; decide) (by unfold i64R; decide) rfl, by decide, by decide, by decide, by show ([97] : List UInt8).length ≤ _; decide⟩
theorem b16_fit : b16.fit := ⟨one_wf (by unfold i64R; decide) (by unfold i64R; decide) rfl, by decide, by decide, by decide, by show ([97] : List UInt8).length ≤ _; decide⟩
set_option maxHeartbeats 1000000 in
theorem options_ok (w0 : World) : Calls Tryz.prog 34 #[] w0 fun e w' => e = .returned (.agg opt16.cells.toArray) ∧ w0.grownBy w' none := by
  have O := OwF.start (fun _ => False) w0
  go_enter Tryz.func34, Tryz.ntmps34
  go_wp2_with (first | ((with_reducible refine @wpList_at _ _ _ _ _ _ _ (.alloc 35) rfl ?_); refine @wpList_of_alloc _ _ _ _ _ _ _ _ _ _ 35 rfl ZOpt ZOpt_info O rfl ?_; clear O; intro bo w O) | ((with_reducible refine @wpList_at _ _ _ _ _ _ _ (.build 35 #[(0, .const (.float .f64 4602678819172646912)), (1, .const (.float .f64 4652007308841189376)), (2, .const (.float .f64 4621819117588971520))]) rfl ?_); refine wpList_build_eq rfl 35 _ rfl [(0, .float .f64 4602678819172646912), (1, .float .f64 4652007308841189376), (2, .float .f64 4621819117588971520)] (by kernel_rfl) opt16.cells (bOptG _ _ _) ?_) | ((with_reducible refine @wpList_at _ _ _ _ _ _ _ (.store 35 (.tmp 0) (.tmp 1)) rfl ?_); refine @wpList_of_store _ _ _ _ _ _ _ _ _ _ 35 (.tmp 0) (.tmp 1) rfl O 0 bo rfl opt16.cells ZOpt _ rfl rfl rfl opt_one sizeOpt rfl ?_; clear O; intro w O; simp only [List.set_cons_zero] at O))
  refine bodyPost_ret (results_cell_one rfl _ _ ⟨bo, 0, none⟩ _ rfl (run_loadVar_part _ _ _ 35 opt16.cells _ (O.at_ 0 rfl).row Tryz.underlying35 rfl sizeOpt)) rfl ?_
  exact ⟨rfl, O.tch.grown (fun _ h => h.elim)⟩

theorem run_build_op2 {P : Program} {o : Oper} {a : Act} {w : World} (t : TypeId) (parts : Array (Nat × Operand)) (ho : o.op = .build t parts)
    (ps : List (Nat × Value)) (hp : (parts.map fun (i, x) => (i, a.eval x)).toList = ps) (cs : List Value) (hb : P.built t ps = some cs.toArray) : (execOp a.eval o).run P w = .ok (.value (.agg cs.toArray)) w := by
  have hb' : P.built t (parts.map fun (i, x) => (i, a.eval x)).toList = some cs.toArray := by rw [hp]; exact hb
  unfold execOp
  simp only [ho, Sem.run_bind, run_build w t _ _ hb', Result.andThen_ok, Sem.run_pure]
theorem bClient (x y z : Nat) (a : Option Addr) (n c : Nat) : Tryz.prog.built 125 [(0, .agg (⟨x, y, z⟩ : OptD).cells.toArray), (1, .slice a n c), (5, .int .i64 (-1))] = some #[.float .f64 x, .float .f64 y, .float .f64 z, .slice a n c, .slice none 0 0, .int .i64 0, .int .i64 0, .int .i64 (-1)] := by kernel_rfl
/-- what New answers -/
def NewPost (T : TypeId) (w : World) (l : LightD) (now : Nat) (o : OptD) (e : Ending) (w' : World) : Prop :=
  w.grownBy w' none ∧ ((bnewE l now o ≠ 0 ∧ e = .returned (.tuple #[.pointer none, .int .i64 (bnewE l now o)])) ∨
    (bnewE l now o = 0 ∧ ∃ (p : Nat) (sv : Value) (I : Nat → Prop), e = .returned (.tuple #[.pointer (some ⟨p, 0, none⟩), .int .i64 0]) ∧ BcRep T I w' p sv (.slice none 0 0) (BcD.new l o) ∧
      (∀ b, Foot p sv (.slice none 0 0) b → w.heap.size ≤ b) ∧ (∀ b, I b → w.heap.size ≤ b ∨ b < w.heap.size ∧ ¬ Foot p sv (.slice none 0 0) b) ∧ I 1))
theorem new_ok {l : LightD} {o : OptD} (ho : o.wf) (h : hOk l) : (BcD.new l o).ok := ⟨ho, by simp [BcD.new], ⟨Int.le_refl _, by show (0 : Int) ≤ _; decide⟩, ⟨Int.le_refl _, by show (0 : Int) ≤ _; decide⟩, ⟨by show (-1 : Int) ≤ -1; decide, by show (-1 : Int) < _; simp [BcD.new]⟩, by simp [BcD.new], by intro x hx; simp [BcD.new] at hx; rw [hx]; exact h⟩
theorem LRow.one {I : Nat → Prop} {w : World} {g : Nat} {x : LtR} {l : LightD} (hb : Blk w g x.cells 31) (hx : x.of w.heap.size w l) (hi : x.inn I) (hf : l.fit) : LRow I w (.slice (some ⟨g, 0, none⟩) 1 1) [l] := by
  have hl := x.cells_length (hx.wf hf.wf)
  refine ⟨[x], ⟨by simp [ltsCells, hl], .inr ⟨g, 0, 1, x.cells, rfl, hb, Nat.le_refl _, by unfold maxLen; decide, by rw [hl]; decide, ?_⟩⟩, rfl, fun i y m hy hm => ?_⟩
  · simp only [ltsCells, List.flatMap_cons, List.flatMap_nil, List.append_nil, List.drop_zero, List.length_cons, List.length_nil]
    exact List.take_of_length_le (by omega)
  · cases i with
    | zero =>
      simp only [List.getElem?_cons_zero, Option.some.injEq] at hy hm
      subst hy hm
      exact ⟨hx, hi, hf⟩
    | succ i => simp at hy
set_option maxHeartbeats 8000000 in
theorem New_ok2 (x : LtR) (l : LightD) (now : Nat) (o : OptD) (w0 : World) (hof : x.of w0.heap.size w0 l) (hfit : l.fit) (hnow : now < 18446744073709551616) (ho : o.wf) (hR : RowAt w0 1 0 (wCells rootsL)) :
    Calls Tryz.prog 35 #[.agg x.cells.toArray, .float .f64 now, .agg o.cells.toArray] w0 (NewPost 125 w0 l now o) := by
  have XW := Lib.hid (hof.wf hfit.wf)
  have CR := fun w => optRight_ok o w
  have CI := fun w => isInf_ok now w hnow; have CN := isNaN_ok now; have hfin := finB_eq hnow
  have CE := fun w => expired_ok l.header.time now o w hnow hfit.wf.header.time
  have CS := fun w (g : w0.grownBy w none) => vSound_ok l.header.chain x l w hfit.wf (hof.up g (Nat.le_refl _)) (by have := hfit.seals; omega) (by have := hfit.chain; unfold maxLen; omega) (hR.grown g (by simp))
  have CC1 := Lib.hid (fun w (g : w0.grownBy w none) => copied_ok x l w hfit (hof.up g (Nat.le_refl _)))
  have P0 : x.cells[0]? = some (.string l.header.chain) := by rw [← hof.header]; rfl
  have P2 : x.cells[2]? = some (.int .i64 l.header.time) := by rw [← hof.header]; rfl
  have hsk : soundL l.header.chain l = 0 → hOk l := sound_hOk
  have HB := Lib.hid (show bnewE l now o = if rightO o = false then 151 else if finB now = false then 154 else if soundL l.header.chain l ≠ 0 then soundL l.header.chain l else if expF l.header.time now o = true then 155 else 0 from rfl)
  rw [hfin] at HB
  have hrl : 1 < w0.heap.size := World.block_lt_of_cell? _ _ (hR 0 _ rfl)
  have HRL := Lib.hid hrl
  obtain ⟨r, hr⟩ : ∃ z, rightO o = z := ⟨_, rfl⟩
  obtain ⟨n1, hn1⟩ : ∃ z, nanF now = z := ⟨_, rfl⟩
  obtain ⟨n2, hn2⟩ : ∃ z, infF now = z := ⟨_, rfl⟩
  obtain ⟨s, hs⟩ : ∃ z, soundL l.header.chain l = z := ⟨_, rfl⟩
  obtain ⟨ex, hex⟩ : ∃ z, expF l.header.time now o = z := ⟨_, rfl⟩
  rw [hr, hn1, hn2, hs, hex] at HB
  rw [hr] at CR; rw [hn1] at CN; rw [hn2] at CI; rw [hs] at CS hsk; rw [hex] at CE
  obtain ⟨CH, hCH⟩ : ∃ z, l.header.chain = z := ⟨_, rfl⟩
  obtain ⟨TM, hTM⟩ : ∃ z, l.header.time = z := ⟨_, rfl⟩
  rw [hCH] at P0 CS; rw [hTM] at P2 CE
  have HO := Lib.hid ho; have HFI := Lib.hid hfit; have HSK := Lib.hid hsk
  replace CR := Lib.hid CR; replace CI := Lib.hid CI; replace CN := Lib.hid CN; replace CE := Lib.hid CE; replace CS := Lib.hid CS; replace P0 := Lib.hid P0; replace P2 := Lib.hid P2
  have O := OwF.start (fun _ => False) w0
  clear hr hn1 hn2 hs hex hCH hTM hof hfit hnow ho hR hfin hsk hrl
  go_enter Tryz.func35, Tryz.ntmps35
  go_upto_region 1 with (first | ((with_reducible refine @wpList_at _ _ _ _ _ _ _ (.box 31 (.tmp 0)) rfl ?_); refine @wpList_of_box _ _ _ _ _ _ _ _ _ _ 31 (.tmp 0) rfl x.cells rfl O rfl ?_; clear O; intro bx w O) | ((with_reducible refine @wpList_at _ _ _ _ _ _ _ (.box 35 (.tmp 2)) rfl ?_); refine @wpList_of_box _ _ _ _ _ _ _ _ _ _ 35 (.tmp 2) rfl o.cells rfl O rfl ?_; clear O; intro bo w O))
  go_wp2_with (first | ((with_reducible refine @wpList_at _ _ _ _ _ _ _ (.load 35 (.tmp 5)) rfl ?_); refine @wpList_of_whole _ _ _ _ _ _ _ _ _ _ 35 (.tmp 5) rfl O 0 bo rfl o.cells _ rfl _ Tryz.underlying35 rfl sizeOpt rfl ?_) | ((with_reducible refine @wpList_at _ _ _ _ _ _ _ (.load 9 (.tmp 21)) rfl ?_); refine @wpList_of_cell _ _ _ _ _ _ _ _ _ _ 9 (.tmp 21) rfl O 1 bx 0 rfl _ _ rfl _ P0.out _ Tryz.underlying9 rfl rfl ?_) | ((with_reducible refine @wpList_at _ _ _ _ _ _ _ (.load 31 (.tmp 3)) rfl ?_); refine @wpList_of_whole _ _ _ _ _ _ _ _ _ _ 31 (.tmp 3) rfl O 1 bx rfl x.cells _ rfl _ Tryz.underlying31 rfl (sizeLt _ XW.out) rfl ?_) | ((with_reducible refine @wpList_at _ _ _ _ _ _ _ (.load 3 (.tmp 29)) rfl ?_); refine @wpList_of_cell _ _ _ _ _ _ _ _ _ _ 3 (.tmp 29) rfl O 1 bx 2 rfl _ _ rfl _ P2.out _ Tryz.underlying3 rfl rfl ?_))
  refine (CR.out _).mono ?_
  rintro e w ⟨rfl, g⟩
  replace O := O.call g
  clear g
  cases r with
  | false =>
    have hv := HB.out; rw [if_pos rfl] at hv; replace HB := Lib.hid hv; clear hv
    go_wp2_with (first | ((with_reducible refine @wpList_at _ _ _ _ _ _ _ (.load 35 (.tmp 5)) rfl ?_); refine @wpList_of_whole _ _ _ _ _ _ _ _ _ _ 35 (.tmp 5) rfl O 0 bo rfl o.cells _ rfl _ Tryz.underlying35 rfl sizeOpt rfl ?_) | ((with_reducible refine @wpList_at _ _ _ _ _ _ _ (.load 9 (.tmp 21)) rfl ?_); refine @wpList_of_cell _ _ _ _ _ _ _ _ _ _ 9 (.tmp 21) rfl O 1 bx 0 rfl _ _ rfl _ P0.out _ Tryz.underlying9 rfl rfl ?_) | ((with_reducible refine @wpList_at _ _ _ _ _ _ _ (.load 31 (.tmp 3)) rfl ?_); refine @wpList_of_whole _ _ _ _ _ _ _ _ _ _ 31 (.tmp 3) rfl O 1 bx rfl x.cells _ rfl _ Tryz.underlying31 rfl (sizeLt _ XW.out) rfl ?_) | ((with_reducible refine @wpList_at _ _ _ _ _ _ _ (.load 3 (.tmp 29)) rfl ?_); refine @wpList_of_cell _ _ _ _ _ _ _ _ _ _ 3 (.tmp 29) rfl O 1 bx 2 rfl _ _ rfl _ P2.out _ Tryz.underlying3 rfl rfl ?_))
    go_ret2
    exact ⟨O.tch.grown (fun _ h => h.elim), .inl ⟨by rw [HB.out]; decide, by rw [HB.out]; rfl⟩⟩
  | true =>
  have hv := HB.out; rw [if_neg (by decide)] at hv; replace HB := Lib.hid hv; clear hv
  go_wp2_with (first | ((with_reducible refine @wpList_at _ _ _ _ _ _ _ (.load 35 (.tmp 5)) rfl ?_); refine @wpList_of_whole _ _ _ _ _ _ _ _ _ _ 35 (.tmp 5) rfl O 0 bo rfl o.cells _ rfl _ Tryz.underlying35 rfl sizeOpt rfl ?_) | ((with_reducible refine @wpList_at _ _ _ _ _ _ _ (.load 9 (.tmp 21)) rfl ?_); refine @wpList_of_cell _ _ _ _ _ _ _ _ _ _ 9 (.tmp 21) rfl O 1 bx 0 rfl _ _ rfl _ P0.out _ Tryz.underlying9 rfl rfl ?_) | ((with_reducible refine @wpList_at _ _ _ _ _ _ _ (.load 31 (.tmp 3)) rfl ?_); refine @wpList_of_whole _ _ _ _ _ _ _ _ _ _ 31 (.tmp 3) rfl O 1 bx rfl x.cells _ rfl _ Tryz.underlying31 rfl (sizeLt _ XW.out) rfl ?_) | ((with_reducible refine @wpList_at _ _ _ _ _ _ _ (.load 3 (.tmp 29)) rfl ?_); refine @wpList_of_cell _ _ _ _ _ _ _ _ _ _ 3 (.tmp 29) rfl O 1 bx 2 rfl _ _ rfl _ P2.out _ Tryz.underlying3 rfl rfl ?_))
  refine (CN.out _).mono ?_
  rintro e w' ⟨rfl, rfl⟩
  cases n1 with
  | true =>
    have hv := HB.out; rw [if_pos (show (!(true || n2)) = false from rfl)] at hv; replace HB := Lib.hid hv; clear hv
    go_wp2_with (first | ((with_reducible refine @wpList_at _ _ _ _ _ _ _ (.load 35 (.tmp 5)) rfl ?_); refine @wpList_of_whole _ _ _ _ _ _ _ _ _ _ 35 (.tmp 5) rfl O 0 bo rfl o.cells _ rfl _ Tryz.underlying35 rfl sizeOpt rfl ?_) | ((with_reducible refine @wpList_at _ _ _ _ _ _ _ (.load 9 (.tmp 21)) rfl ?_); refine @wpList_of_cell _ _ _ _ _ _ _ _ _ _ 9 (.tmp 21) rfl O 1 bx 0 rfl _ _ rfl _ P0.out _ Tryz.underlying9 rfl rfl ?_) | ((with_reducible refine @wpList_at _ _ _ _ _ _ _ (.load 31 (.tmp 3)) rfl ?_); refine @wpList_of_whole _ _ _ _ _ _ _ _ _ _ 31 (.tmp 3) rfl O 1 bx rfl x.cells _ rfl _ Tryz.underlying31 rfl (sizeLt _ XW.out) rfl ?_) | ((with_reducible refine @wpList_at _ _ _ _ _ _ _ (.load 3 (.tmp 29)) rfl ?_); refine @wpList_of_cell _ _ _ _ _ _ _ _ _ _ 3 (.tmp 29) rfl O 1 bx 2 rfl _ _ rfl _ P2.out _ Tryz.underlying3 rfl rfl ?_))
    go_ret2
    exact ⟨O.tch.grown (fun _ h => h.elim), .inl ⟨by rw [HB.out]; decide, by rw [HB.out]; rfl⟩⟩
  | false =>
  go_wp2_with (first | ((with_reducible refine @wpList_at _ _ _ _ _ _ _ (.load 35 (.tmp 5)) rfl ?_); refine @wpList_of_whole _ _ _ _ _ _ _ _ _ _ 35 (.tmp 5) rfl O 0 bo rfl o.cells _ rfl _ Tryz.underlying35 rfl sizeOpt rfl ?_) | ((with_reducible refine @wpList_at _ _ _ _ _ _ _ (.load 9 (.tmp 21)) rfl ?_); refine @wpList_of_cell _ _ _ _ _ _ _ _ _ _ 9 (.tmp 21) rfl O 1 bx 0 rfl _ _ rfl _ P0.out _ Tryz.underlying9 rfl rfl ?_) | ((with_reducible refine @wpList_at _ _ _ _ _ _ _ (.load 31 (.tmp 3)) rfl ?_); refine @wpList_of_whole _ _ _ _ _ _ _ _ _ _ 31 (.tmp 3) rfl O 1 bx rfl x.cells _ rfl _ Tryz.underlying31 rfl (sizeLt _ XW.out) rfl ?_) | ((with_reducible refine @wpList_at _ _ _ _ _ _ _ (.load 3 (.tmp 29)) rfl ?_); refine @wpList_of_cell _ _ _ _ _ _ _ _ _ _ 3 (.tmp 29) rfl O 1 bx 2 rfl _ _ rfl _ P2.out _ Tryz.underlying3 rfl rfl ?_))
  refine (CI.out _).mono ?_
  rintro e w' ⟨rfl, rfl⟩
  cases n2 with
  | true =>
    have hv := HB.out; rw [if_pos (show (!(false || true)) = false from rfl)] at hv; replace HB := Lib.hid hv; clear hv
    go_wp2_with (first | ((with_reducible refine @wpList_at _ _ _ _ _ _ _ (.load 35 (.tmp 5)) rfl ?_); refine @wpList_of_whole _ _ _ _ _ _ _ _ _ _ 35 (.tmp 5) rfl O 0 bo rfl o.cells _ rfl _ Tryz.underlying35 rfl sizeOpt rfl ?_) | ((with_reducible refine @wpList_at _ _ _ _ _ _ _ (.load 9 (.tmp 21)) rfl ?_); refine @wpList_of_cell _ _ _ _ _ _ _ _ _ _ 9 (.tmp 21) rfl O 1 bx 0 rfl _ _ rfl _ P0.out _ Tryz.underlying9 rfl rfl ?_) | ((with_reducible refine @wpList_at _ _ _ _ _ _ _ (.load 31 (.tmp 3)) rfl ?_); refine @wpList_of_whole _ _ _ _ _ _ _ _ _ _ 31 (.tmp 3) rfl O 1 bx rfl x.cells _ rfl _ Tryz.underlying31 rfl (sizeLt _ XW.out) rfl ?_) | ((with_reducible refine @wpList_at _ _ _ _ _ _ _ (.load 3 (.tmp 29)) rfl ?_); refine @wpList_of_cell _ _ _ _ _ _ _ _ _ _ 3 (.tmp 29) rfl O 1 bx 2 rfl _ _ rfl _ P2.out _ Tryz.underlying3 rfl rfl ?_))
    go_ret2
    exact ⟨O.tch.grown (fun _ h => h.elim), .inl ⟨by rw [HB.out]; decide, by rw [HB.out]; rfl⟩⟩
  | false =>
  have hv := HB.out; rw [if_neg (show ¬ (!(false || false)) = false by decide)] at hv; replace HB := Lib.hid hv; clear hv
  go_wp2_with (first | ((with_reducible refine @wpList_at _ _ _ _ _ _ _ (.load 35 (.tmp 5)) rfl ?_); refine @wpList_of_whole _ _ _ _ _ _ _ _ _ _ 35 (.tmp 5) rfl O 0 bo rfl o.cells _ rfl _ Tryz.underlying35 rfl sizeOpt rfl ?_) | ((with_reducible refine @wpList_at _ _ _ _ _ _ _ (.load 9 (.tmp 21)) rfl ?_); refine @wpList_of_cell _ _ _ _ _ _ _ _ _ _ 9 (.tmp 21) rfl O 1 bx 0 rfl _ _ rfl _ P0.out _ Tryz.underlying9 rfl rfl ?_) | ((with_reducible refine @wpList_at _ _ _ _ _ _ _ (.load 31 (.tmp 3)) rfl ?_); refine @wpList_of_whole _ _ _ _ _ _ _ _ _ _ 31 (.tmp 3) rfl O 1 bx rfl x.cells _ rfl _ Tryz.underlying31 rfl (sizeLt _ XW.out) rfl ?_) | ((with_reducible refine @wpList_at _ _ _ _ _ _ _ (.load 3 (.tmp 29)) rfl ?_); refine @wpList_of_cell _ _ _ _ _ _ _ _ _ _ 3 (.tmp 29) rfl O 1 bx 2 rfl _ _ rfl _ P2.out _ Tryz.underlying3 rfl rfl ?_))
  refine (CS.out _ (O.tch.grown (fun _ h => h.elim))).mono ?_
  rintro e w ⟨rfl, g⟩
  replace O := O.call g
  clear g
  by_cases c1 : s = 0
  case neg =>
    have hv := HB.out; rw [if_pos c1] at hv; replace HB := Lib.hid hv; clear hv
    have d1 : (s != 0) = true := by simpa using c1
    have HC1 := Lib.hid c1
    clear c1
    go_wp2_with (first | ((with_reducible refine @wpList_at _ _ _ _ _ _ _ (.load 35 (.tmp 5)) rfl ?_); refine @wpList_of_whole _ _ _ _ _ _ _ _ _ _ 35 (.tmp 5) rfl O 0 bo rfl o.cells _ rfl _ Tryz.underlying35 rfl sizeOpt rfl ?_) | ((with_reducible refine @wpList_at _ _ _ _ _ _ _ (.load 9 (.tmp 21)) rfl ?_); refine @wpList_of_cell _ _ _ _ _ _ _ _ _ _ 9 (.tmp 21) rfl O 1 bx 0 rfl _ _ rfl _ P0.out _ Tryz.underlying9 rfl rfl ?_) | ((with_reducible refine @wpList_at _ _ _ _ _ _ _ (.load 31 (.tmp 3)) rfl ?_); refine @wpList_of_whole _ _ _ _ _ _ _ _ _ _ 31 (.tmp 3) rfl O 1 bx rfl x.cells _ rfl _ Tryz.underlying31 rfl (sizeLt _ XW.out) rfl ?_) | ((with_reducible refine @wpList_at _ _ _ _ _ _ _ (.load 3 (.tmp 29)) rfl ?_); refine @wpList_of_cell _ _ _ _ _ _ _ _ _ _ 3 (.tmp 29) rfl O 1 bx 2 rfl _ _ rfl _ P2.out _ Tryz.underlying3 rfl rfl ?_))
    go_ret2
    rw [← HB.out] at HC1 ⊢
    exact ⟨O.tch.grown (fun _ h => h.elim), .inl ⟨HC1.out, rfl⟩⟩
  subst c1
  have hv := HB.out; rw [if_neg (fun h => h rfl)] at hv; replace HB := Lib.hid hv; clear hv
  go_wp2_with (first | ((with_reducible refine @wpList_at _ _ _ _ _ _ _ (.load 35 (.tmp 5)) rfl ?_); refine @wpList_of_whole _ _ _ _ _ _ _ _ _ _ 35 (.tmp 5) rfl O 0 bo rfl o.cells _ rfl _ Tryz.underlying35 rfl sizeOpt rfl ?_) | ((with_reducible refine @wpList_at _ _ _ _ _ _ _ (.load 9 (.tmp 21)) rfl ?_); refine @wpList_of_cell _ _ _ _ _ _ _ _ _ _ 9 (.tmp 21) rfl O 1 bx 0 rfl _ _ rfl _ P0.out _ Tryz.underlying9 rfl rfl ?_) | ((with_reducible refine @wpList_at _ _ _ _ _ _ _ (.load 31 (.tmp 3)) rfl ?_); refine @wpList_of_whole _ _ _ _ _ _ _ _ _ _ 31 (.tmp 3) rfl O 1 bx rfl x.cells _ rfl _ Tryz.underlying31 rfl (sizeLt _ XW.out) rfl ?_) | ((with_reducible refine @wpList_at _ _ _ _ _ _ _ (.load 3 (.tmp 29)) rfl ?_); refine @wpList_of_cell _ _ _ _ _ _ _ _ _ _ 3 (.tmp 29) rfl O 1 bx 2 rfl _ _ rfl _ P2.out _ Tryz.underlying3 rfl rfl ?_))
  refine (CE.out _).mono ?_
  rintro e w ⟨rfl, g⟩
  replace O := O.call g
  clear g
  cases ex with
  | true =>
    have hv := HB.out; rw [if_pos rfl] at hv; replace HB := Lib.hid hv; clear hv
    go_wp2_with (first | ((with_reducible refine @wpList_at _ _ _ _ _ _ _ (.load 35 (.tmp 5)) rfl ?_); refine @wpList_of_whole _ _ _ _ _ _ _ _ _ _ 35 (.tmp 5) rfl O 0 bo rfl o.cells _ rfl _ Tryz.underlying35 rfl sizeOpt rfl ?_) | ((with_reducible refine @wpList_at _ _ _ _ _ _ _ (.load 9 (.tmp 21)) rfl ?_); refine @wpList_of_cell _ _ _ _ _ _ _ _ _ _ 9 (.tmp 21) rfl O 1 bx 0 rfl _ _ rfl _ P0.out _ Tryz.underlying9 rfl rfl ?_) | ((with_reducible refine @wpList_at _ _ _ _ _ _ _ (.load 31 (.tmp 3)) rfl ?_); refine @wpList_of_whole _ _ _ _ _ _ _ _ _ _ 31 (.tmp 3) rfl O 1 bx rfl x.cells _ rfl _ Tryz.underlying31 rfl (sizeLt _ XW.out) rfl ?_) | ((with_reducible refine @wpList_at _ _ _ _ _ _ _ (.load 3 (.tmp 29)) rfl ?_); refine @wpList_of_cell _ _ _ _ _ _ _ _ _ _ 3 (.tmp 29) rfl O 1 bx 2 rfl _ _ rfl _ P2.out _ Tryz.underlying3 rfl rfl ?_))
    go_ret2
    exact ⟨O.tch.grown (fun _ h => h.elim), .inl ⟨by rw [HB.out]; decide, by rw [HB.out]; rfl⟩⟩
  | false =>
  have hv := HB.out; rw [if_neg (by decide)] at hv; replace HB := Lib.hid hv; clear hv
  go_upto_region 10 with (first | ((with_reducible refine @wpList_at _ _ _ _ _ _ _ (.load 35 (.tmp 5)) rfl ?_); refine @wpList_of_whole _ _ _ _ _ _ _ _ _ _ 35 (.tmp 5) rfl O 0 bo rfl o.cells _ rfl _ Tryz.underlying35 rfl sizeOpt rfl ?_) | ((with_reducible refine @wpList_at _ _ _ _ _ _ _ (.load 9 (.tmp 21)) rfl ?_); refine @wpList_of_cell _ _ _ _ _ _ _ _ _ _ 9 (.tmp 21) rfl O 1 bx 0 rfl _ _ rfl _ P0.out _ Tryz.underlying9 rfl rfl ?_) | ((with_reducible refine @wpList_at _ _ _ _ _ _ _ (.load 31 (.tmp 3)) rfl ?_); refine @wpList_of_whole _ _ _ _ _ _ _ _ _ _ 31 (.tmp 3) rfl O 1 bx rfl x.cells _ rfl _ Tryz.underlying31 rfl (sizeLt _ XW.out) rfl ?_) | ((with_reducible refine @wpList_at _ _ _ _ _ _ _ (.load 3 (.tmp 29)) rfl ?_); refine @wpList_of_cell _ _ _ _ _ _ _ _ _ _ 3 (.tmp 29) rfl O 1 bx 2 rfl _ _ rfl _ P2.out _ Tryz.underlying3 rfl rfl ?_))
  replace O := O.drew
  have H0 := Lib.hid (O.tch.size)
  refine wp_region_J (rdf [(0, bo, 0, o.cells), (1, bx, 0, x.cells)]) [2, 3, 5] (by kernel_rfl) (RdA.cons (O.row_of (g := bo) (T := 35) (by simp)) (RdA.cons (O.row_of (g := bx) (T := 31) (by simp)) RdA.nil)) (fun hH => ?_)
  refine wpAnyJ_read 0 (i := 0) (v := (.agg (o.cells).toArray)) rfl rfl (by kernel_rfl) (by kernel_rfl) (by kernel_rfl) (fun _ _ _ h => h) (by rfl) (yieldsIf_load_mid (by rfl) 35 _ rfl bo 0 rfl o.cells _ (fun W h => h) Tryz.underlying35 rfl sizeOpt) (Still.all hH) ?_
  simp only [Act.put, List.getElem_toArray, List.getElem_cons_succ, List.getElem_cons_zero, List.setIfInBounds_toArray, List.set_cons_zero, List.set_cons_succ]
  refine wpAnyJ_read 1 (i := 1) (v := (.agg (x.cells).toArray)) rfl rfl (by kernel_rfl) (by kernel_rfl) (by kernel_rfl) (fun _ _ _ h => h) (by rfl) (yieldsIf_load_mid (by rfl) 31 _ rfl bx 0 rfl x.cells _ (fun W h => h) Tryz.underlying31 rfl (sizeLt _ XW.out)) (Still.all hH) ?_
  simp only [Act.put, List.getElem_toArray, List.getElem_cons_succ, List.getElem_cons_zero, List.setIfInBounds_toArray, List.set_cons_zero, List.set_cons_succ]
  refine wpAnyJ_ready (rs := [2]) (by kernel_rfl) (by simp) ?_
  refine AllJ.keep rfl (by rfl) (by rfl) (fun K hK => ?_) (AllJ.nil)
  refine wp_call 73 _ _ (by rfl) (enters Tryz.func73 (by kernel_rfl) rfl) (by rfl) (CC1.out _ (O.tch.grown (fun _ h => h.elim))) ?_
  rintro e u1 ⟨y, rfl, hy, iy, g1⟩
  refine ⟨_, rfl, ?_⟩
  replace O := O.call g1
  have YW := Lib.hid (hy.wf HFI.out.wf)
  have HY1 := Lib.hid hy; have HI1 := Lib.hid iy; have HZ1 := Lib.hid g1.size
  have G1 := Lib.hid (O.tch.grown (fun _ h => h.elim))
  replace O := OwF.start (fun _ => False) u1
  clear hy iy
  simp only [Act.put, List.getElem_toArray, List.getElem_cons_succ, List.getElem_cons_zero, List.setIfInBounds_toArray, List.set_cons_zero, List.set_cons_succ]
  refine hK.out _ _ (RdA.grown hH g1) ?_
  replace hH := RdA.grown hH g1
  clear hK K
  refine wpAnyJ_ready (rs := [3]) (by kernel_rfl) (by simp) ?_
  refine AllJ.keep rfl (by rfl) (by rfl) (fun K hK => ?_) (AllJ.nil)
  refine wp_of_slice1 70 _ rfl y.cells rfl 31 _ 200 Tryz.underlying70 light_inf2 (y.cells_length YW.out) (by decide) O ?_
  clear O
  intro b8 u2 g2 O
  simp only [Act.put, List.getElem_toArray, List.getElem_cons_succ, List.getElem_cons_zero, List.setIfInBounds_toArray, List.set_cons_zero, List.set_cons_succ]
  refine hK.out _ _ (RdA.grown hH g2) ?_
  replace hH := RdA.grown hH g2
  clear hK K
  refine wpAnyJ_pure (i := 4) (v := (.agg ([.float .f64 o.level, .float .f64 o.period, .float .f64 o.drift, .slice (some ⟨b8, 0, none⟩) 1 1, .slice none 0 0, .int .i64 0, .int .i64 0, .int .i64 (-1)] : List Value).toArray)) rfl (by kernel_rfl) (by kernel_rfl) (by kernel_rfl) (fun _ _ _ h => h) (by rfl) (Or.inl ⟨by rfl, fun W _ => run_build_op2 125 _ rfl [(0, .agg o.cells.toArray), (1, .slice (some ⟨b8, 0, none⟩) 1 1), (5, .int .i64 (-1))] (by kernel_rfl) [.float .f64 o.level, .float .f64 o.period, .float .f64 o.drift, .slice (some ⟨b8, 0, none⟩) 1 1, .slice none 0 0, .int .i64 0, .int .i64 0, .int .i64 (-1)] (bClient o.level o.period o.drift (some ⟨b8, 0, none⟩) 1 1)⟩) (Still.all hH) ?_
  simp only [Act.put, List.getElem_toArray, List.getElem_cons_succ, List.getElem_cons_zero, List.setIfInBounds_toArray, List.set_cons_zero, List.set_cons_succ]
  refine wpAnyJ_ready (rs := [5]) (by kernel_rfl) (by simp) ?_
  refine AllJ.keep rfl (by rfl) (by rfl) (fun K hK => ?_) (AllJ.nil)
  refine wp_of_box 125 _ rfl [.float .f64 o.level, .float .f64 o.period, .float .f64 o.drift, .slice (some ⟨b8, 0, none⟩) 1 1, .slice none 0 0, .int .i64 0, .int .i64 0, .int .i64 (-1)] rfl O ?_
  clear O
  intro b9 u3 g3 O
  skip
  simp only [Act.put, List.getElem_toArray, List.getElem_cons_succ, List.getElem_cons_zero, List.setIfInBounds_toArray, List.set_cons_zero, List.set_cons_succ]
  refine hK.out _ _ (RdA.grown hH g3) ?_
  replace hH := RdA.grown hH g3
  clear hK K
  refine wpAnyJ_pure (i := 6) (v := (.pointer (some ⟨b9, 0, none⟩))) rfl (by kernel_rfl) (by kernel_rfl) (by kernel_rfl) (fun _ _ _ h => h) (by rfl) (Or.inl ⟨by rfl, fun W _ => by go_simp⟩) (Still.all hH) ?_
  simp only [Act.put, List.getElem_toArray, List.getElem_cons_succ, List.getElem_cons_zero, List.setIfInBounds_toArray, List.set_cons_zero, List.set_cons_succ]
  refine wpAnyJ_pure (i := 7) (v := (.int .i64 0)) rfl (by kernel_rfl) (by kernel_rfl) (by kernel_rfl) (fun _ _ _ h => h) (by rfl) (Or.inl ⟨by rfl, fun W _ => by go_simp⟩) (Still.all hH) ?_
  simp only [Act.put, List.getElem_toArray, List.getElem_cons_succ, List.getElem_cons_zero, List.setIfInBounds_toArray, List.set_cons_zero, List.set_cons_succ]
  refine wpAnyJ_done (by kernel_rfl) ?_ _
  clear hH
  go_wp2_with fail
  go_ret2
  have g9 := Lib.grownBy_trans G1.out (O.tch.grown (fun _ h => h.elim))
  have hy2 := HY1.out.up (O.tch.grown (fun _ h => h.elim)) (Nat.le_refl _)
  have zz := H0.out; have z1 := HZ1.out; have z3 := O.tch.size
  have l9 := (O.lie 0 rfl).resolve_right id; have l8 := (O.lie 1 rfl).resolve_right id
  have hrl := HRL.out
  have e8 : ∀ b, (Value.slice (some ⟨b8, 0, none⟩) 1 1).ownBlock = some b → b = b8 := fun b e => by injection e with e; exact e.symm
  have hft : ∀ b, Foot b9 (.slice (some ⟨b8, 0, none⟩) 1 1) (.slice none 0 0) b → u1.heap.size ≤ b := fun b hb => by
    rcases hb with hb | hb | hb
    · omega
    · have := e8 b hb; omega
    · cases hb
  refine ⟨g9, .inr ⟨HB.out, b9, .slice (some ⟨b8, 0, none⟩) 1 1, fun b => (w.drew.heap.size ≤ b ∧ b < u1.heap.size) ∨ b = 1, rfl, ⟨O.at_ 0 rfl, LRow.one (O.at_ 1 rfl) (hy2) (HI1.out.mono (fun b hb => .inl hb)) HFI.out, LRow.nil _ _, ?_, by simp [Value.ownBlock], fun b _ => by simp [Value.ownBlock], ?_, new_ok HO.out (HSK.out (by trivial))⟩, ?_, ?_, .inr rfl⟩⟩
  · intro e
    have := e8 b9 e
    exact O.ne (i := 0) (j := 1) rfl rfl (by decide) this
  · intro b hb
    rcases hb with hb | hb
    · exact ⟨by omega, by omega, fun e => by have := e8 b e; omega, by simp [Value.ownBlock]⟩
    · exact ⟨by omega, by omega, fun e => by have := e8 b e; omega, by simp [Value.ownBlock]⟩
  · intro b hb
    have := hft b hb; omega
  · intro b hb
    rcases hb with hb | hb
    · exact .inl (by omega)
    · exact .inr ⟨by omega, fun hf => by have := hft b hf; omega⟩

set_option maxHeartbeats 8000000 in
theorem alive16_ok (w0 : World) (hR : RowAt w0 1 0 (wCells rootsL)) : Calls Tryz.prog 33 #[] w0 fun e w' => e = .returned (.bool true) ∧ w0.grownBy w' none := by
  have C1 := Lib.hid (fun w => one16_ok 1 z32 w (by decide) rfl)
  have C2 := Lib.hid (fun w => one16_ok 4 z32 w (by decide) rfl)
  have CO := Lib.hid (fun w => options_ok w)
  have HR := Lib.hid hR
  clear hR
  go_enter Tryz.func33, Tryz.ntmps33
  go_wp2_with (refine wpList_build_eq rfl 23 _ rfl [] (by kernel_rfl) ZH bHash0 ?_)
  refine (C1.out _).mono ?_
  rintro e w1 ⟨xa, rfl, ha, _, g1⟩
  have HA := Lib.hid (show xa.of w1.heap.size w1 a16 from ha)
  have G1 := Lib.hid g1
  clear ha g1
  go_wp2_with fail
  refine (CO.out _).mono ?_
  rintro e w2 ⟨rfl, g2⟩
  have G2 := Lib.hid (Lib.grownBy_trans G1.out g2)
  have CN := Lib.hid (New_ok2 xa a16 4624633867356078080 opt16 w2 (HA.out.up g2 (Nat.le_refl _)) a16_fit (by decide) opt16_wf (HR.out.grown G2.out (by simp)))
  clear g2
  go_wp2_with fail
  refine CN.out.mono ?_
  rintro e w3 ⟨g3, hN⟩
  rcases hN with ⟨h, _⟩ | ⟨_, p, sv, I, rfl, r3, f3, i3, ir⟩
  · exact absurd new16 h
  have G3 := Lib.hid (Lib.grownBy_trans G2.out g3)
  have CG := Goal_ok r3 4
  rw [goal16] at CG
  replace CG := Lib.hid CG
  have z2 : w0.heap.size ≤ w2.heap.size := G2.out.size
  have F3 := Lib.hid (show ∀ b, Foot p sv (.slice none 0 0) b → w0.heap.size ≤ b from fun b hb => Nat.le_trans z2 (f3 b hb))
  have IR := Lib.hid ir
  clear g3 r3 f3 i3 ir z2
  go_wp2_with fail
  refine CG.out.mono ?_
  rintro e w4 ⟨rfl, sv4, pv4, r4, t4, f4⟩
  have CW := Lib.hid (Want_ok r4)
  have R4 := Lib.hid r4; have T4 := Lib.hid ((Tch.of_grown (F := fun _ => False) G3.out).trans t4 (fun b hb hl => absurd (F3.out b hb) (by omega)))
  have F4 := Lib.hid (show ∀ b, Foot p sv4 pv4 b → w0.heap.size ≤ b from fun b hb => (f4 b hb).elim (F3.out b) (fun h => Nat.le_trans G3.out.size h))
  clear r4 t4 f4
  go_wp2_with fail
  refine CW.out.mono ?_
  rintro e w5 ⟨rfl, g5⟩
  have R5 := Lib.hid (R4.out.grown g5); have T5 := Lib.hid (T4.out.trans (Tch.of_grown (F := fun _ => False) g5) (fun _ h _ => h))
  clear g5
  go_wp2_with (refine wpList_build_eq rfl 23 _ rfl [] (by kernel_rfl) ZH bHash0 ?_)
  refine (C2.out _).mono ?_
  rintro e w6 ⟨xb, rfl, hb, ib, g6⟩
  have R6 := Lib.hid (R5.out.grown g6); have T6 := Lib.hid (T5.out.trans (Tch.of_grown (F := fun _ => False) g6) (fun _ h _ => h))
  have G6 := Lib.hid (T6.out.grown (fun _ h => h.elim))
  have CV := Give_ok R6.out xb b16 hb b16_fit (fun b => w5.heap.size ≤ b) ib (fun b hb hf => by have := R5.out.lt hf; omega) 4631530004285489152 (by decide) (HR.out.grown G6.out (by simp)) IR.out (by decide)
  rw [give16] at CV
  replace CV := Lib.hid CV
  clear hb ib g6
  go_wp2_with fail
  refine CV.out.mono ?_
  rintro e w7 ⟨rfl, I7, _, _, sv7, pv7, r7, t7, f7⟩
  have R7 := Lib.hid r7
  have T7 := Lib.hid (T6.out.trans t7 (fun b hb hl => absurd (F4.out b hb) (by omega)))
  have C7 := Lib.hid (Want_ok r7)
  clear r7 t7 f7
  go_wp2_with fail
  refine C7.out.mono ?_
  rintro e w8 ⟨rfl, g8⟩
  have R8 := Lib.hid (R7.out.grown g8); have T8 := Lib.hid (T7.out.trans (Tch.of_grown (F := fun _ => False) g8) (fun _ h _ => h))
  have C8 := Lib.hid (Store_ok R8.out)
  clear g8
  go_wp2_with fail
  refine C8.out.mono ?_
  rintro e w9 ⟨a9, n9, k9, rfl, g9, J9, _, hl9, _⟩
  obtain ⟨xs9, hs9, hx9, _⟩ := hl9
  have hn9 : n9 = 2 := by
    obtain ⟨a, c, e, _⟩ := hs9.shape
    have e2 := (Value.slice.inj e).2.1
    clear e
    rw [e2, hx9]; simp only [List.length_cons, List.length_nil]
  have d9 : ((n9 : Int) == 2) = true := by rw [hn9]; rfl
  clear hn9
  have T9 := Lib.hid (T8.out.trans (Tch.of_grown (F := fun _ => False) g9) (fun _ h _ => h))
  have C9 := Lib.hid (Fetches_ok (R8.out.grown g9))
  clear g9 hs9 hx9
  go_wp2_with fail
  refine C9.out.mono ?_
  rintro e w10 ⟨rfl, g10⟩
  have T10 := Lib.hid (T9.out.trans (Tch.of_grown (F := fun _ => False) g10) (fun _ h _ => h))
  clear g10
  go_wp2_with fail
  go_ret
  exact ⟨rfl, T10.out.grown (fun _ h => h.elim)⟩

end Go.Proofs.YtdhchehagfmjcaaGreatDoor
