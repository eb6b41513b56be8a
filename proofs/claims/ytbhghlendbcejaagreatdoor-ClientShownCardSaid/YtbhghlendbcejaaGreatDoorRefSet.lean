/- Walks: nuncioref06.Set, Commit, Light. Walks: nuncioref06.Commit. Walk: nunciolaw06.wanted. -/
import Derived.Test.YtbhghlendbcejaaGreatDoorRefD
import Derived.Test.YtbhghlendbcejaaGreatDoorEncode
import Derived.Test.YtbhghlendbcejaaGreatDoorLaw
namespace Go.Proofs.YtbhghlendbcejaaGreatDoor
open Go.RowKit
set_option maxRecDepth 100000

/-- the document's bytes of validators: of no more than 65 -/
def refSet (l : List ValD) : List UInt8 := be64 3 ++ be64 l.length ++ encVals (l.take 65)
theorem refSet_ok {l : List ValD} (h : okSet l = true) : refSet l = encSet l := by
  have : l.length ≤ 64 := of_decide_eq_true h
  unfold refSet encSet; rw [List.take_of_length_le (by omega)]
theorem refSet_len (l : List ValD) : (refSet l).length ≤ 1056 := by
  unfold refSet
  have : (l.take 65).length ≤ 65 := by rw [List.length_take]; omega
  simp only [List.length_append, be64_length, encVals_length]; omega
def refCommit (c : CommitD) : List UInt8 := be64 4 ++ be64 c.height ++ be64 c.round ++ c.block ++ be64 c.seals.length ++ encSeals (c.seals.take 65)
theorem refCommit_ok {c : CommitD} (h : okCommitN c = true) : refCommit c = encCommit c := by
  simp only [okCommitN, Bool.and_eq_true, decide_eq_true_eq] at h
  unfold refCommit encCommit; rw [List.take_of_length_le (by omega)]
theorem refCommit_len (c : CommitD) (hc : c.wf) : (refCommit c).length ≤ 1624 := by
  unfold refCommit
  have : (c.seals.take 65).length ≤ 65 := by rw [List.length_take]; omega
  simp only [List.length_append, be64_length, encSeals_length, hc.block]; omega
def refLight (l : LightD) : List UInt8 := be64 5 ++ encHeader l.header ++ refCommit l.commit ++ refSet l.set ++ refSet l.next
theorem refLight_ok {l : LightD} (h : okLight l = true) : refLight l = encLight l := by
  simp only [okLight, Bool.and_eq_true] at h
  unfold refLight encLight
  rw [refCommit_ok h.2.1, refSet_ok h.2.2.1, refSet_ok h.2.2.2]

theorem ret_two {s : Value} {a b : Bool} (h : a = b) : Ending.returned (.tuple #[s, .bool a]) = .returned (.tuple #[s, .bool b]) := by rw [h]

set_option maxHeartbeats 1000000 in
theorem RSet {B : Nat} (v : Value) (ds : List ValD) (w : World) (hr : RdS B w v ds.length 2 (setCells ds)) (hB : B ≤ w.heap.size) (hw : ∀ d ∈ ds, d.wf) :
    Calls Tryz.prog 154 #[v] w (BytesOk (refSet ds) (okSet ds) w) := by
  obtain ⟨ao, c, rfl, hle, hcm, _, hrow⟩ := hr
  have Hrow := Lib.hid hrow; have HB := Lib.hid hB; have Hw := Lib.hid hw
  unfold maxLen at hcm
  clear hrow hB hw
  go_enter Tryz.func154, Tryz.ntmps154
  go_wp2_with fail
  refine (MNumber 3 _).mono ?_
  rintro e w1 ⟨a1, n1, k1, rfl, o1, b1⟩
  have O1 := Lib.hid o1; have Bel := Lib.hid b1; clear o1 b1
  go_wp2_with fail
  refine (MNumber _ _).mono ?_
  rintro e w2 ⟨a2, n2, k2, rfl, o2, b2⟩
  have OR := Lib.hid o2.rd; have OB := Lib.hid (O1.out.below b2); replace Bel := Lib.hid (Bel.out.trans (b2.mono Bel.out.size)); clear o2 b2 O1
  go_wp2_with (refine wpList_app rfl _ _ rfl rfl OB.out rfl OR.out ?_ Bel.out.size ?_; (simp only [be64_length]; omega); intro a3 n3 k3 w3 o b; replace OB := Lib.hid o; replace Bel := Lib.hid (Bel.out.trans b); clear o b OR)
  go_loopw [4, 5] (fun x i wr => ∃ k : Nat, k ≤ ds.length ∧ k ≤ 65 ∧ i = .int .i64 k ∧ OwnB w.heap.size x (be64 3 ++ be64 ds.length ++ encVals (ds.take k)) wr ∧ Below w.heap.size w wr) (fun _ i _ => ds.length - (intOf i).toNat)
  case atStart => exact ⟨0, Nat.zero_le _, Nat.zero_le _, rfl, by simpa [encVals] using OB.out, Bel.out⟩
  case round =>
    obtain ⟨k, hk, hk65, rfl, ho, hb⟩ := hrel
    obtain ⟨xa, xn, xk, rfl⟩ := ho.shape
    have Ho := Lib.hid ho; have Hb := Lib.hid hb; clear ho hb
    by_cases hlt : k < ds.length
    · by_cases h64 : k ≤ 64
      · have d64 : decide ((k : Int) ≤ 64) = true := by simp; omega
        rcases Hrow.out with h0 | ⟨g, o, rfl, hg, hrow⟩
        · omega
        have R := Lib.hid (RowAt.elem (hrow.below Hb.out (by have := HB.out; omega)) (fun d _ => d.cells_length) k hlt)
        obtain ⟨d, hd⟩ : ∃ d, d = ds[k] := ⟨_, rfl⟩
        rw [← hd] at R
        have Hwd := Lib.hid (Hw.out d (by rw [hd]; exact List.getElem_mem _))
        have Ht := Lib.hid (encVals_take ds k hlt)
        rw [← hd] at Ht
        have Hl := Lib.hid (show (be64 3 ++ be64 ds.length ++ encVals (ds.take k)).length ≤ 2000 by
          have : (ds.take k).length ≤ 65 := by rw [List.length_take]; omega
          simp only [List.length_append, be64_length, encVals_length]; omega)
        have Hg := Lib.hid (show g < w.heap.size by have := HB.out; omega)
        clear hd hrow hg
        have c0 := R.out 0 _ rfl; rw [Nat.add_zero] at c0
        go_wp2_with fail
        refine (MWord _ _ Hwd.out.1.1 Hwd.out.1.2).mono ?_
        rintro e w4 ⟨a4, n4, k4, rfl, o4, b4⟩
        have OR := Lib.hid o4.rd; have OB := Lib.hid (Ho.out.below b4); have Bel := Lib.hid (b4.mono Hb.out.size); clear o4 b4 c0
        go_wp2_with (refine wpList_app rfl _ _ rfl rfl OB.out rfl OR.out ?_ (Nat.le_trans Hb.out.size Bel.out.size) ?_; (rw [be64_length]; have := Hl.out; omega); intro a5 n5 k5 w5 o b; replace OB := Lib.hid o; replace Bel := Lib.hid (Bel.out.trans b); clear o b OR; have c1 := (R.out.below Bel.out Hg.out) 1 _ rfl)
        refine (MNumber _ _).mono ?_
        rintro e w6 ⟨a6, n6, k6, rfl, o6, b6⟩
        have OR := Lib.hid o6.rd; replace OB := Lib.hid (OB.out.below b6); replace Bel := Lib.hid (Bel.out.trans (b6.mono (Nat.le_trans Hb.out.size Bel.out.size))); clear o6 b6 c1
        go_wp2_with (refine wpList_app rfl _ _ rfl rfl OB.out rfl OR.out ?_ (Nat.le_trans Hb.out.size Bel.out.size) ?_; (rw [List.length_append, be64_length, be64_length]; have := Hl.out; omega); intro a7 n7 k7 w7 o b; replace OB := Lib.hid o; replace Bel := Lib.hid (Bel.out.trans b); clear o b OR)
        refine ⟨⟨k + 1, by omega, by omega, by go_num, ?_, Hb.out.trans Bel.out⟩, by simp [intOf]; omega⟩
        rw [Ht.out, ← List.append_assoc, ← List.append_assoc]; exact OB.out
      · have d64 : decide ((k : Int) ≤ 64) = false := by simp; omega
        have ok : decide ((ds.length : Int) ≤ 64) = false := by simp; omega
        have Hok := Lib.hid (show false = okSet ds by unfold okSet; rw [decide_eq_false (by omega)])
        obtain rfl : k = 65 := by omega
        go_wp2_with fail
        go_ret2
        exact ⟨_, _, _, ret_two Hok.out, Ho.out, Hb.out⟩
    · obtain rfl : k = ds.length := by omega
      have Hfull := Lib.hid (show refSet ds = be64 3 ++ be64 ds.length ++ encVals (ds.take ds.length) by unfold refSet; rw [List.take_of_length_le hk65, List.take_of_length_le (Nat.le_refl _)])
      by_cases h64 : ds.length ≤ 64
      · have ok : decide ((ds.length : Int) ≤ 64) = true := by simp; omega
        have Hok := Lib.hid (show true = okSet ds by unfold okSet; rw [decide_eq_true h64])
        go_wp2_with fail
        go_ret2
        exact ⟨_, _, _, ret_two Hok.out, by rw [Hfull.out]; exact Ho.out, Hb.out⟩
      · have ok : decide ((ds.length : Int) ≤ 64) = false := by simp; omega
        have Hok := Lib.hid (show false = okSet ds by unfold okSet; rw [decide_eq_false h64])
        go_wp2_with fail
        go_ret2
        exact ⟨_, _, _, ret_two Hok.out, by rw [Hfull.out]; exact Ho.out, Hb.out⟩

set_option maxHeartbeats 2000000 in
theorem RCommit {B : Nat} (c : CommitD) (cs : List Value) (w : World) (hr : c.rep B w cs) (hB : B ≤ w.heap.size) (hc : c.wf) :
    Calls Tryz.prog 81 #[.agg cs.toArray] w (BytesOk (refCommit c) (okCommitN c) w) := by
  obtain ⟨h0, h1⟩ := commit_cells hr
  have hblock := commit_block hr hc
  obtain ⟨sl, hsl, h34⟩ := commit_seals hr hc
  obtain ⟨ao, cp, rfl, hle, hcm, _, hrow⟩ := hsl
  unfold maxLen at hcm
  obtain ⟨W, hW, hblk, _, _, hb, hsz⟩ := box_as w cs 28
  have HW := Lib.hid hW; have Bk := Lib.hid (show Blk W w.heap.size cs 28 from hblk)
  have HBel := Lib.hid hb; have HS := Lib.hid hsz; have HB := Lib.hid hB
  have H0 := Lib.hid h0; have H1 := Lib.hid h1; have H34 := Lib.hid h34; have Hblock := Lib.hid hblock; have Hc := Lib.hid hc
  have Hrow : Hid ((c.seals.length = 0) ∨ ∃ g o, ao = some ⟨g, o, none⟩ ∧ g < w.heap.size ∧ RowAt W g o (sealCells c.seals)) := by
    rcases hrow with h | ⟨g, o, e, hg, hr⟩
    · exact Lib.hid (Or.inl h)
    · exact Lib.hid (Or.inr ⟨g, o, e, by omega, hr.below hb (by omega)⟩)
  clear hW hblk hb hsz h0 h1 hblock h34 hr hc hrow hB
  have c0 := Bk.out.row 0 _ H0.out; rw [Nat.zero_add] at c0
  go_enter Tryz.func81, Tryz.ntmps81
  go_upto_region 1 with (fail)
  rw [HW.out]
  clear HW
  go_cut [4] from 7 (fun s4 w' => s4 = .bool (okCommitN c) ∧ W = w')
  case first =>
    have c1 := Bk.out.row 1 _ H1.out; rw [Nat.zero_add] at c1
    have c34 := Bk.out.row 34 _ H34.out; rw [Nat.zero_add] at c34
    go_wp2_with fail
    refine (in_any _ _ _ _).mono ?_; rintro e w' ⟨rfl, rfl⟩
    cases h1 : inR c.height 1 1099511627776
    · have e := Lib.hid (show false = okCommitN c by simp [okCommitN, okCommit, h1]); clear h1
      go_wp2_with fail
      go_meet
      case rel => exact ⟨val_bool e.out, rfl⟩
    · have H1' := Lib.hid h1; clear h1
      go_wp2_with fail
      refine (in_any _ _ _ _).mono ?_; rintro e w' ⟨rfl, rfl⟩
      cases h2 : inR c.round 0 1048576
      · have e := Lib.hid (show false = okCommitN c by simp [okCommitN, okCommit, h2]); clear h2
        go_wp2_with fail
        go_meet
        case rel => exact ⟨val_bool e.out, rfl⟩
      · have H2' := Lib.hid h2; clear h2
        by_cases h3 : c.seals.length ≤ 64
        · have d : decide ((c.seals.length : Int) ≤ 64) = true := by simp; omega
          have e := Lib.hid (show true = okCommitN c by simp [okCommitN, okCommit, H1'.out, H2'.out, h3])
          go_wp2_with fail
          go_meet
          case rel => exact ⟨val_bool e.out, rfl⟩
        · have d : decide ((c.seals.length : Int) ≤ 64) = false := by simp; omega
          have e := Lib.hid (show false = okCommitN c by simp [okCommitN, h3])
          go_wp2_with fail
          go_meet
          case rel => exact ⟨val_bool e.out, rfl⟩
  case rest =>
  obtain ⟨rfl, rfl⟩ := hcut
  go_upto_region 2 with (fail)
  go_cut [5] from 21 (fun s5 w' => OwnB (w.heap.size + 1) s5 (be64 4 ++ be64 c.height) w' ∧ Below (w.heap.size + 1) W w')
  case first =>
    have hs1 : w.heap.size + 1 ≤ W.drew.heap.size := Nat.le_of_eq HS.out.symm
    go_region_held3 (fun w' => w'.cell? ⟨w.heap.size, 0, none⟩ = some (.int .i64 c.height)) (first | assumption) (first | (go_at_call 119; refine (MNumber 4 W.drew).mono ?_; rintro e w1 ⟨a1, n1, k1, rfl, o1, b1⟩; have hk1 := cell_keep (w := W.drew) c0 b1; have hs2 := Nat.le_trans hs1 b1.size) | (go_at_call 119; refine (MNumber c.height w1).mono ?_; rintro e w2 ⟨a2, n2, k2, rfl, o2, b2⟩; have hk2 := cell_keep hk1 b2; have hs3 := Nat.le_trans hs2 b2.size) | (refine step_app (by rfl) _ _ (by rfl) (by rfl) ((o1.below b2).mono hs1) (by rfl) o2.rd ?_ hs3 ?_; (rw [be64_length, be64_length]; omega); intro a3 n3 k3 w3 o3 b3; have hk3 : w3.cell? ⟨w.heap.size, 0, none⟩ = some (.int .i64 c.height) := (b3.cell (p := ⟨w.heap.size, 0, none⟩) (Nat.lt_succ_self _)).trans hk2))
    go_wp2
    go_meet
    case rel => exact ⟨o3, ((show Below (w.heap.size + 1) W W.drew from (Below.refl _ _).drew).trans ((b1.mono hs1).trans (b2.mono hs2))).trans b3⟩
  case rest =>
  obtain ⟨o, b⟩ := hcut
  obtain ⟨a, n, k, rfl⟩ := o.shape
  have OB := Lib.hid o; have Bel := Lib.hid b; clear o b c0
  have Z := Lib.hid (show w.heap.size + 1 ≤ wc.heap.size from Nat.le_trans (Nat.le_of_eq HS.out.symm) Bel.out.size)
  have cc := (Bk.out.below Bel.out (Nat.lt_succ_self _)).row 1 _ H1.out; rw [Nat.zero_add] at cc
  go_wp2_with fail
  refine (MNumber _ _).mono ?_
  rintro e w1 ⟨a1, n1, k1, rfl, o, b⟩
  have OR := Lib.hid o.rd; replace OB := Lib.hid (OB.out.below b); replace Bel := Lib.hid (Bel.out.trans (b.mono Z.out)); replace Z := Lib.hid (Nat.le_trans Z.out b.size); clear o b cc
  have HR : True := trivial
  go_wp2_with (first | (refine wpList_app rfl _ _ rfl rfl OB.out rfl OR.out ?_ Z.out ?_; (simp only [List.length_append, be64_length]; omega); intro a2 n2 k2 w2 o b; replace OB := Lib.hid o; replace Bel := Lib.hid (Bel.out.trans b); replace Z := Lib.hid (Nat.le_trans Z.out b.size); clear o b OR; have HR := Lib.hid (show RowAt w2 w.heap.size 2 (Lib.byteCells c.block) by have := (Bk.out.below Bel.out (Nat.lt_succ_self _)).row.part 2 32; rwa [Hblock.out, Nat.zero_add] at this)) | (refine wpList_load_part rfl 23 _ rfl w.heap.size 2 rfl (Lib.byteCells c.block) _ HR.out Tryz.underlying23 rfl (hash_size _ Hc.out.block) ?_))
  refine (MHash _ _ Hc.out.block).mono ?_
  rintro e w1 ⟨a1, n1, k1, rfl, o, b⟩
  have OR := Lib.hid o.rd; replace OB := Lib.hid (OB.out.below b); replace Bel := Lib.hid (Bel.out.trans (b.mono Z.out)); replace Z := Lib.hid (Nat.le_trans Z.out b.size); clear o b HR
  go_wp2_with (refine wpList_app rfl _ _ rfl rfl OB.out rfl OR.out ?_ Z.out ?_; (simp only [List.length_append, be64_length, Hc.out.block]; omega); intro a2 n2 k2 w2 o b; replace OB := Lib.hid o; replace Bel := Lib.hid (Bel.out.trans b); replace Z := Lib.hid (Nat.le_trans Z.out b.size); clear o b OR; have cc := (Bk.out.below Bel.out (Nat.lt_succ_self _)).row 34 _ H34.out; rw [Nat.zero_add] at cc)
  refine (MNumber _ _).mono ?_
  rintro e w1 ⟨a1, n1, k1, rfl, o, b⟩
  have OR := Lib.hid o.rd; replace OB := Lib.hid (OB.out.below b); replace Bel := Lib.hid (Bel.out.trans (b.mono Z.out)); replace Z := Lib.hid (Nat.le_trans Z.out b.size); clear o b cc
  go_wp2_with (refine wpList_app rfl _ _ rfl rfl OB.out rfl OR.out ?_ Z.out ?_; (simp only [List.length_append, be64_length, Hc.out.block]; omega); intro a2 n2 k2 w2 o b; replace OB := Lib.hid o; replace Bel := Lib.hid (Bel.out.trans b); replace Z := Lib.hid (Nat.le_trans Z.out b.size); clear o b OR)
  go_loopw [5, 6] (fun x i wr => ∃ k : Nat, k ≤ c.seals.length ∧ k ≤ 65 ∧ i = .int .i64 k ∧ OwnB (w.heap.size + 1) x (be64 4 ++ be64 c.height ++ be64 c.round ++ c.block ++ be64 c.seals.length ++ encSeals (c.seals.take k)) wr ∧ Below (w.heap.size + 1) W wr) (fun _ i _ => c.seals.length - (intOf i).toNat)
  case atStart => exact ⟨0, Nat.zero_le _, Nat.zero_le _, rfl, by simpa [encSeals] using OB.out, Bel.out⟩
  case round =>
    obtain ⟨k, hk, hk65, rfl, ho, hb⟩ := hrel
    obtain ⟨xa, xn, xk, rfl⟩ := ho.shape
    have Ho := Lib.hid ho; have Hb := Lib.hid hb; clear ho hb
    have Zr := Lib.hid (show w.heap.size + 1 ≤ wr.heap.size from Nat.le_trans (Nat.le_of_eq HS.out.symm) Hb.out.size)
    have cc := (Bk.out.below Hb.out (Nat.lt_succ_self _)).row 34 _ H34.out; rw [Nat.zero_add] at cc
    by_cases hlt : k < c.seals.length
    · by_cases h64 : k ≤ 64
      · have d64 : decide ((k : Int) ≤ 64) = true := by simp; omega
        rcases Hrow.out with h0 | ⟨g, o, rfl, hg, hrow⟩
        · omega
        have R := Lib.hid (RowAt.elem (hrow.below Hb.out (by omega)) (fun d _ => d.cells_length) k hlt)
        obtain ⟨d, hd⟩ : ∃ d, d = c.seals[k] := ⟨_, rfl⟩
        rw [← hd] at R
        have Hwd := Lib.hid (Hc.out.seals d (by rw [hd]; exact List.getElem_mem _))
        have Ht := Lib.hid (encSeals_take c.seals k hlt)
        rw [← hd] at Ht
        have Hl := Lib.hid (show (be64 4 ++ be64 c.height ++ be64 c.round ++ c.block ++ be64 c.seals.length ++ encSeals (c.seals.take k)).length ≤ 2000 by
          have : (c.seals.take k).length ≤ 65 := by rw [List.length_take]; omega
          simp only [List.length_append, be64_length, encSeals_length, Hc.out.block]; omega)
        have Hg := Lib.hid (show g < w.heap.size + 1 by omega)
        clear hd hrow hg
        have x0 := R.out 0 _ rfl; rw [Nat.add_zero] at x0
        go_wp2_with fail
        refine (MWord _ _ Hwd.out.1.1 Hwd.out.1.2).mono ?_
        rintro e w4 ⟨a4, n4, k4, rfl, o4, b4⟩
        have OR := Lib.hid o4.rd; have OB := Lib.hid (Ho.out.below b4); have Bel := Lib.hid (b4.mono Zr.out); have Z := Lib.hid (Nat.le_trans Zr.out b4.size); clear o4 b4 x0 cc
        go_wp2_with (refine wpList_app rfl _ _ rfl rfl OB.out rfl OR.out ?_ Z.out ?_; (rw [be64_length]; have := Hl.out; omega); intro a5 n5 k5 w5 o b; replace OB := Lib.hid o; replace Bel := Lib.hid (Bel.out.trans b); replace Z := Lib.hid (Nat.le_trans Z.out b.size); clear o b OR; have x1 := (R.out.below Bel.out Hg.out) 1 _ rfl; have cc := (Bk.out.below (Hb.out.trans Bel.out) (Nat.lt_succ_self _)).row 34 _ H34.out; rw [Nat.zero_add] at cc)
        refine (MWord _ _ Hwd.out.2.1.1 Hwd.out.2.1.2).mono ?_
        rintro e w6 ⟨a6, n6, k6, rfl, o6, b6⟩
        have OR := Lib.hid o6.rd; replace OB := Lib.hid (OB.out.below b6); replace Bel := Lib.hid (Bel.out.trans (b6.mono Z.out)); replace Z := Lib.hid (Nat.le_trans Z.out b6.size); clear o6 b6 x1 cc
        go_wp2_with (refine wpList_app rfl _ _ rfl rfl OB.out rfl OR.out ?_ Z.out ?_; (rw [List.length_append, be64_length, be64_length]; have := Hl.out; omega); intro a7 n7 k7 w7 o b; replace OB := Lib.hid o; replace Bel := Lib.hid (Bel.out.trans b); replace Z := Lib.hid (Nat.le_trans Z.out b.size); clear o b OR; have x1 := (R.out.below Bel.out Hg.out) 2 _ rfl; have cc := (Bk.out.below (Hb.out.trans Bel.out) (Nat.lt_succ_self _)).row 34 _ H34.out; rw [Nat.zero_add] at cc)
        refine (MWord _ _ Hwd.out.2.2.1 Hwd.out.2.2.2).mono ?_
        rintro e w8 ⟨a6, n6, k6, rfl, o6, b6⟩
        have OR := Lib.hid o6.rd; replace OB := Lib.hid (OB.out.below b6); replace Bel := Lib.hid (Bel.out.trans (b6.mono Z.out)); replace Z := Lib.hid (Nat.le_trans Z.out b6.size); clear o6 b6 x1 cc
        go_wp2_with (refine wpList_app rfl _ _ rfl rfl OB.out rfl OR.out ?_ Z.out ?_; (rw [List.length_append, List.length_append, be64_length, be64_length, be64_length]; have := Hl.out; omega); intro a9 n9 k9 w9 o b; replace OB := Lib.hid o; replace Bel := Lib.hid (Bel.out.trans b); replace Z := Lib.hid (Nat.le_trans Z.out b.size); clear o b OR)
        refine ⟨⟨k + 1, by omega, by omega, by go_num, ?_, Hb.out.trans Bel.out⟩, by simp [intOf]; omega⟩
        rw [Ht.out]; have := OB.out; simp only [List.append_assoc] at this ⊢; exact this
      · have d64 : decide ((k : Int) ≤ 64) = false := by simp; omega
        obtain rfl : k = 65 := by omega
        go_wp2_with fail
        go_ret2
        exact ⟨_, _, _, rfl, Ho.out.mono (Nat.le_succ _), HBel.out.trans (Hb.out.mono (Nat.le_succ _))⟩
    · obtain rfl : k = c.seals.length := by omega
      have Hfull := Lib.hid (show refCommit c = be64 4 ++ be64 c.height ++ be64 c.round ++ c.block ++ be64 c.seals.length ++ encSeals (c.seals.take c.seals.length) by unfold refCommit; rw [List.take_of_length_le hk65, List.take_of_length_le (Nat.le_refl _)])
      go_wp2_with fail
      go_ret2
      exact ⟨_, _, _, rfl, by rw [Hfull.out]; exact Ho.out.mono (Nat.le_succ _), HBel.out.trans (Hb.out.mono (Nat.le_succ _))⟩

/-- what an encoding left -/
def EncW (ok : Bool) (l : List UInt8) (s : Value) (c : Int) (w : World) : Prop := (ok = true ∧ c = 0 ∧ RdB w s l) ∨ (ok = false ∧ c = 61 ∧ s = .slice none 0 0)
theorem EncW.gr {ok : Bool} {l : List UInt8} {s : Value} {c : Int} {w w' : World} (h : EncW ok l s c w) (hg : w.grownBy w' none) : EncW ok l s c w' := by
  rcases h with ⟨h1, h2, h3⟩ | h
  · exact Or.inl ⟨h1, h2, h3.grown hg⟩
  · exact Or.inr h
theorem EncW.of {ok : Bool} {l : List UInt8} {w w' : World} {e : Ending} (h : Enc ok l w e w') : ∃ a n k c, e = .returned (.tuple #[.slice a n k, .int .i64 c]) ∧ EncW ok l (.slice a n k) c w' ∧ w.grownBy w' none := by
  cases ok with
  | true =>
    obtain ⟨a, n, k, rfl, h1, h2⟩ := h
    exact ⟨a, n, k, 0, rfl, Or.inl ⟨rfl, rfl, h1.rd⟩, below_grown h2⟩
  | false =>
    obtain ⟨rfl, h2⟩ := h
    exact ⟨none, 0, 0, 61, rfl, Or.inr ⟨rfl, rfl, rfl⟩, below_grown h2⟩
/-- what the document's encoding left -/
def RefW (ok : Bool) (l : List UInt8) (s : Value) (w : World) : Prop := ok = true → RdB w s l
theorem RefW.gr {ok : Bool} {l : List UInt8} {s : Value} {w w' : World} (h : RefW ok l s w) (hg : w.grownBy w' none) : RefW ok l s w' := fun k => (h k).grown hg
theorem RefW.ofIf {ok : Bool} {l : List UInt8} {w w' : World} {e : Ending} (h : BytesIf l ok w e w') : ∃ a n k, e = .returned (.tuple #[.slice a n k, .bool ok]) ∧ RefW ok l (.slice a n k) w' ∧ w.grownBy w' none := by
  obtain ⟨a, n, k, h1, h2, h3⟩ := h
  exact ⟨a, n, k, h1, fun q => (h2 q).rd, below_grown h3⟩
theorem RefW.ofOk {ok : Bool} {l l' : List UInt8} {w w' : World} {e : Ending} (h : BytesOk l ok w e w') (hl : ok = true → l = l') : ∃ a n k, e = .returned (.tuple #[.slice a n k, .bool ok]) ∧ RefW ok l' (.slice a n k) w' ∧ w.grownBy w' none := by
  obtain ⟨a, n, k, h1, h2, h3⟩ := h
  exact ⟨a, n, k, h1, fun q => hl q ▸ h2.rd, below_grown h3⟩

end Go.Proofs.YtbhghlendbcejaaGreatDoor
