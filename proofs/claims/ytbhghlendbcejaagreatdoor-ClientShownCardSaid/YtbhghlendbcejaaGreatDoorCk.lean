/- The seals of a commit: tally.each; the document's Stands and rises. The seals of a commit: tally.Shared, tally.Check; the document's Stands, rises, Shared, Check: all are as the plain law says. The document's Stands. The document's Shared and Check: as the plain law says. Seals, plainly: when a commit is right; what a tally commits. -/
import Derived.Test.YtbhghlendbcejaaGreatDoorTb
import Derived.Test.YtbhghlendbcejaaGreatDoorTs
import Derived.Test.YtbhghlendbcejaaGreatDoorOw
namespace Go.Proofs.YtbhghlendbcejaaGreatDoor
open Go.RowKit
open Go.Maps (Keyed)
set_option maxRecDepth 100000

def VoteD.put (v : VoteD) (k r s : Int) : VoteD := { v with key := k, r := r, s := s }
/-- the vote for which a seal stands, but for the seal -/
def standB (chain : ByteArray) (c : CommitD) : VoteD := ⟨chain, c.height, c.round, 2, c.block, 0, 0, 0⟩
def stand (chain : ByteArray) (c : CommitD) (d : SealD) : VoteD := (standB chain c).put d.key d.r d.s
def keyS (l : List SealD) (i : Nat) : Int := ((l[i]?).map SealD.key).getD 0
theorem keyS_get {l : List SealD} {k : Nat} (h : k < l.length) : keyS l k = l[k].key := by simp [keyS, h]
def riseS (l : List SealD) : Nat → Bool
  | 0 => true
  | k + 1 => riseS l k && (k == 0 || decide (keyS l (k - 1) < keyS l k))
def isBlk (c : CommitD) : Bool := !(c.block == List.replicate 32 0)
def sealAt (l : List SealD) (k : Nat) : SealD := (l[k]?).getD ⟨0, 0, 0⟩
theorem sealAt_get {l : List SealD} {k : Nat} (h : k < l.length) : sealAt l k = l[k] := by simp [sealAt, h]
/-- the first k seals: the power, whether there are others, whether they are right -/
def eachL (ds : List ValD) (chain : ByteArray) (c : CommitD) : Nat → Int × Bool × Bool
  | 0 => (0, false, isBlk c)
  | k + 1 =>
    let e := eachL ds chain c k
    let d := sealAt c.seals k
    let ok := e.2.2 && (k == 0 || decide (keyS c.seals (k - 1) < keyS c.seals k))
    if powL d.key ds = 0 then (e.1, true, ok) else (e.1 + powL d.key ds, e.2.1, ok && signedB (stand chain c d))
theorem eachL_range {ds : List ValD} (h : ∀ d ∈ ds, 1 ≤ d.power ∧ d.power ≤ 1125899906842624) (chain : ByteArray) (c : CommitD) : ∀ k : Nat, 0 ≤ (eachL ds chain c k).1 ∧ (eachL ds chain c k).1 ≤ k * 1125899906842624
  | 0 => by simp [eachL]
  | k + 1 => by
    have ih := eachL_range h chain c k
    have hp : ∀ key, 0 ≤ powL key ds ∧ powL key ds ≤ 1125899906842624 := fun key => by
      clear ih
      induction ds with
      | nil => simp [powL]
      | cons d l ih2 =>
        unfold powL
        have := h d (by simp)
        split
        · omega
        · exact ih2 fun x hx => h x (by simp [hx])
    have := hp (sealAt c.seals k).key
    unfold eachL
    dsimp only
    split <;> dsimp only <;> omega
theorem right_each {ds : List ValD} (h : rightL ds = true) : ∀ d ∈ ds, 1 ≤ d.power ∧ d.power ≤ 1125899906842624 := by
  obtain ⟨h1, h2, h3⟩ := right_sum h
  intro d hd
  refine ⟨h1 d hd, ?_⟩
  have : d.power ≤ (ds.map (·.power)).sum := by
    clear h2 h3 h
    induction ds with
    | nil => cases hd
    | cons x l ih =>
      rw [List.map_cons, List.sum_cons]
      have hl : 0 ≤ (l.map (·.power)).sum := by
        have h4 : ∀ d ∈ l, 1 ≤ d.power := fun d hd => h1 d (by simp [hd])
        clear ih h1 hd
        induction l with
        | nil => simp
        | cons y m ih =>
          rw [List.map_cons, List.sum_cons]
          have := ih fun d hd => h4 d (by simp [hd])
          have := h4 y (by simp)
          omega
      rcases List.mem_cons.1 hd with rfl | hd
      · omega
      · have := ih (fun d hd => h1 d (by simp [hd])) hd
        have := h1 x (by simp)
        omega
  omega
theorem put_wf {v : VoteD} (h : v.wf) {k r s : Int} (hk : u64R k) (hr : u64R r) (hs : u64R s) : (v.put k r s).wf := ⟨h.chain, h.height, h.round, h.type, h.block, hk, hr, hs⟩
theorem i64_2 : i64R 2 := by unfold i64R; decide
theorem u64_0 : u64R 0 := by unfold u64R; decide
theorem standB_wf {chain : ByteArray} {c : CommitD} (hc : c.wf) (h : chain.size ≤ maxLen) : (standB chain c).wf := ⟨h, hc.height, hc.round, i64_2, hc.block, u64_0, u64_0, u64_0⟩
theorem put_cells (v : VoteD) (h : v.wf) (k r s : Int) : (v.cells.set 36 (Value.int .u64 k)).take 37 ++ [.int .u64 r, .int .u64 s] ++ (v.cells.set 36 (Value.int .u64 k)).drop (37 + 2) = (v.put k r s).cells := by
  unfold VoteD.cells VoteD.put
  generalize hp : [Value.string v.chain, .int .i64 v.height, .int .i64 v.round, .int .i64 v.type] ++ Lib.byteCells v.block = p
  have hlen : p.length = 36 := by rw [← hp]; simp [Lib.byteCells_length, h.block]
  rw [List.set_append_right _ _ (by omega), hlen]
  show (p ++ ([.int .u64 k, .int .u64 v.r, .int .u64 v.s] : List Value)).take 37 ++ ([.int .u64 r, .int .u64 s] : List Value) ++ (p ++ ([.int .u64 k, .int .u64 v.r, .int .u64 v.s] : List Value)).drop 39 = _
  rw [List.take_append, List.take_of_length_le (by omega), hlen, List.drop_eq_nil_of_le (by simp [hlen])]
  simp
theorem bStand (chain : ByteArray) (h r : Int) (l : List UInt8) (hl : l.length = 32) : Tryz.prog.built 149 [(0, .string chain), (1, .int .i64 h), (2, .int .i64 r), (3, .int .i64 2), (4, .agg (Lib.byteCells l).toArray)] = some (⟨chain, h, r, 2, l, 0, 0, 0⟩ : VoteD).cells.toArray := by
  have hb := built_pre (P := Tryz.prog) 149 _ [(0, 1), (1, 1), (2, 1), (3, 1), (4, 32), (36, 1), (37, 2)] [.string chain, .int .i64 h, .int .i64 r, .int .i64 2, .agg (Lib.byteCells l).toArray] ZVote (ZVote.take 36) [.int .u64 0, .int .u64 0, .int .u64 0] Tryz.underlying149 (by kernel_rfl) ZVote_info rfl
    (by simp [flatCells, Value.cells, Lib.byteCells_length, hl]; rfl) ⟨rfl, rfl, rfl, rfl, by simp [Value.cells, Lib.byteCells_length, hl], trivial⟩
  have e : flatCells [.string chain, .int .i64 h, .int .i64 r, .int .i64 2, .agg (Lib.byteCells l).toArray] ++ [.int .u64 0, .int .u64 0, .int .u64 0] = (⟨chain, h, r, 2, l, 0, 0, 0⟩ : VoteD).cells := by simp [flatCells, Value.cells, VoteD.cells]
  rw [e] at hb
  exact hb

set_option maxHeartbeats 8000000 in
theorem each_ok {B : Nat} (sv : Value) (ds : List ValD) (chain : ByteArray) (c : CommitD) (cs : List Value) (w : World) (hr : RdS B w sv ds.length 2 (setCells ds)) (hri : rightL ds = true) (hch : chain.size ≤ maxLen) (hc : c.wf) (hrep : c.rep w.heap.size w cs) (hn : c.seals.length ≤ 1000)
    (hR : RowAt w 1 0 (wCells rootsL)) (hB : B ≤ w.heap.size) :
    Calls Tryz.prog 105 #[sv, .string chain, .agg cs.toArray] w fun e w' => e = .returned (.tuple #[.int .i64 (eachL ds chain c c.seals.length).1, .bool (eachL ds chain c c.seals.length).2.1, .bool (eachL ds chain c c.seals.length).2.2]) ∧ w.grownBy w' none := by
  have HRG := Lib.hid (eachL_range (right_each hri) chain c)
  have HRD := Lib.hid hr; have HC := Lib.hid hc; have HR := Lib.hid hR; have HW := Lib.hid (standB_wf hc hch); have HN := Lib.hid hn; have HBB := Lib.hid hB
  obtain ⟨va, vc, hsv⟩ := hr.shape
  subst hsv
  obtain ⟨sl, hsl, rfl⟩ := hrep
  obtain ⟨ao, cc, rfl, hle, hcm, _, hrow⟩ := hsl
  have HROW := Lib.hid hrow
  unfold maxLen at hcm
  clear hr hri hch hc hR hrow hB
  obtain ⟨b, hb⟩ : ∃ b, w.heap.size = b := ⟨_, rfl⟩
  have HB := Lib.hid hb
  rw [hb] at HROW
  have hcw : [.int .i64 c.height, .int .i64 c.round] ++ Lib.byteCells c.block ++ [.slice ao c.seals.length cc] = commitV c.height c.round c.block (.slice ao c.seals.length cc) := rfl
  rw [hcw]
  have HL := Lib.hid (commitV_len c.height c.round c.block (.slice ao c.seals.length cc) HC.out.block)
  have HG34 := Lib.hid (commitV_get c.height c.round c.block (.slice ao c.seals.length cc) HC.out.block)
  clear hcw hb
  go_enter Tryz.func105, Tryz.ntmps105
  go_wp2_with (first | (refine wpList_box_as rfl 28 _ rfl (commitV c.height c.round c.block (.slice ao c.seals.length cc)) rfl ?_))
  intro w1 b1 g1 s1
  rw [HB.out] at b1 s1 ⊢
  have B1 := Lib.hid b1; have G1 := Lib.hid g1; have S1 := Lib.hid s1
  clear b1 g1 s1
  have c0 := B1.out.row 0 (.int .i64 c.height) rfl
  have c1 := B1.out.row 1 (.int .i64 c.round) rfl
  have c2 := Lib.hid (show RowAt w1 b 2 (Lib.byteCells c.block) from part_of (k := 2) (n := 32) B1.out.row (by simp [commitV, Lib.byteCells_length, HC.out.block]))
  rw [Nat.zero_add] at c0 c1
  obtain ⟨hh, hhe⟩ : ∃ h, c.height = h := ⟨_, rfl⟩
  obtain ⟨rr, hre⟩ : ∃ h, c.round = h := ⟨_, rfl⟩
  obtain ⟨bl, hbe⟩ : ∃ h, c.block = h := ⟨_, rfl⟩
  have HE := Lib.hid (show standB chain c = ⟨chain, hh, rr, 2, bl, 0, 0, 0⟩ by unfold standB; rw [hhe, hre, hbe])
  have HBl := Lib.hid (show bl.length = 32 by rw [← hbe]; exact HC.out.block)
  have HIs := Lib.hid (show isBlk c = !(VEq (Lib.byteCells bl) ZH) by unfold isBlk ZH; rw [VEq.bytes, hbe])
  rw [hhe] at c0; rw [hre] at c1; rw [hbe] at c2
  clear hhe hre hbe
  obtain ⟨V0, hV0⟩ : ∃ v, standB chain c = v := ⟨_, rfl⟩
  have HV0 := Lib.hid hV0
  rw [hV0] at HE HW
  have hvl := Lib.hid (V0.cells_length HW.out)
  clear hV0
  go_wp2_with (first | (refine wpList_load_part rfl 23 _ rfl b 2 rfl (Lib.byteCells bl) _ c2.out Tryz.underlying23 rfl (sizeH _ (by rw [Lib.byteCells_length, HBl.out])) ?_) | (refine wpList_build_eq rfl 149 _ rfl [(0, .string chain), (1, .int .i64 hh), (2, .int .i64 rr), (3, .int .i64 2), (4, .agg (Lib.byteCells bl).toArray)] (by kernel_rfl) _ (bStand chain hh rr bl HBl.out) ?_) | (refine wpList_alloc_as rfl 149 rfl ZVote ZVote_info ?_))
  intro w2 b2 g2 s2
  rw [S1.out] at b2 s2 ⊢
  have V2 := Lib.hid b2; have B2 := Lib.hid (B1.out.grown g2 (by simp)); have G2 := Lib.hid (Lib.grownBy_trans G1.out g2); have C2 := Lib.hid (c2.out.grown g2 (by simp))
  clear b2 g2 B1 G1 S1 c0 c1 c2
  rw [← HE.out]
  go_wp2_with (refine wpList_store_whole rfl 149 _ _ rfl (b + 1) rfl V0.cells ZVote 149 rfl V2.out (by rw [hvl.out]; rfl) (VoteD_one _) (sizeVote _ hvl.out) ?_)
  intro w3 g3 s3 b3
  have V3 := Lib.hid b3; have B3 := Lib.hid (B2.out.grown g3 (by simp)); have G3 := Lib.hid (grown_new G2.out g3 (by rw [HB.out]; omega)); have C3 := Lib.hid (C2.out.grown g3 (by simp)); have S3 := Lib.hid (show w3.heap.size = b + 2 by omega)
  clear b3 g3 s3 s2 V2 B2 G2 C2
  have c34 := B3.out.row 34 _ HG34.out
  rw [Nat.zero_add] at c34
  have fz : Fits kHash ZH = true := by decide +kernel
  have HFz := Lib.hid fz
  obtain ⟨z0, hz0⟩ : ∃ z, VEq (Lib.byteCells bl) ZH = z := ⟨_, rfl⟩
  have HZ0 := Lib.hid hz0
  clear fz
  go_wp2_with (first | (refine wpList_load_part rfl 23 _ rfl b 2 rfl (Lib.byteCells bl) _ C3.out Tryz.underlying23 rfl (sizeH _ (by rw [Lib.byteCells_length, HBl.out])) ?_) | (refine wpList_build_eq rfl 23 _ rfl [] (by kernel_rfl) ZH bHash0 ?_) | (refine wpList_neq_flat rfl 23 _ _ _ rfl (Lib.byteCells bl) ZH kHash rfl rfl hash_flat (hash_fits _ HBl.out) HFz.out rfl (by kernel_rfl) ?_; rw [HZ0.out]))
  clear hz0 C3
  go_loopw [6, 7, 8, 28] (fun s ot ok i wr => ∃ k : Nat, k ≤ c.seals.length ∧ i = .int .i64 k ∧ s = .int .i64 (eachL ds chain c k).1 ∧ ot = .bool (eachL ds chain c k).2.1 ∧ ok = .bool (eachL ds chain c k).2.2 ∧ w.grownBy wr none ∧ b + 2 ≤ wr.heap.size ∧ Blk wr b (commitV c.height c.round c.block (.slice ao c.seals.length cc)) 28 ∧
      ∃ u : VoteD, u.wf ∧ (∃ x y z, u = V0.put x y z) ∧ Blk wr (b + 1) u.cells 149) (fun _ _ _ i _ => c.seals.length - (intOf i).toNat)
  case atStart => exact ⟨0, Nat.zero_le _, rfl, rfl, rfl, by rw [show (eachL ds chain c 0).2.2 = !z0 by rw [← HZ0.out, ← HIs.out]; rfl], G3.out, by rw [S3.out]; exact Nat.le_refl _, B3.out, V0, HW.out, ⟨V0.key, V0.r, V0.s, rfl⟩, V3.out⟩
  case round =>
    obtain ⟨k, hk, rfl, rfl, rfl, rfl, hg, hsz, hbk, u, hu, ⟨ux, uy, uz, hue⟩, hub⟩ := hrel
    have Hg := Lib.hid hg; have Hs := Lib.hid hsz; have Hb := Lib.hid hbk; have Hu := Lib.hid hu; have Hv := Lib.hid hub; have Hue := Lib.hid hue
    clear hg hsz hbk hu hub G3 B3 V3 S3 c34 hue
    obtain ⟨s, hs⟩ : ∃ s, (eachL ds chain c k).1 = s := ⟨_, rfl⟩
    obtain ⟨ot, hot⟩ : ∃ s, (eachL ds chain c k).2.1 = s := ⟨_, rfl⟩
    obtain ⟨ok, hok⟩ : ∃ s, (eachL ds chain c k).2.2 = s := ⟨_, rfl⟩
    have rg := HRG.out k
    rw [hs] at rg
    rw [hs, hot, hok]
    have E1 := Lib.hid hs; have E2 := Lib.hid hot; have E3 := Lib.hid hok; have RG := Lib.hid rg
    clear hs hot hok rg
    by_cases hlt : k < c.seals.length
    · rcases HROW.out with h0 | ⟨g, o, rfl, hgl, hrow⟩
      · omega
      have R := Lib.hid (RowAt.elem (hrow.grown Hg.out (by simp)) (fun d _ => d.cells_length))
      obtain ⟨d, hd⟩ : ∃ d, d = c.seals[k] := ⟨_, rfl⟩
      have Rk := Lib.hid (R.out k hlt)
      rw [← hd] at Rk
      have HD := Lib.hid hd
      have Hdw := Lib.hid (show d.wf from hd ▸ HC.out.seals _ (List.getElem_mem hlt))
      have KSk := Lib.hid (show keyS c.seals k = d.key by rw [keyS_get hlt, hd])
      have HSR := Lib.hid hrow
      clear hd hrow R
      go_wp2_with (first | (refine wpList_load_part rfl 128 _ rfl g (o + k * 3) rfl d.cells _ Rk.out Tryz.underlying128 rfl sizeSeal ?_) | (refine wpList_alloc_as rfl 128 rfl ZSeal ZSeal_info ?_))
      intro w4 b4 g4 s4
      obtain ⟨e, he⟩ : ∃ e, wr.heap.size = e := ⟨_, rfl⟩
      rw [he] at b4 s4 ⊢
      have HEe := Lib.hid (show b + 2 ≤ e by rw [← he]; exact Hs.out)
      have D4 := Lib.hid b4; have B4 := Lib.hid (Hb.out.grown g4 (by simp)); have V4 := Lib.hid (Hv.out.grown g4 (by simp)); have G4 := Lib.hid (Lib.grownBy_trans Hg.out g4)
      clear b4 g4 he Hg Hs Hb Hv
      go_wp2_with (refine wpList_store_whole rfl 128 _ _ rfl e rfl d.cells ZSeal 128 rfl D4.out rfl (SealD_one d) sizeSeal ?_)
      intro w5 g5 s5 b5
      have D5 := Lib.hid b5; have B5 := Lib.hid (B4.out.grown g5 (by have := HEe.out; simp; omega)); have V5 := Lib.hid (V4.out.grown g5 (by have := HEe.out; simp; omega)); have G5 := Lib.hid (grown_new G4.out g5 (by have := HEe.out; have := HB.out; omega)); have S5 := Lib.hid (show w5.heap.size = e + 1 by omega)
      clear b5 g5 s5 s4 D4 B4 V4 G4
      have d0 := D5.out.row 0 (.int .u64 d.key) rfl
      rw [Nat.zero_add] at d0
      obtain ⟨ky, hky⟩ : ∃ x, d.key = x := ⟨_, rfl⟩
      have HKy := Lib.hid hky
      rw [hky] at d0 KSk
      obtain ⟨ok2, hok2⟩ : ∃ x, (ok && (k == 0 || decide (keyS c.seals (k - 1) < keyS c.seals k))) = x := ⟨_, rfl⟩
      have HOk2 := Lib.hid hok2
      clear hok2 hky
      go_upto_region 6 with (fail)
      go_cut [8] from 33 to 70 (fun s8 w' => s8 = .bool ok2 ∧ w5.grownBy w' none)
      case first =>
        cases hokv : ok with
        | false =>
          have E := Lib.hid (show ok2 = false by rw [← HOk2.out, hokv]; rfl)
          go_quiet (fail)
          go_wp2_with fail
          go_meet
          case rel => rw [E.out]; exact ⟨rfl, dr_grown _ _⟩
        | true =>
          rcases Nat.eq_zero_or_pos k with hk0 | hpos
          · have E := Lib.hid (show ok2 = true by rw [← HOk2.out, hokv, hk0]; rfl)
            subst hk0
            go_quiet (fail)
            go_wp2_with fail
            go_meet
            case rel => rw [E.out]; exact ⟨rfl, dr_grown _ _⟩
          · have z : ((k : Int) == 0) = false := by simp; omega
            have k1 : ((k - 1 : Nat) : Int) = (k : Int) - 1 := by omega
            have c34 := B5.out.row 34 _ HG34.out
            have p0 := RowAt.elem (HSR.out.grown G5.out (by simp)) (fun d _ => d.cells_length) (k - 1) (by omega) 0 _ rfl
            rw [Nat.add_zero] at p0
            rw [Nat.zero_add] at c34
            rw [← keyS_get (by omega)] at p0
            obtain ⟨bq, hbq⟩ : ∃ x, decide (keyS c.seals (k - 1) < ky) = x := ⟨_, rfl⟩
            have E := Lib.hid (show ok2 = bq by rw [← HOk2.out, hokv, KSk.out, hbq]; have : (k == 0) = false := by simp; omega
                                                rw [this]; simp)
            go_quiet (fail)
            go_wp2_with fail
            go_meet
            case rel => rw [E.out]; exact ⟨rfl, dr_grown _ _⟩
      obtain ⟨hu8, g6⟩ := hcut
      have D6 := Lib.hid (D5.out.grown g6 (by simp)); have B6 := Lib.hid (B5.out.grown g6 (by simp)); have V6 := Lib.hid (V5.out.grown g6 (by simp)); have G6 := Lib.hid (Lib.grownBy_trans G5.out g6); have S6 := Lib.hid (show e + 1 ≤ wc.heap.size by have := S5.out; have := g6.size; omega)
      have EQ := Lib.hid (show eachL ds chain c (k + 1) = if powL ky ds = 0 then (s, true, ok2) else (s + powL ky ds, ot, ok2 && signedB (stand chain c d)) from by
        rw [eachL]; rw [E1.out, E2.out, E3.out, HOk2.out, sealAt_get hlt, ← HD.out, HKy.out])
      subst hu8
      clear g6 D5 B5 V5 G5 S5 d0
      have d0 := D6.out.row 0 (.int .u64 d.key) rfl
      rw [Nat.zero_add, HKy.out] at d0
      go_wp2_with fail
      refine (vPower_ok (.slice va ds.length vc) ds ky wc (HRD.out.grown G6.out)).mono ?_
      rintro e7 w7 ⟨rfl, g7⟩
      have D7 := Lib.hid (D6.out.grown g7 (by simp)); have B7 := Lib.hid (B6.out.grown g7 (by simp)); have V7 := Lib.hid (V6.out.grown g7 (by simp)); have G7 := Lib.hid (Lib.grownBy_trans G6.out g7); have S7 := Lib.hid (show e + 1 ≤ w7.heap.size by have := S6.out; have := g7.size; omega)
      clear g7 D6 B6 V6 G6 S6 d0
      obtain ⟨n, hnn⟩ : ∃ n, powL ky ds = n := ⟨_, rfl⟩
      rw [hnn]
      have rg2 := HRG.out (k + 1)
      have eq := EQ.out
      rw [hnn] at eq
      by_cases hn0 : n = 0
      · rw [if_pos hn0] at eq
        have EQ1 := Lib.hid eq
        subst hn0
        clear eq rg2 hnn
        go_wp2_with fail
        exact ⟨⟨k + 1, by omega, by go_num, by rw [EQ1.out], by rw [EQ1.out], by rw [EQ1.out], G7.out, by have := S7.out; have := HEe.out; omega, B7.out, u, Hu.out, ⟨ux, uy, uz, Hue.out⟩, V7.out⟩, by simp [intOf]; omega⟩
      · rw [if_neg hn0] at eq
        have ew := IntWalk.i64_in (s + n) (by rw [eq] at rg2; dsimp only at rg2; have := HN.out; omega)
        have EQ1 := Lib.hid eq; have EW := Lib.hid ew
        have eb0 : (n == 0) = false := by simpa using hn0
        clear eq rg2 hnn ew hn0
        go_upto_region 10 with (fail)
        have k0 : w7.grownBy w7.drew (some (b + 1)) := Go.World.grownBy.but (dr_grown w7 1) _
        have KF := Lib.hid (show ∀ W, w7.grownBy W (some (b + 1)) → W.cell? ⟨e, 0, none⟩ = some (.int .u64 ky) ∧ RowAt W e 1 [.int .u64 d.r, .int .u64 d.s] from fun W g => by
          have r := (D7.out.grown g (by have := HEe.out; simp; omega)).row
          have r0 := r 0 (.int .u64 d.key) rfl
          rw [Nat.zero_add, HKy.out] at r0
          exact ⟨r0, part_of (k := 1) (n := 2) r rfl⟩)
        have hul := Lib.hid (u.cells_length Hu.out)
        go_cut [] from 56 to 70 (fun w' => w7.grownBy w' (some (b + 1)) ∧ Blk w' (b + 1) (stand chain c d).cells 149)
        case first =>
          refine wp_region_held_drew (S := fun W => W.cell? ⟨e, 0, none⟩ = some (.int .u64 ky) ∧ RowAt W e 1 [.int .u64 d.r, .int .u64 d.s]) (by kernel_rfl) (KF.out _ k0) (fun hH => ?_)
          have f0 := (show Blk w7.drew (b + 1) u.cells 149 from V7.out)
          refine wpAnyH_take (i := 0) (v := (.pointer (some ⟨e, 0, none⟩))) rfl (by kernel_rfl) (by kernel_rfl) (by kernel_rfl) (fun _ _ _ h => h) (Or.inl ⟨by rfl, fun W hS => by go_simp⟩) hH ?_
          simp only [Act.put, List.getElem_toArray, List.getElem_cons_zero, List.setIfInBounds_toArray, List.set_cons_zero, List.set_cons_succ]
          refine wpAnyH_take (i := 1) (v := (.int .u64 ky)) rfl (by kernel_rfl) (by kernel_rfl) (by kernel_rfl) (fun _ _ _ h => h) (Or.inl ⟨by rfl, fun W hS => by have c := hS.1; go_simp⟩) hH ?_
          simp only [Act.put, List.getElem_toArray, List.getElem_cons_succ, List.getElem_cons_zero, List.setIfInBounds_toArray, List.set_cons_zero, List.set_cons_succ]
          refine wpAnyH_take (i := 2) (v := (.pointer (some ⟨e, 1, none⟩))) rfl (by kernel_rfl) (by kernel_rfl) (by kernel_rfl) (fun _ _ _ h => h) (Or.inl ⟨by rfl, fun W hS => by go_simp⟩) hH ?_
          simp only [Act.put, List.getElem_toArray, List.getElem_cons_succ, List.getElem_cons_zero, List.setIfInBounds_toArray, List.set_cons_zero, List.set_cons_succ]
          refine wpAnyH_take (i := 3) (v := (.agg [.int .u64 d.r, .int .u64 d.s].toArray)) rfl (by kernel_rfl) (by kernel_rfl) (by kernel_rfl) (fun _ _ _ h => h) (yieldsIf_load_mid (by rfl) 126 _ rfl e 1 rfl [.int .u64 d.r, .int .u64 d.s] _ (fun W h => h.2) Tryz.underlying126 rfl sizeSig2) hH ?_
          simp only [Act.put, List.getElem_toArray, List.getElem_cons_succ, List.getElem_cons_zero, List.setIfInBounds_toArray, List.set_cons_zero, List.set_cons_succ]
          refine wpAnyH_take (i := 4) (v := (.pointer (some ⟨b + 1, 36, none⟩))) rfl (by kernel_rfl) (by kernel_rfl) (by kernel_rfl) (fun _ _ _ h => h) (Or.inl ⟨by rfl, fun W hS => by go_simp⟩) hH ?_
          simp only [Act.put, List.getElem_toArray, List.getElem_cons_succ, List.getElem_cons_zero, List.setIfInBounds_toArray, List.set_cons_zero, List.set_cons_succ]
          refine wpAnyH_ready (rs := [5]) (by kernel_rfl) (by simp) ?_
          refine AllReadyH.cons rfl (fun K hK => ?_) AllReadyH.nil
          refine step_wanted (by rfl) (wp_store_cell 111 _ _ (by rfl) (b + 1) 36 (by rfl) (.int .u64 ky) (by rfl) rfl u.cells 149 f0 (by rw [hul.out]; decide) (by kernel_rfl) ?_)
          intro x1 q1 e1 f1
          have k1 : w7.grownBy x1 (some (b + 1)) := World.grownBy.andThen k0 q1 (fun j hj => Or.inr hj)
          simp only [Act.put, List.getElem_toArray, List.getElem_cons_succ, List.getElem_cons_zero]
          refine hK.out _ _ (KF.out _ k1) (fun hH => ?_)
          clear hK K
          refine wpAnyH_take (i := 6) (v := (.pointer (some ⟨b + 1, 37, none⟩))) rfl (by kernel_rfl) (by kernel_rfl) (by kernel_rfl) (fun _ _ _ h => h) (Or.inl ⟨by rfl, fun W hS => by go_simp⟩) hH ?_
          simp only [Act.put, List.getElem_toArray, List.getElem_cons_succ, List.getElem_cons_zero]
          refine wpAnyH_ready (rs := [7]) (by kernel_rfl) (by simp) ?_
          refine AllReadyH.cons rfl (fun K hK => ?_) AllReadyH.nil
          refine step_wanted (by rfl) (wp_store_part 126 _ _ (by rfl) (b + 1) 37 (by rfl) [.int .u64 d.r, .int .u64 d.s] (u.cells.set 36 (.int .u64 ky)) 149 (by rfl) f1 (by rw [List.length_set, hul.out]; exact (by decide : 37 + 2 ≤ 39)) (by intro u hu; simp at hu; rcases hu with rfl | rfl <;> rfl) sizeSig2 ?_)
          intro x2 q2 e2 f2
          have k2 : w7.grownBy x2 (some (b + 1)) := World.grownBy.andThen k1 q2 (fun j hj => Or.inr hj)
          simp only [Act.put, List.getElem_toArray, List.getElem_cons_succ, List.getElem_cons_zero, List.setIfInBounds_toArray, List.set_cons_zero, List.set_cons_succ]
          refine hK.out _ _ (KF.out _ k2) (fun hH => ?_)
          clear hK K
          refine wpAnyH_done (by kernel_rfl) ?_ _
          go_wp2
          go_meet
          case rel =>
            refine ⟨k2, ?_⟩
            have e9 : stand chain c d = u.put ky d.r d.s := by unfold stand; rw [HV0.out, Hue.out, HKy.out]; rfl
            rw [e9, ← put_cells u Hu.out]
            exact f2
        obtain ⟨g8, b8⟩ := hcut
        have D8 := Lib.hid (D7.out.grown g8 (by have := HEe.out; simp; omega)); have B8 := Lib.hid (B7.out.grown g8 (by simp)); have V8 := Lib.hid b8; have G8 := Lib.hid (grown_new G7.out g8 (by rw [HB.out]; omega)); have S8 := Lib.hid (show e + 1 ≤ wc.heap.size by have := S7.out; have := g8.size; omega)
        have Hst := Lib.hid (show (stand chain c d).wf from put_wf (by rw [HV0.out]; exact HW.out) Hdw.out.1 Hdw.out.2.1 Hdw.out.2.2)
        have Hsp := Lib.hid (show ∃ x y z, stand chain c d = V0.put x y z from ⟨d.key, d.r, d.s, by unfold stand; rw [HV0.out]⟩)
        obtain ⟨st, hst⟩ : ∃ v, stand chain c d = v := ⟨_, rfl⟩
        rw [hst] at V8 Hst Hsp EQ1
        clear g8 b8 k0 KF B7 D7 V7 G7 S7 hst eb0
        have ew := EW.out
        cases hok2v : ok2 with
        | false =>
          have EQ2 := Lib.hid (show eachL ds chain c (k + 1) = (s + n, ot, false) by rw [EQ1.out, hok2v]; rfl)
          go_wp2_with fail
          exact ⟨⟨k + 1, by omega, by go_num, by rw [EQ2.out], by rw [EQ2.out], by rw [EQ2.out], G8.out, by have := S8.out; have := HEe.out; omega, B8.out, st, Hst.out, Hsp.out, V8.out⟩, by simp [intOf]; omega⟩
        | true =>
          have EQ2 := Lib.hid (show eachL ds chain c (k + 1) = (s + n, ot, signedB st) by rw [EQ1.out, hok2v]; rfl)
          go_wp2_with (refine wpList_load_part rfl 149 _ rfl (b + 1) 0 rfl st.cells _ V8.out.row Tryz.underlying149 rfl (st.size Hst.out) ?_)
          refine (Signed_ok st wc Hst.out (HR.out.grown G8.out (by simp))).mono ?_
          rintro e9 w9 ⟨rfl, g9⟩
          have B9 := Lib.hid (B8.out.grown g9 (by simp)); have V9 := Lib.hid (V8.out.grown g9 (by simp)); have G9 := Lib.hid (Lib.grownBy_trans G8.out g9); have S9 := Lib.hid (show e + 1 ≤ w9.heap.size by have := S8.out; have := g9.size; omega)
          clear g9
          go_wp2_with fail
          exact ⟨⟨k + 1, by omega, by go_num, by rw [EQ2.out], by rw [EQ2.out], by rw [EQ2.out], G9.out, by have := S9.out; have := HEe.out; omega, B9.out, st, Hst.out, Hsp.out, V9.out⟩, by simp [intOf]; omega⟩
    · obtain rfl : k = c.seals.length := by omega
      go_wp2_with fail
      go_ret3
      rw [← E1.out, ← E2.out, ← E3.out]
      exact ⟨rfl, Hg.out⟩

/-- are the first k seals signed, of those that the set has? -/
def sgnS (ds : List ValD) (chain : ByteArray) (c : CommitD) : Nat → Bool
  | 0 => true
  | k + 1 => sgnS ds chain c k && (decide (powL (sealAt c.seals k).key ds = 0) || signedB (stand chain c (sealAt c.seals k)))
def sumS (ds : List ValD) (c : CommitD) : Nat → Int
  | 0 => 0
  | k + 1 => sumS ds c k + powL (sealAt c.seals k).key ds
def allS (ds : List ValD) (c : CommitD) : Nat → Bool
  | 0 => true
  | k + 1 => allS ds c k && decide (powL (sealAt c.seals k).key ds ≠ 0)
theorem eachL_eq (ds : List ValD) (chain : ByteArray) (c : CommitD) : ∀ k, eachL ds chain c k = (sumS ds c k, !(allS ds c k), isBlk c && riseS c.seals k && sgnS ds chain c k)
  | 0 => by simp [eachL, sumS, allS, riseS, sgnS]
  | k + 1 => by
    rw [eachL, eachL_eq ds chain c k]
    dsimp only
    by_cases h : powL (sealAt c.seals k).key ds = 0
    · rw [if_pos h]
      simp only [sumS, allS, riseS, sgnS, h]
      simp
      cases isBlk c <;> cases riseS c.seals k <;> cases sgnS ds chain c k <;> simp
    · rw [if_neg h]
      simp only [sumS, allS, riseS, sgnS]
      simp [h]
      cases isBlk c <;> cases riseS c.seals k <;> cases sgnS ds chain c k <;> simp
/-- the document's answer -/
def sharedL (ds : List ValD) (chain : ByteArray) (c : CommitD) : Int × Int :=
  if rightL ds = false then (0, 71) else if (isBlk c && riseS c.seals c.seals.length && sgnS ds chain c c.seals.length) = false then (0, 158) else (sumS ds c c.seals.length, 0)
def checkL (ds : List ValD) (chain : ByteArray) (c : CommitD) : Int :=
  if rightL ds = false then 71 else if (isBlk c && riseS c.seals c.seals.length && sgnS ds chain c c.seals.length) = false then 158 else if twoB (sumS ds c c.seals.length) (totalL ds) && allS ds c c.seals.length then 0 else 158
theorem right_nil {ds : List ValD} {B : Nat} {w : World} {v : Value} (_h : RdS B w v ds.length 2 (setCells ds)) : ∃ a k, v = .slice a ds.length k := by
  obtain ⟨a, k, rfl, _⟩ := _h
  exact ⟨a, k, rfl⟩

set_option maxHeartbeats 2000000 in
theorem Shared_ok {B : Nat} (sv : Value) (ds : List ValD) (chain : ByteArray) (c : CommitD) (cs : List Value) (w : World) (hr : RdS B w sv ds.length 2 (setCells ds)) (hch : chain.size ≤ maxLen) (hc : c.wf) (hrep : c.rep w.heap.size w cs) (hn : c.seals.length ≤ 1000)
    (hR : RowAt w 1 0 (wCells rootsL)) (hB : B ≤ w.heap.size) :
    Calls Tryz.prog 114 #[sv, .string chain, .agg cs.toArray] w fun e w' => e = .returned (.tuple #[.int .i64 (sharedL ds chain c).1, .int .i64 (sharedL ds chain c).2]) ∧ w.grownBy w' none := by
  have HRD := Lib.hid hr; have HR := Lib.hid hR; have HC := Lib.hid hc; have HCh := Lib.hid hch; have HN := Lib.hid hn; have HBB := Lib.hid hB; have HRep := Lib.hid hrep
  have hcl := Lib.hid (show cs.length = 35 from by obtain ⟨sl, _, rfl⟩ := hrep; exact commitV_len _ _ _ _ hc.block)
  obtain ⟨va, vc, rfl⟩ := right_nil hr
  clear hr hR hc hch hn hB hrep
  go_enter Tryz.func114, Tryz.ntmps114
  go_wp2_with (first | (refine wpList_box_as rfl 28 _ rfl cs rfl ?_))
  intro w1 b1 g1 s1
  obtain ⟨b, hb⟩ : ∃ b, w.heap.size = b := ⟨_, rfl⟩
  rw [hb] at b1 s1 ⊢
  have B1 := Lib.hid b1; have G1 := Lib.hid g1
  clear b1 g1 s1 hb
  go_wp2_with fail
  refine (vRight_ok (.slice va ds.length vc) ds w1 (HRD.out.grown G1.out)).mono ?_
  rintro e w2 ⟨rfl, g2⟩
  have B2 := Lib.hid (B1.out.grown g2 (by simp)); have G2 := Lib.hid (Lib.grownBy_trans G1.out g2)
  clear g2 B1 G1
  cases hri : rightL ds with
  | false =>
    have E := Lib.hid (show sharedL ds chain c = (0, 71) by unfold sharedL; rw [if_pos hri])
    go_wp2_with fail
    go_ret2
    rw [E.out]
    exact ⟨rfl, G2.out⟩
  | true =>
    have CE := Lib.hid (each_ok (.slice va ds.length vc) ds chain c cs w2 (HRD.out.grown G2.out) hri HCh.out HC.out (by
      obtain ⟨sl, h1, h2⟩ := HRep.out
      exact ⟨sl, (h1.grown G2.out).mono G2.out.size, h2⟩) HN.out (HR.out.grown G2.out (by simp)) (Nat.le_trans HBB.out G2.out.size))
    rw [eachL_eq] at CE
    obtain ⟨ok, hok⟩ : ∃ x, (isBlk c && riseS c.seals c.seals.length && sgnS ds chain c c.seals.length) = x := ⟨_, rfl⟩
    obtain ⟨n, hnn⟩ : ∃ x, sumS ds c c.seals.length = x := ⟨_, rfl⟩
    obtain ⟨ot, hot⟩ : ∃ x, allS ds c c.seals.length = x := ⟨_, rfl⟩
    rw [hok, hnn, hot] at CE
    have E := Lib.hid (show sharedL ds chain c = if ok = false then (0, 158) else (n, 0) by unfold sharedL; rw [if_neg (by simp [hri]), hok, hnn])
    clear hok hnn hot hri
    go_wp2_with (first | (refine wpList_load_part rfl 28 _ rfl b 0 rfl cs _ B2.out.row Tryz.underlying28 rfl (by rw [hcl.out]; kernel_rfl) ?_))
    refine CE.out.mono ?_
    rintro e w3 ⟨rfl, g3⟩
    have G3 := Lib.hid (Lib.grownBy_trans G2.out g3)
    clear g3 CE B2 G2
    cases ok with
    | false =>
      go_wp2_with fail
      go_ret2
      rw [E.out]
      exact ⟨rfl, G3.out⟩
    | true =>
      go_wp2_with fail
      go_ret2
      rw [E.out]
      exact ⟨rfl, G3.out⟩

set_option maxHeartbeats 2000000 in
theorem Check_ok {B : Nat} (sv : Value) (ds : List ValD) (chain : ByteArray) (c : CommitD) (cs : List Value) (w : World) (hr : RdS B w sv ds.length 2 (setCells ds)) (hch : chain.size ≤ maxLen) (hc : c.wf) (hrep : c.rep w.heap.size w cs) (hn : c.seals.length ≤ 1000)
    (hR : RowAt w 1 0 (wCells rootsL)) (hB : B ≤ w.heap.size) :
    Calls Tryz.prog 69 #[sv, .string chain, .agg cs.toArray] w fun e w' => e = .returned (.int .i64 (checkL ds chain c)) ∧ w.grownBy w' none := by
  have HRD := Lib.hid hr; have HR := Lib.hid hR; have HC := Lib.hid hc; have HCh := Lib.hid hch; have HN := Lib.hid hn; have HBB := Lib.hid hB; have HRep := Lib.hid hrep
  have hcl := Lib.hid (show cs.length = 35 from by obtain ⟨sl, _, rfl⟩ := hrep; exact commitV_len _ _ _ _ hc.block)
  obtain ⟨va, vc, rfl⟩ := right_nil hr
  clear hr hR hc hch hn hB hrep
  obtain ⟨tot, htot⟩ : ∃ x, totalL ds = x := ⟨_, rfl⟩
  have CT := Lib.hid (fun W (h : RdS B W (.slice va ds.length vc) ds.length 2 (setCells ds)) => vTotal_ok (.slice va ds.length vc) ds W h)
  rw [htot] at CT
  have HTot := Lib.hid htot
  clear htot
  go_enter Tryz.func69, Tryz.ntmps69
  go_wp2_with (first | (refine wpList_box_as rfl 28 _ rfl cs rfl ?_))
  intro w1 b1 g1 s1
  obtain ⟨b, hb⟩ : ∃ b, w.heap.size = b := ⟨_, rfl⟩
  rw [hb] at b1 s1 ⊢
  have B1 := Lib.hid b1; have G1 := Lib.hid g1
  clear b1 g1 s1 hb
  go_wp2_with fail
  refine (CT.out w1 (HRD.out.grown G1.out)).mono ?_
  rintro e w2 ⟨rfl, g2⟩
  have B2 := Lib.hid (B1.out.grown g2 (by simp)); have G2 := Lib.hid (Lib.grownBy_trans G1.out g2)
  clear g2 B1 G1 CT
  cases hri : rightL ds with
  | false =>
    have E := Lib.hid (show checkL ds chain c = 71 by unfold checkL; rw [if_pos hri])
    clear hri
    rw [if_neg (by decide)]
    go_wp2_with fail
    go_ret
    rw [E.out]
    exact ⟨rfl, G2.out⟩
  | true =>
    have CE := Lib.hid (each_ok (.slice va ds.length vc) ds chain c cs w2 (HRD.out.grown G2.out) hri HCh.out HC.out (by
      obtain ⟨sl, h1, h2⟩ := HRep.out
      exact ⟨sl, (h1.grown G2.out).mono G2.out.size, h2⟩) HN.out (HR.out.grown G2.out (by simp)) (Nat.le_trans HBB.out G2.out.size))
    rw [eachL_eq] at CE
    obtain ⟨ok, hok⟩ : ∃ x, (isBlk c && riseS c.seals c.seals.length && sgnS ds chain c c.seals.length) = x := ⟨_, rfl⟩
    obtain ⟨n, hnn⟩ : ∃ x, sumS ds c c.seals.length = x := ⟨_, rfl⟩
    obtain ⟨ot, hot⟩ : ∃ x, allS ds c c.seals.length = x := ⟨_, rfl⟩
    rw [hok, hnn, hot] at CE
    obtain ⟨tw, htw⟩ : ∃ x, twoB n tot = x := ⟨_, rfl⟩
    have E := Lib.hid (show checkL ds chain c = if ok = false then 158 else if tw && ot then 0 else 158 by unfold checkL; rw [if_neg (by simp [hri]), hok, hnn, hot, HTot.out, htw])
    have HTw := Lib.hid htw
    clear hok hnn hot hri htw
    rw [if_pos rfl]
    go_wp2_with (first | (refine wpList_load_part rfl 28 _ rfl b 0 rfl cs _ B2.out.row Tryz.underlying28 rfl (by rw [hcl.out]; kernel_rfl) ?_))
    refine CE.out.mono ?_
    rintro e w3 ⟨rfl, g3⟩
    have G3 := Lib.hid (Lib.grownBy_trans G2.out g3)
    clear g3 CE B2 G2
    cases ok with
    | false =>
      go_wp2_with fail
      go_ret
      rw [E.out]
      exact ⟨rfl, G3.out⟩
    | true =>
      cases ot with
      | false =>
        go_wp2_with fail
        go_ret
        rw [E.out]
        cases tw <;> exact ⟨rfl, G3.out⟩
      | true =>
        go_wp2_with fail
        refine (Two_ok n tot w3).mono ?_
        rintro e w4 ⟨rfl, rfl⟩
        rw [HTw.out]
        cases tw with
        | false =>
          go_wp2_with fail
          go_ret
          rw [E.out]
          exact ⟨rfl, G3.out⟩
        | true =>
          go_wp2_with fail
          go_ret
          rw [E.out]
          exact ⟨rfl, G3.out⟩

theorem riseS_false {l : List SealD} {k : Nat} (h : riseS l k = false) : ∀ n, k ≤ n → riseS l n = false
  | 0, hn => by obtain rfl : k = 0 := by omega
                exact h
  | n + 1, hn => by
    rcases Nat.lt_or_ge n k with h1 | h1
    · obtain rfl : k = n + 1 := by omega
      exact h
    · unfold riseS; rw [riseS_false h n h1]; rfl

set_option maxHeartbeats 2000000 in
theorem rises_ok (c : CommitD) (cs : List Value) (w : World) (hc : c.wf) (hrep : c.rep w.heap.size w cs) :
    Calls Tryz.prog 86 #[.agg cs.toArray] w fun e w' => e = .returned (.bool (isBlk c && riseS c.seals c.seals.length)) ∧ w.grownBy w' none := by
  have HC := Lib.hid hc
  obtain ⟨sl, hsl, rfl⟩ := hrep
  obtain ⟨ao, cc, rfl, hle, hcm, _, hrow⟩ := hsl
  have HROW := Lib.hid hrow
  unfold maxLen at hcm
  obtain ⟨b, hb⟩ : ∃ b, w.heap.size = b := ⟨_, rfl⟩
  have HB := Lib.hid hb
  rw [hb] at HROW
  have hcw : [.int .i64 c.height, .int .i64 c.round] ++ Lib.byteCells c.block ++ [.slice ao c.seals.length cc] = commitV c.height c.round c.block (.slice ao c.seals.length cc) := rfl
  rw [hcw]
  have HL := Lib.hid (commitV_len c.height c.round c.block (.slice ao c.seals.length cc) HC.out.block)
  have HG34 := Lib.hid (commitV_get c.height c.round c.block (.slice ao c.seals.length cc) HC.out.block)
  have HCm := Lib.hid hcm; have HLe := Lib.hid hle
  clear hcw hb hrow hcm hle
  clear hc
  go_enter Tryz.func86, Tryz.ntmps86
  go_wp2_with (first | (refine wpList_box_as rfl 28 _ rfl (commitV c.height c.round c.block (.slice ao c.seals.length cc)) rfl ?_))
  intro w1 b1 g1 s1
  rw [HB.out] at b1 s1 ⊢
  have B1 := Lib.hid b1; have G1 := Lib.hid g1
  clear b1 g1 s1
  go_wp2_with fail
  go_loopw [3] (fun i wr => ∃ k : Nat, 1 ≤ k ∧ (k ≤ c.seals.length ∨ k = 1) ∧ i = .int .i64 k ∧ riseS c.seals k = true ∧ w.grownBy wr none ∧ Blk wr b (commitV c.height c.round c.block (.slice ao c.seals.length cc)) 28) (fun i _ => c.seals.length - (intOf i).toNat)
  case atStart => exact ⟨1, Nat.le_refl _, Or.inr rfl, rfl, by simp [riseS], G1.out, B1.out⟩
  case round =>
    obtain ⟨k, hk1, hk, rfl, hri, hg, hbk⟩ := hrel
    have Hr := Lib.hid hri; have Hg := Lib.hid hg; have Hb := Lib.hid hbk
    clear hri hg hbk B1 G1
    have c34 := Hb.out.row 34 _ HG34.out
    rw [Nat.zero_add] at c34
    by_cases hlt : k < c.seals.length
    · rcases HROW.out with h0 | ⟨g, o, rfl, hgl, hrow⟩
      · omega
      have hcm := HCm.out; have hle := HLe.out
      have p0 := RowAt.elem (hrow.grown Hg.out (by simp)) (fun d _ => d.cells_length) (k - 1) (by omega) 0 _ rfl
      have p1 := RowAt.elem (hrow.grown Hg.out (by simp)) (fun d _ => d.cells_length) k hlt 0 _ rfl
      rw [Nat.add_zero] at p0 p1
      rw [← keyS_get (by omega)] at p0
      rw [← keyS_get hlt] at p1
      have k1 : ((k - 1 : Nat) : Int) = (k : Int) - 1 := by omega
      clear hrow
      obtain ⟨x0, hx0⟩ : ∃ x, keyS c.seals (k - 1) = x := ⟨_, rfl⟩
      obtain ⟨x1, hx1⟩ : ∃ x, keyS c.seals k = x := ⟨_, rfl⟩
      have hz : (k == 0) = false := by simp; omega
      have E := Lib.hid (show riseS c.seals (k + 1) = decide (x0 < x1) by unfold riseS; rw [Hr.out, hz, hx0, hx1]; simp)
      rw [hx0] at p0; rw [hx1] at p1
      clear hx0 hx1 hz
      go_upto_region 4 with (fail)
      cases hlt2 : decide (x1 ≤ x0) with
      | true =>
        have E2 := Lib.hid (riseS_false (l := c.seals) (k := k + 1) (by rw [E.out]; simp at hlt2 ⊢; omega) c.seals.length (by omega))
        go_quiet (fail)
        go_wp2_with fail
        go_ret
        rw [E2.out]
        exact ⟨by simp, Lib.grownBy_trans Hg.out (dr_grown _ _)⟩
      | false =>
        have E2 := Lib.hid (show riseS c.seals (k + 1) = true by rw [E.out]; simp at hlt2 ⊢; omega)
        go_quiet (fail)
        go_wp2_with fail
        exact ⟨⟨k + 1, by omega, by omega, by go_num, E2.out, Lib.grownBy_trans Hg.out (dr_grown _ _), Hb.out.grown (dr_grown _ _) (by simp)⟩, by simp [intOf]; omega⟩
    · have E := Lib.hid (show riseS c.seals c.seals.length = true by
        rcases hk with hk | rfl
        · obtain rfl : k = c.seals.length := by omega
          exact Hr.out
        · rcases Nat.eq_zero_or_pos c.seals.length with h0 | h0
          · rw [h0]; rfl
          · obtain h1 : c.seals.length = 1 := by omega
            rw [h1]; exact Hr.out)
      have c2 := Lib.hid (show RowAt wr b 2 (Lib.byteCells c.block) from part_of (k := 2) (n := 32) Hb.out.row (by simp [commitV, Lib.byteCells_length, HC.out.block]))
      have HIs := Lib.hid (show isBlk c = !(VEq (Lib.byteCells c.block) ZH) by unfold isBlk ZH; rw [VEq.bytes])
      obtain ⟨z0, hz0⟩ : ∃ z, VEq (Lib.byteCells c.block) ZH = z := ⟨_, rfl⟩
      have HZ0 := Lib.hid hz0
      have HFz := Lib.hid (show Fits kHash ZH = true by decide +kernel)
      clear hz0
      go_wp2_with (first | (refine wpList_load_part rfl 23 _ rfl b 2 rfl (Lib.byteCells c.block) _ c2.out Tryz.underlying23 rfl (sizeH _ (by rw [Lib.byteCells_length, HC.out.block])) ?_) | (refine wpList_build_eq rfl 23 _ rfl [] (by kernel_rfl) ZH bHash0 ?_) | (refine wpList_neq_flat rfl 23 _ _ _ rfl (Lib.byteCells c.block) ZH kHash rfl rfl hash_flat (hash_fits _ HC.out.block) HFz.out rfl (by kernel_rfl) ?_; rw [HZ0.out]))
      go_ret
      rw [E.out, HIs.out, HZ0.out]
      exact ⟨by simp, Hg.out⟩

theorem bStand7 (chain : ByteArray) (h r : Int) (l : List UInt8) (k x y : Int) (hl : l.length = 32) : Tryz.prog.built 149 [(0, .string chain), (1, .int .i64 h), (2, .int .i64 r), (3, .int .i64 2), (4, .agg (Lib.byteCells l).toArray), (5, .int .u64 k), (6, .agg [.int .u64 x, .int .u64 y].toArray)] = some (⟨chain, h, r, 2, l, k, x, y⟩ : VoteD).cells.toArray := by
  have e : flatCells [.string chain, .int .i64 h, .int .i64 r, .int .i64 2, .agg (Lib.byteCells l).toArray, .int .u64 k, .agg [.int .u64 x, .int .u64 y].toArray] = (⟨chain, h, r, 2, l, k, x, y⟩ : VoteD).cells := by simp [flatCells, Value.cells, VoteD.cells]
  have hl2 : (⟨chain, h, r, 2, l, k, x, y⟩ : VoteD).cells.length = 39 := by simp [VoteD.cells, Lib.byteCells_length, hl]
  have hz : (Tryz.prog.info? 149).map (fun i => i.zero.map (fun v => v.cells.size)) = some (some 39) := by kernel_rfl
  have hb := built_struct (P := Tryz.prog) 149 _ [(0, 1), (1, 1), (2, 1), (3, 1), (4, 32), (36, 1), (37, 2)] [.string chain, .int .i64 h, .int .i64 r, .int .i64 2, .agg (Lib.byteCells l).toArray, .int .u64 k, .agg [.int .u64 x, .int .u64 y].toArray] Tryz.underlying149 (by kernel_rfl)
    (by rw [e, hl2]; exact hz) ⟨rfl, rfl, rfl, rfl, by simp [Value.cells, Lib.byteCells_length, hl], by simp [Value.cells, Lib.byteCells_length, hl], by simp [Value.cells, Lib.byteCells_length, hl], trivial⟩
  rw [e] at hb
  exact hb

set_option maxHeartbeats 2000000 in
theorem Stands_ok (chain : ByteArray) (c : CommitD) (sl : Value) (d : SealD) (w : World) (hc : c.block.length = 32) :
    Calls Tryz.prog 89 #[.string chain, .agg (commitV c.height c.round c.block sl).toArray, .agg d.cells.toArray] w fun e w' => e = .returned (.agg (stand chain c d).cells.toArray) ∧ w.grownBy w' none := by
  have E := Lib.hid (show stand chain c d = ⟨chain, c.height, c.round, 2, c.block, d.key, d.r, d.s⟩ from rfl)
  obtain ⟨hh, hhe⟩ : ∃ h, c.height = h := ⟨_, rfl⟩
  obtain ⟨rr, hre⟩ : ∃ h, c.round = h := ⟨_, rfl⟩
  obtain ⟨bl, hbe⟩ : ∃ h, c.block = h := ⟨_, rfl⟩
  obtain ⟨dk, dr, dss⟩ := d
  dsimp only at E
  rw [hhe, hre, hbe] at E
  rw [hhe, hre, hbe]
  rw [hbe] at hc
  have HC := Lib.hid hc
  obtain ⟨st, hst⟩ : ∃ v, (⟨chain, hh, rr, 2, bl, dk, dr, dss⟩ : VoteD) = v := ⟨_, rfl⟩
  have HB7 := Lib.hid (bStand7 chain hh rr bl dk dr dss hc)
  have hl := Lib.hid (show (⟨chain, hh, rr, 2, bl, dk, dr, dss⟩ : VoteD).cells.length = 39 by simp [VoteD.cells, Lib.byteCells_length, hc])
  rw [hst] at HB7 hl E
  obtain ⟨ps, hps⟩ : ∃ l : List (Nat × Value), [(0, Value.string chain), (1, .int .i64 hh), (2, .int .i64 rr), (3, .int .i64 2), (4, .agg (Lib.byteCells bl).toArray), (5, .int .u64 dk), (6, .agg [.int .u64 dr, .int .u64 dss].toArray)] = l := ⟨_, rfl⟩
  rw [hps] at HB7
  have HPs := Lib.hid hps
  clear hhe hre hbe hst hps
  obtain ⟨b, hb⟩ : ∃ b, w.heap.size = b := ⟨_, rfl⟩
  have HB := Lib.hid hb
  clear hc hb
  go_enter Tryz.func89, Tryz.ntmps89
  go_wp2_with (first | (refine wpList_box_as rfl 28 _ rfl (commitV hh rr bl sl) rfl ?_))
  intro w1 b1 g1 s1
  rw [HB.out] at b1 s1 ⊢
  have B1 := Lib.hid b1; have G1 := Lib.hid g1; have S1 := Lib.hid s1
  clear b1 g1 s1
  go_wp2_with (first | (refine wpList_box_as rfl 128 _ rfl (SealD.mk dk dr dss).cells rfl ?_))
  intro w2 b2 g2 s2
  rw [S1.out] at b2 s2 ⊢
  have D2 := Lib.hid b2; have B2 := Lib.hid (B1.out.grown g2 (by simp)); have G2 := Lib.hid (Lib.grownBy_trans G1.out g2); have S2 := Lib.hid s2
  clear b2 g2 s2 B1 G1 S1
  go_wp2_with (refine wpList_alloc_as rfl 149 rfl ZVote ZVote_info ?_)
  intro w3 b3 g3 s3
  rw [S2.out] at b3 s3 ⊢
  have V3 := Lib.hid b3; have D3 := Lib.hid (D2.out.grown g3 (by simp)); have B3 := Lib.hid (B2.out.grown g3 (by simp)); have G3 := Lib.hid (Lib.grownBy_trans G2.out g3)
  clear b3 g3 s3 B2 D2 G2 S2
  have c0 := B3.out.row 0 (.int .i64 hh) rfl
  have c1 := B3.out.row 1 (.int .i64 rr) rfl
  have d0 := D3.out.row 0 (.int .u64 dk) rfl
  rw [Nat.zero_add] at c0 c1 d0
  have c2 := Lib.hid (show RowAt w3 b 2 (Lib.byteCells bl) from part_of (k := 2) (n := 32) B3.out.row (by simp [commitV, Lib.byteCells_length, HC.out]))
  have d1 := Lib.hid (show RowAt w3 (b + 1) 1 [.int .u64 dr, .int .u64 dss] from part_of (k := 1) (n := 2) D3.out.row rfl)
  go_wp2_with (first | (refine wpList_load_part rfl 23 _ rfl b 2 rfl (Lib.byteCells bl) _ c2.out Tryz.underlying23 rfl (sizeH _ (by rw [Lib.byteCells_length, HC.out])) ?_) | (refine wpList_load_part rfl 126 _ rfl (b + 1) 1 rfl [.int .u64 dr, .int .u64 dss] _ d1.out Tryz.underlying126 rfl sizeSig2 ?_) | (refine wpList_build_eq rfl 149 _ rfl ps (by rw [← HPs.out]; kernel_rfl) _ HB7.out ?_) | (refine wpList_store_whole rfl 149 _ _ rfl (b + 1 + 1) rfl st.cells ZVote 149 rfl V3.out (by rw [hl.out]; rfl) (VoteD_one _) (sizeVote _ hl.out) ?_))
  intro w4 g4 s4 b4
  have V4 := Lib.hid b4; have G4 := Lib.hid (grown_new G3.out g4 (by rw [HB.out]; omega))
  clear b4 g4 s4 c0 c1 d0
  go_wp2_with fail
  refine bodyPost_ret (results_cell_one rfl _ _ ⟨b + 1 + 1, 0, none⟩ _ rfl (run_loadVar_part _ _ _ 149 _ _ V4.out.row Tryz.underlying149 rfl (sizeVote _ hl.out))) rfl ?_
  rw [E.out]
  exact ⟨rfl, G4.out⟩

theorem sgnS_false {ds : List ValD} {chain : ByteArray} {c : CommitD} {k : Nat} (h : sgnS ds chain c k = false) : ∀ n, k ≤ n → sgnS ds chain c n = false
  | 0, hn => by obtain rfl : k = 0 := by omega
                exact h
  | n + 1, hn => by
    rcases Nat.lt_or_ge n k with h1 | h1
    · obtain rfl : k = n + 1 := by omega
      exact h
    · unfold sgnS; rw [sgnS_false h n h1]; rfl
theorem powL_range {ds : List ValD} (h : rightL ds = true) (k : Int) : 0 ≤ powL k ds ∧ powL k ds ≤ 1125899906842624 := by
  have hh := right_each h
  clear h
  induction ds with
  | nil => simp [powL]
  | cons d l ih =>
    unfold powL
    have := hh d (by simp)
    split
    · omega
    · exact ih fun x hx => hh x (by simp [hx])

set_option maxHeartbeats 4000000 in
theorem RShared_ok {B : Nat} (sv : Value) (ds : List ValD) (chain : ByteArray) (c : CommitD) (cs : List Value) (w : World) (hr : RdS B w sv ds.length 2 (setCells ds)) (hch : chain.size ≤ 140737488351232) (hc : c.wf) (hrep : c.rep w.heap.size w cs) (hn : c.seals.length ≤ 1000) (hB : B ≤ w.heap.size) :
    Calls Tryz.prog 53 #[sv, .string chain, .agg cs.toArray] w fun e w' => e = .returned (.tuple #[.int .i64 (sharedL ds chain c).1, .int .i64 (sharedL ds chain c).2]) ∧ w.grownBy w' none := by
  have HRD := Lib.hid hr; have HC := Lib.hid hc; have HCh := Lib.hid hch; have HN := Lib.hid hn; have HBB := Lib.hid hB; have HRep := Lib.hid hrep
  obtain ⟨va, vc, rfl⟩ := right_nil hr
  clear hr hch hn hB
  obtain ⟨sl, hsl, rfl⟩ := hrep
  obtain ⟨ao, cc, rfl, hle, hcm, _, hrow⟩ := hsl
  have HROW := Lib.hid hrow
  unfold maxLen at hcm
  obtain ⟨b, hb⟩ : ∃ b, w.heap.size = b := ⟨_, rfl⟩
  have HB := Lib.hid hb
  rw [hb] at HROW
  have hcw : [.int .i64 c.height, .int .i64 c.round] ++ Lib.byteCells c.block ++ [.slice ao c.seals.length cc] = commitV c.height c.round c.block (.slice ao c.seals.length cc) := rfl
  rw [hcw]
  have HL := Lib.hid (commitV_len c.height c.round c.block (.slice ao c.seals.length cc) HC.out.block)
  have HG34 := Lib.hid (commitV_get c.height c.round c.block (.slice ao c.seals.length cc) HC.out.block)
  have HCm := Lib.hid hcm; have HLe := Lib.hid hle
  clear hcw hb hrow hcm hle
  clear hc
  go_enter Tryz.func53, Tryz.ntmps53
  go_wp2_with (first | (refine wpList_box_as rfl 28 _ rfl (commitV c.height c.round c.block (.slice ao c.seals.length cc)) rfl ?_))
  intro w1 b1 g1 s1
  rw [HB.out] at b1 s1 ⊢
  have B1 := Lib.hid b1; have G1 := Lib.hid g1
  clear b1 g1 s1
  have CR := Lib.hid (RRightV_ok (.slice va ds.length vc) ds w1 (HRD.out.grown G1.out))
  go_wp2_with fail
  refine CR.out.mono ?_
  rintro e w2 ⟨rfl, g2⟩
  have B2 := Lib.hid (B1.out.grown g2 (by simp)); have G2 := Lib.hid (Lib.grownBy_trans G1.out g2)
  clear CR g2 B1 G1
  cases hri : rightL ds with
  | false =>
    have E := Lib.hid (show sharedL ds chain c = (0, 71) by unfold sharedL; rw [if_pos hri])
    go_wp2_with fail
    go_ret2
    rw [E.out]
    exact ⟨rfl, G2.out⟩
  | true =>
    have HRi := Lib.hid hri
    clear hri
    go_wp2_with (first | (refine wpList_load_part rfl 28 _ rfl b 0 rfl (commitV c.height c.round c.block (.slice ao c.seals.length cc)) _ B2.out.row Tryz.underlying28 rfl (by rw [HL.out]; kernel_rfl) ?_))
    refine (rises_ok c (commitV c.height c.round c.block (.slice ao c.seals.length cc)) w2 HC.out (by
      obtain ⟨sl, h1, h2⟩ := HRep.out
      exact ⟨sl, (h1.grown G2.out).mono G2.out.size, h2⟩)).mono ?_
    rintro e w3 ⟨rfl, g3⟩
    have B3 := Lib.hid (B2.out.grown g3 (by simp)); have G3 := Lib.hid (Lib.grownBy_trans G2.out g3)
    clear g3 B2 G2
    obtain ⟨rr, hrr⟩ : ∃ x, (isBlk c && riseS c.seals c.seals.length) = x := ⟨_, rfl⟩
    have HRr := Lib.hid hrr
    rw [hrr]
    have E := Lib.hid (show sharedL ds chain c = if (rr && sgnS ds chain c c.seals.length) = false then (0, 158) else (sumS ds c c.seals.length, 0) by unfold sharedL; rw [if_neg (by simp [HRi.out]), hrr])
    clear hrr
    go_wp2_with fail
    go_loopw [8, 9, 10] (fun ok x i wr => ∃ (k : Nat) (n : Int), k ≤ c.seals.length ∧ i = .int .i64 k ∧ ok = .bool (rr && sgnS ds chain c k) ∧ x = .int .i64 n ∧ 0 ≤ n ∧ n ≤ k * 1125899906842624 ∧ ((rr && sgnS ds chain c k) = true → n = sumS ds c k) ∧ w.grownBy wr none ∧ Blk wr b (commitV c.height c.round c.block (.slice ao c.seals.length cc)) 28) (fun _ _ i _ => c.seals.length - (intOf i).toNat)
    case atStart => exact ⟨0, 0, Nat.zero_le _, rfl, by simp [sgnS], rfl, by omega, by omega, fun _ => rfl, G3.out, B3.out⟩
    case round =>
      obtain ⟨k, n, hk, rfl, rfl, rfl, hn0, hn1, hns, hg, hbk⟩ := hrel
      have Hn := Lib.hid hns; have Hg := Lib.hid hg; have Hb := Lib.hid hbk
      clear hns hg hbk B3 G3
      obtain ⟨okk, hok⟩ : ∃ x, (rr && sgnS ds chain c k) = x := ⟨_, rfl⟩
      have HOk := Lib.hid hok
      rw [hok]
      clear hok
      have c34 := Hb.out.row 34 _ HG34.out
      rw [Nat.zero_add] at c34
      by_cases hlt : k < c.seals.length
      · cases okk with
        | false =>
          have E2 := Lib.hid (show (rr && sgnS ds chain c c.seals.length) = false by
            have h := HOk.out
            cases rr with
            | false => rfl
            | true => rw [Bool.true_and] at h ⊢; exact sgnS_false h _ hk)
          go_wp2_with fail
          go_ret2
          rw [E.out, if_pos E2.out]
          exact ⟨rfl, Hg.out⟩
        | true =>
          rcases HROW.out with h0 | ⟨g, o, rfl, hgl, hrow⟩
          · omega
          have hcm := HCm.out; have hle := HLe.out; have hnn := HN.out
          have HSR := Lib.hid hrow
          have p1 := RowAt.elem (hrow.grown Hg.out (by simp)) (fun d _ => d.cells_length) k hlt 0 _ rfl
          rw [Nat.add_zero] at p1
          obtain ⟨d, hd⟩ : ∃ d, d = c.seals[k] := ⟨_, rfl⟩
          rw [← hd] at p1
          have HDk := Lib.hid hd
          have HSA := Lib.hid (show sealAt c.seals k = d by rw [sealAt_get hlt, hd])
          have Hdw := Lib.hid (show d.wf from hd ▸ HC.out.seals _ (List.getElem_mem hlt))
          obtain ⟨ky, hky⟩ : ∃ x, d.key = x := ⟨_, rfl⟩
          have HKy := Lib.hid hky
          rw [hky] at p1
          clear hrow hd hky
          have CP := Lib.hid (RPowerV_ok (.slice va ds.length vc) ds ky wr (HRD.out.grown Hg.out))
          go_wp2_with fail
          refine CP.out.mono ?_
          rintro e w4 ⟨rfl, rfl⟩
          clear CP
          have pr := powL_range HRi.out ky
          have ES := Lib.hid (show sumS ds c (k + 1) = sumS ds c k + powL ky ds by rw [sumS, HSA.out, HKy.out])
          have EG := Lib.hid (show (rr && sgnS ds chain c (k + 1)) = (decide (powL ky ds = 0) || signedB (stand chain c d)) by
            rw [sgnS, ← Bool.and_assoc, HOk.out, HSA.out, HKy.out, Bool.true_and])
          obtain ⟨pn, hpn⟩ : ∃ x, powL ky ds = x := ⟨_, rfl⟩
          rw [hpn] at pr ES EG ⊢
          clear hpn
          have hns := Hn.out HOk.out
          by_cases hp0 : pn = 0
          · subst hp0
            have E3 := Lib.hid (show (rr && sgnS ds chain c (k + 1)) = true by rw [EG.out]; rfl)
            have E4 := Lib.hid (show n = sumS ds c (k + 1) by rw [ES.out, hns]; omega)
            clear pr hns c34 p1
            go_wp2_with fail
            exact ⟨⟨k + 1, n, by omega, by go_num, by rw [E3.out], rfl, by omega, by omega, fun _ => E4.out, Hg.out, Hb.out⟩, by simp [intOf]; omega⟩
          · have hp1 : 0 < pn := by omega
            have E3 := Lib.hid (show (rr && sgnS ds chain c (k + 1)) = signedB (stand chain c d) by rw [EG.out, decide_eq_false hp0, Bool.false_or])
            have E4 := Lib.hid (show n + pn = sumS ds c (k + 1) by rw [ES.out, hns])
            have ew := IntWalk.i64_in (n + pn) (by omega)
            have EW := Lib.hid ew
            clear hns c34 p1 ew
            go_upto_region 11 with (fail)
            have k0 := Lib.hid (dr_grown wr 1)
            have KF := Lib.hid (show ∀ W, wr.grownBy W none → RowAt W b 0 (commitV c.height c.round c.block (.slice (some ⟨g, o, none⟩) c.seals.length cc)) ∧ W.cell? ⟨b, 34, none⟩ = some (.slice (some ⟨g, o, none⟩) c.seals.length cc) ∧ RowAt W g (o + k * 3) d.cells from fun W gg => by
              have r := (Hb.out.grown gg (by simp)).row
              have q := r 34 _ HG34.out
              have q2 := RowAt.elem (HSR.out.grown (Lib.grownBy_trans Hg.out gg) (by simp)) (fun d _ => d.cells_length) k hlt
              rw [Nat.zero_add] at q
              rw [← HDk.out] at q2
              exact ⟨r, q, q2⟩)
            have Hst := Lib.hid (show (stand chain c d).wf from put_wf (standB_wf HC.out (Nat.le_trans HCh.out (by decide))) Hdw.out.1 Hdw.out.2.1 Hdw.out.2.2)
            have Hsc := Lib.hid (show (stand chain c d).chain.size ≤ 140737488351232 from HCh.out)
            have CS := Lib.hid (fun W => Stands_ok chain c (.slice (some ⟨g, o, none⟩) c.seals.length cc) d W HC.out.block)
            obtain ⟨st, hst⟩ : ∃ v, stand chain c d = v := ⟨_, rfl⟩
            rw [hst] at Hst Hsc CS E3
            have HStE := Lib.hid hst
            clear hst
            go_cut [8] from 38 to 49 (fun s8 w' => s8 = .bool (signedB st) ∧ wr.grownBy w' none)
            case first =>
              refine wp_region_held_drew (S := fun W => RowAt W b 0 (commitV c.height c.round c.block (.slice (some ⟨g, o, none⟩) c.seals.length cc)) ∧ W.cell? ⟨b, 34, none⟩ = some (.slice (some ⟨g, o, none⟩) c.seals.length cc) ∧ RowAt W g (o + k * 3) d.cells) (by kernel_rfl) (KF.out _ k0.out) (fun hH => ?_)
              refine wpAnyH_take (i := 0) (v := (.string chain)) rfl (by kernel_rfl) (by kernel_rfl) (by kernel_rfl) (fun _ _ _ h => h) (Or.inl ⟨by rfl, fun W hS => by go_simp⟩) hH ?_
              simp only [Act.put, List.getElem_toArray, List.getElem_cons_zero, List.setIfInBounds_toArray, List.set_cons_zero, List.set_cons_succ]
              refine wpAnyH_take (i := 1) (v := (.agg (commitV c.height c.round c.block (.slice (some ⟨g, o, none⟩) c.seals.length cc)).toArray)) rfl (by kernel_rfl) (by kernel_rfl) (by kernel_rfl) (fun _ _ _ h => h) (yieldsIf_load_mid (by rfl) 28 _ rfl b 0 rfl (commitV c.height c.round c.block (.slice (some ⟨g, o, none⟩) c.seals.length cc)) _ (fun W h => h.1) Tryz.underlying28 rfl (by rw [HL.out]; kernel_rfl)) hH ?_
              simp only [Act.put, List.getElem_toArray, List.getElem_cons_succ, List.getElem_cons_zero, List.setIfInBounds_toArray, List.set_cons_zero, List.set_cons_succ]
              refine wpAnyH_take (i := 2) (v := (.pointer (some ⟨b, 34, none⟩))) rfl (by kernel_rfl) (by kernel_rfl) (by kernel_rfl) (fun _ _ _ h => h) (Or.inl ⟨by rfl, fun W hS => by go_simp⟩) hH ?_
              simp only [Act.put, List.getElem_toArray, List.getElem_cons_succ, List.getElem_cons_zero, List.setIfInBounds_toArray, List.set_cons_zero, List.set_cons_succ]
              refine wpAnyH_take (i := 3) (v := (.slice (some ⟨g, o, none⟩) c.seals.length cc)) rfl (by kernel_rfl) (by kernel_rfl) (by kernel_rfl) (fun _ _ _ h => h) (Or.inl ⟨by rfl, fun W hS => by have c := hS.2.1; go_simp⟩) hH ?_
              simp only [Act.put, List.getElem_toArray, List.getElem_cons_succ, List.getElem_cons_zero, List.setIfInBounds_toArray, List.set_cons_zero, List.set_cons_succ]
              refine wpAnyH_take (i := 4) (v := (.int .i64 k)) rfl (by kernel_rfl) (by kernel_rfl) (by kernel_rfl) (fun _ _ _ h => h) (Or.inl ⟨by rfl, fun W hS => by go_simp⟩) hH ?_
              simp only [Act.put, List.getElem_toArray, List.getElem_cons_succ, List.getElem_cons_zero, List.setIfInBounds_toArray, List.set_cons_zero, List.set_cons_succ]
              refine wpAnyH_take (i := 5) (v := (.pointer (some ⟨g, o + k * 3, none⟩))) rfl (by kernel_rfl) (by kernel_rfl) (by kernel_rfl) (fun _ _ _ h => h) (Or.inl ⟨by rfl, fun W hS => by go_simp⟩) hH ?_
              simp only [Act.put, List.getElem_toArray, List.getElem_cons_succ, List.getElem_cons_zero, List.setIfInBounds_toArray, List.set_cons_zero, List.set_cons_succ]
              refine wpAnyH_take (i := 6) (v := (.agg d.cells.toArray)) rfl (by kernel_rfl) (by kernel_rfl) (by kernel_rfl) (fun _ _ _ h => h) (yieldsIf_load_mid (by rfl) 128 _ rfl g (o + k * 3) rfl d.cells _ (fun W h => h.2.2) Tryz.underlying128 rfl sizeSeal) hH ?_
              simp only [Act.put, List.getElem_toArray, List.getElem_cons_succ, List.getElem_cons_zero, List.setIfInBounds_toArray, List.set_cons_zero, List.set_cons_succ]
              refine wpAnyH_ready (rs := [7]) (by kernel_rfl) (by simp) ?_
              refine AllReadyH.cons rfl (fun K hK => ?_) AllReadyH.nil
              refine step_wanted (by rfl) (wp_call 89 _ _ (by rfl) (enters Tryz.func89 (by kernel_rfl) rfl) (by rfl) (CS.out _) ?_)
              rintro e u1 ⟨rfl, g1⟩
              refine ⟨_, rfl, ?_⟩
              have k1 := Lib.hid (Lib.grownBy_trans k0.out g1)
              clear g1
              simp only [Act.put, List.getElem_toArray, List.getElem_cons_succ, List.getElem_cons_zero, List.setIfInBounds_toArray, List.set_cons_zero, List.set_cons_succ]
              refine hK.out _ _ (KF.out _ k1.out) (fun hH => ?_)
              clear hK K
              refine wpAnyH_ready (rs := [8]) (by kernel_rfl) (by simp) ?_
              refine AllReadyH.cons rfl (fun K hK => ?_) AllReadyH.nil
              refine step_wanted (by rfl) (wp_call 88 _ _ (by rfl) (enters Tryz.func88 (by kernel_rfl) rfl) (by rfl) (RSigned_ok st u1 Hst.out Hsc.out) ?_)
              rintro e u2 ⟨rfl, g2⟩
              refine ⟨_, rfl, ?_⟩
              have k2 := Lib.hid (Lib.grownBy_trans k1.out g2)
              clear g2
              simp only [Act.put, List.getElem_toArray, List.getElem_cons_succ, List.getElem_cons_zero, List.setIfInBounds_toArray, List.set_cons_zero, List.set_cons_succ]
              refine hK.out _ _ (KF.out _ k2.out) (fun hH => ?_)
              clear hK K
              refine wpAnyH_take (i := 9) (v := (.bool (signedB st))) rfl (by kernel_rfl) (by kernel_rfl) (by kernel_rfl) (fun _ _ _ h => h) (Or.inl ⟨by rfl, fun W hS => by go_simp⟩) hH ?_
              simp only [Act.put, List.getElem_toArray, List.getElem_cons_succ, List.getElem_cons_zero, List.setIfInBounds_toArray, List.set_cons_zero, List.set_cons_succ]
              refine wpAnyH_done (by kernel_rfl) ?_ _
              go_wp2
              go_meet
              case rel => exact ⟨rfl, k2.out⟩
            obtain ⟨hu8, g5⟩ := hcut
            subst hu8
            have B5 := Lib.hid (Hb.out.grown g5 (by simp)); have G5 := Lib.hid (Lib.grownBy_trans Hg.out g5)
            clear g5 k0 KF CS
            have ew := EW.out
            rw [← E3.out]
            go_wp2_with fail
            exact ⟨⟨k + 1, n + pn, by omega, by go_num, rfl, rfl, by omega, by omega, fun _ => E4.out, G5.out, B5.out⟩, by simp [intOf]; omega⟩
      · obtain rfl : k = c.seals.length := by omega
        cases okk with
        | false =>
          go_wp2_with fail
          go_ret2
          rw [E.out, if_pos HOk.out]
          exact ⟨rfl, Hg.out⟩
        | true =>
          go_wp2_with fail
          go_ret2
          rw [E.out, if_neg (by rw [HOk.out]; simp), Hn.out HOk.out]
          exact ⟨rfl, Hg.out⟩

set_option maxHeartbeats 4000000 in
theorem RCheck_ok {B : Nat} (sv : Value) (ds : List ValD) (chain : ByteArray) (c : CommitD) (cs : List Value) (w : World) (hr : RdS B w sv ds.length 2 (setCells ds)) (hch : chain.size ≤ 140737488351232) (hc : c.wf) (hrep : c.rep w.heap.size w cs) (hn : c.seals.length ≤ 1000) (hB : B ≤ w.heap.size) :
    Calls Tryz.prog 83 #[sv, .string chain, .agg cs.toArray] w fun e w' => e = .returned (.int .i64 (checkL ds chain c)) ∧ w.grownBy w' none := by
  have HRD := Lib.hid hr; have HC := Lib.hid hc; have HCh := Lib.hid hch; have HN := Lib.hid hn; have HBB := Lib.hid hB; have HRep := Lib.hid hrep
  obtain ⟨va, vc, rfl⟩ := right_nil hr
  clear hr hch hn hB
  obtain ⟨sl, hsl, rfl⟩ := hrep
  obtain ⟨ao, cc, rfl, hle, hcm, _, hrow⟩ := hsl
  have HROW := Lib.hid hrow
  unfold maxLen at hcm
  obtain ⟨b, hb⟩ : ∃ b, w.heap.size = b := ⟨_, rfl⟩
  have HB := Lib.hid hb
  rw [hb] at HROW
  have hcw : [.int .i64 c.height, .int .i64 c.round] ++ Lib.byteCells c.block ++ [.slice ao c.seals.length cc] = commitV c.height c.round c.block (.slice ao c.seals.length cc) := rfl
  rw [hcw]
  have HL := Lib.hid (commitV_len c.height c.round c.block (.slice ao c.seals.length cc) HC.out.block)
  have HG34 := Lib.hid (commitV_get c.height c.round c.block (.slice ao c.seals.length cc) HC.out.block)
  have HCm := Lib.hid hcm; have HLe := Lib.hid hle
  clear hcw hb hrow hcm hle
  clear hc
  go_enter Tryz.func83, Tryz.ntmps83
  go_wp2_with (first | (refine wpList_box_as rfl 28 _ rfl (commitV c.height c.round c.block (.slice ao c.seals.length cc)) rfl ?_))
  intro w1 b1 g1 s1
  rw [HB.out] at b1 s1 ⊢
  have B1 := Lib.hid b1; have G1 := Lib.hid g1
  clear b1 g1 s1
  go_wp2_with (first | (refine wpList_load_part rfl 28 _ rfl b 0 rfl (commitV c.height c.round c.block (.slice ao c.seals.length cc)) _ B1.out.row Tryz.underlying28 rfl (by rw [HL.out]; kernel_rfl) ?_))
  refine (RShared_ok (.slice va ds.length vc) ds chain c (commitV c.height c.round c.block (.slice ao c.seals.length cc)) w1 (HRD.out.grown G1.out) HCh.out HC.out (by
      obtain ⟨sl, h1, h2⟩ := HRep.out
      exact ⟨sl, (h1.grown G1.out).mono G1.out.size, h2⟩) HN.out (Nat.le_trans HBB.out G1.out.size)).mono ?_
  rintro e w2 ⟨rfl, g2⟩
  have B2 := Lib.hid (B1.out.grown g2 (by simp)); have G2 := Lib.hid (Lib.grownBy_trans G1.out g2)
  clear g2 B1 G1
  by_cases hsh : (sharedL ds chain c).2 = 0
  · have hri : rightL ds = true := by
      cases h : rightL ds with
      | true => rfl
      | false => unfold sharedL at hsh; rw [if_pos h] at hsh; cases hsh
    have hok : (isBlk c && riseS c.seals c.seals.length && sgnS ds chain c c.seals.length) = true := by
      cases h : (isBlk c && riseS c.seals c.seals.length && sgnS ds chain c c.seals.length) with
      | true => rfl
      | false => unfold sharedL at hsh; rw [if_neg (by simp [hri]), if_pos h] at hsh; cases hsh
    have hs2 : sharedL ds chain c = (sumS ds c c.seals.length, 0) := by unfold sharedL; rw [if_neg (by simp [hri]), if_neg (by simp [hok])]
    have HRi := Lib.hid hri
    obtain ⟨n, hn⟩ : ∃ n, sumS ds c c.seals.length = n := ⟨_, rfl⟩
    rw [hs2, hn]
    have E := Lib.hid (show checkL ds chain c = if twoB n (totalL ds) && allS ds c c.seals.length then 0 else 158 by unfold checkL; rw [if_neg (by simp [hri]), if_neg (by simp [hok]), hn])
    have ht : (sumL ds).getD (-1) = totalL ds := by
      have h := hri
      unfold rightL at h
      simp only [Bool.and_eq_true] at h
      obtain ⟨m, hm⟩ := Option.isSome_iff_exists.1 h.1.1.1
      unfold totalL; rw [if_pos hri, hm]; rfl
    have CS := RSumV_ok (.slice va ds.length vc) ds w2 (HRD.out.grown G2.out)
    rw [ht] at CS
    obtain ⟨tot, htot⟩ : ∃ x, totalL ds = x := ⟨_, rfl⟩
    rw [htot] at CS E
    have HCS := Lib.hid CS
    obtain ⟨tw, htw⟩ : ∃ x, twoB n tot = x := ⟨_, rfl⟩
    have CT := RTwo_ok n tot w2
    rw [htw] at CT E
    have HCT := Lib.hid CT
    clear hsh hri hok hs2 hn ht CS htot CT htw
    go_wp2_with fail
    refine HCS.out.mono ?_
    rintro e w3 ⟨rfl, rfl⟩
    go_wp2_with fail
    refine HCT.out.mono ?_
    rintro e w3 ⟨rfl, rfl⟩
    clear HCS HCT
    go_wp2_with fail
    go_loopw [9, 10] (fun t i wr => ∃ k : Nat, k ≤ c.seals.length ∧ i = .int .i64 k ∧ t = .bool (tw && allS ds c k) ∧ w.grownBy wr none ∧ Blk wr b (commitV c.height c.round c.block (.slice ao c.seals.length cc)) 28) (fun _ i _ => c.seals.length - (intOf i).toNat)
    case atStart => exact ⟨0, Nat.zero_le _, rfl, by simp [allS], G2.out, B2.out⟩
    case round =>
      obtain ⟨k, hk, rfl, rfl, hg, hbk⟩ := hrel
      have Hg := Lib.hid hg; have Hb := Lib.hid hbk
      clear hg hbk B2 G2
      obtain ⟨okk, hok⟩ : ∃ x, (tw && allS ds c k) = x := ⟨_, rfl⟩
      have HOk := Lib.hid hok
      rw [hok]
      clear hok
      have c34 := Hb.out.row 34 _ HG34.out
      rw [Nat.zero_add] at c34
      by_cases hlt : k < c.seals.length
      · rcases HROW.out with h0 | ⟨g, o, rfl, hgl, hrow⟩
        · omega
        have hcm := HCm.out; have hle := HLe.out; have hnn := HN.out
        cases okk with
        | false =>
          have E3 := Lib.hid (show (tw && allS ds c (k + 1)) = false by rw [allS, ← Bool.and_assoc, HOk.out]; rfl)
          clear hrow
          go_wp2_with fail
          exact ⟨⟨k + 1, by omega, by go_num, by rw [E3.out], Hg.out, Hb.out⟩, by simp [intOf]; omega⟩
        | true =>
          have p1 := RowAt.elem (hrow.grown Hg.out (by simp)) (fun d _ => d.cells_length) k hlt 0 _ rfl
          rw [Nat.add_zero] at p1
          obtain ⟨d, hd⟩ : ∃ d, d = c.seals[k] := ⟨_, rfl⟩
          rw [← hd] at p1
          have HSA := Lib.hid (show sealAt c.seals k = d by rw [sealAt_get hlt, hd])
          obtain ⟨ky, hky⟩ : ∃ x, d.key = x := ⟨_, rfl⟩
          have HKy := Lib.hid hky
          rw [hky] at p1
          clear hrow hd hky
          have CP := Lib.hid (RPowerV_ok (.slice va ds.length vc) ds ky wr (HRD.out.grown Hg.out))
          go_wp2_with fail
          refine CP.out.mono ?_
          rintro e w4 ⟨rfl, rfl⟩
          clear CP
          have pr := powL_range HRi.out ky
          have EG := Lib.hid (show (tw && allS ds c (k + 1)) = decide (powL ky ds ≠ 0) by rw [allS, ← Bool.and_assoc, HOk.out, HSA.out, HKy.out, Bool.true_and])
          obtain ⟨pn, hpn⟩ : ∃ x, powL ky ds = x := ⟨_, rfl⟩
          rw [hpn] at pr EG ⊢
          clear hpn
          have E3 := Lib.hid (show (tw && allS ds c (k + 1)) = decide (0 < pn) by rw [EG.out]; by_cases h : pn = 0 <;> simp [h]; omega)
          clear pr
          go_wp2_with fail
          exact ⟨⟨k + 1, by omega, by go_num, by rw [E3.out], Hg.out, Hb.out⟩, by simp [intOf]; omega⟩
      · obtain rfl : k = c.seals.length := by omega
        cases okk with
        | false =>
          go_wp2_with fail
          go_ret
          rw [E.out, if_neg (by rw [HOk.out]; simp)]
          exact ⟨rfl, Hg.out⟩
        | true =>
          go_wp2_with fail
          go_ret
          rw [E.out, if_pos HOk.out]
          exact ⟨rfl, Hg.out⟩
  · have hc2 : checkL ds chain c = (sharedL ds chain c).2 := by
      unfold checkL sharedL
      unfold sharedL at hsh
      split
      · rfl
      · rename_i h1
        rw [if_neg h1] at hsh
        split
        · rfl
        · rename_i h2
          rw [if_neg h2] at hsh
          exact absurd rfl hsh
    have E := Lib.hid hc2
    obtain ⟨x, hx⟩ : ∃ x, (sharedL ds chain c).2 = x := ⟨_, rfl⟩
    obtain ⟨y, hy⟩ : ∃ x, (sharedL ds chain c).1 = x := ⟨_, rfl⟩
    rw [hx] at hsh E
    rw [hx, hy]
    clear hx hy hc2
    go_wp2_with fail
    go_ret
    rw [E.out]
    exact ⟨rfl, G2.out⟩

def RiseP (l : List SealD) : Prop := (l.map (·.key)).Pairwise (· < ·)
def SgnP (ds : List ValD) (chain : ByteArray) (c : CommitD) : Prop := ∀ s ∈ c.seals, powL s.key ds = 0 ∨ signedB (stand chain c s) = true
def powS (ds : List ValD) (l : List SealD) : Int := (l.map fun s => powL s.key ds).sum
theorem riseS_iff (l : List SealD) : ∀ k, riseS l k = true ↔ ∀ i, i + 1 < k → keyS l i < keyS l (i + 1)
  | 0 => by simp [riseS]
  | k + 1 => by
    rw [riseS, Bool.and_eq_true, riseS_iff l k, Bool.or_eq_true, beq_iff_eq, decide_eq_true_eq]
    constructor
    · rintro ⟨h1, h2⟩ i hi
      by_cases h : i + 1 < k
      · exact h1 i h
      · obtain rfl : k = i + 1 := by omega
        rcases h2 with h2 | h2
        · omega
        · exact h2
    · intro h
      refine ⟨fun i hi => h i (by omega), ?_⟩
      by_cases h0 : k = 0
      · exact .inl h0
      · have := h (k - 1) (by omega)
        rw [show k - 1 + 1 = k by omega] at this
        exact .inr this
theorem rise_all {f : Nat → Int} {n : Nat} (h : ∀ i, i + 1 < n → f i < f (i + 1)) : ∀ j i, i < j → j < n → f i < f j
  | 0, i, hi, _ => absurd hi (Nat.not_lt_zero _)
  | j + 1, i, hi, hj => by
    have := h j hj
    by_cases e : i = j
    · subst e; exact this
    · exact Int.lt_trans (rise_all h j i (by omega) (by omega)) this
theorem rise_pw (l : List SealD) : riseS l l.length = true ↔ RiseP l := by
  rw [riseS_iff, RiseP, List.pairwise_iff_getElem]
  constructor
  · intro h i j hi hj hij
    rw [List.length_map] at hi hj
    have := rise_all h j i hij hj
    rw [keyS_get hi, keyS_get hj] at this
    simpa using this
  · intro h i hi
    have := h i (i + 1) (by rw [List.length_map]; omega) (by rw [List.length_map]; omega) (by omega)
    rw [keyS_get (show i < l.length by omega), keyS_get hi]
    simpa using this
theorem sumS_sum (ds : List ValD) (c : CommitD) : ∀ k, k ≤ c.seals.length → sumS ds c k = powS ds (c.seals.take k)
  | 0, _ => by simp [sumS, powS]
  | k + 1, hk => by
    have e : c.seals.take (k + 1) = c.seals.take k ++ [c.seals[k]] := by rw [List.take_add_one, List.getElem?_eq_getElem (by omega)]; rfl
    rw [sumS, sumS_sum ds c k (by omega), sealAt_get (by omega), e, powS, powS, List.map_append, List.sum_append]
    simp
theorem allS_iff (ds : List ValD) (c : CommitD) : ∀ k, allS ds c k = true ↔ ∀ i, i < k → powL (sealAt c.seals i).key ds ≠ 0
  | 0 => by simp [allS]
  | k + 1 => by
    rw [allS, Bool.and_eq_true, allS_iff ds c k, decide_eq_true_eq]
    constructor
    · rintro ⟨h1, h2⟩ i hi
      by_cases e : i = k
      · subst e; exact h2
      · exact h1 i (by omega)
    · exact fun h => ⟨fun i hi => h i (by omega), h k (by omega)⟩
theorem sgnS_iff (ds : List ValD) (chain : ByteArray) (c : CommitD) : ∀ k, sgnS ds chain c k = true ↔ ∀ i, i < k → powL (sealAt c.seals i).key ds = 0 ∨ signedB (stand chain c (sealAt c.seals i)) = true
  | 0 => by simp [sgnS]
  | k + 1 => by
    rw [sgnS, Bool.and_eq_true, sgnS_iff ds chain c k, Bool.or_eq_true, decide_eq_true_eq]
    constructor
    · rintro ⟨h1, h2⟩ i hi
      by_cases e : i = k
      · subst e; exact h2
      · exact h1 i (by omega)
    · exact fun h => ⟨fun i hi => h i (by omega), h k (by omega)⟩
theorem at_mem {l : List SealD} {P : SealD → Prop} : (∀ i, i < l.length → P (sealAt l i)) ↔ ∀ s ∈ l, P s := by
  constructor
  · intro h s hs
    obtain ⟨i, hi, rfl⟩ := List.getElem_of_mem hs
    have := h i hi
    rwa [sealAt_get hi] at this
  · intro h i hi
    rw [sealAt_get hi]
    exact h _ (List.getElem_mem hi)
theorem okS_iff (ds : List ValD) (chain : ByteArray) (c : CommitD) : (isBlk c && riseS c.seals c.seals.length && sgnS ds chain c c.seals.length) = true ↔ isBlk c = true ∧ RiseP c.seals ∧ SgnP ds chain c := by
  rw [Bool.and_eq_true, Bool.and_eq_true, rise_pw, sgnS_iff, at_mem (P := fun s => powL s.key ds = 0 ∨ signedB (stand chain c s) = true), and_assoc]; rfl
theorem sum_all (ds : List ValD) (c : CommitD) : sumS ds c c.seals.length = powS ds c.seals := by
  rw [sumS_sum ds c _ (Nat.le_refl _), List.take_length]
theorem shared_yes {ds : List ValD} {chain : ByteArray} {c : CommitD} (hr : rightL ds = true) (h1 : isBlk c = true) (h2 : RiseP c.seals) (h3 : SgnP ds chain c) : sharedL ds chain c = (powS ds c.seals, 0) := by
  unfold sharedL
  rw [if_neg (by simp [hr]), if_neg (by rw [(okS_iff ds chain c).2 ⟨h1, h2, h3⟩]; simp), sum_all]
/-- a commit that is shared without an error -/
theorem shared_ok {ds : List ValD} {chain : ByteArray} {c : CommitD} (h : (sharedL ds chain c).2 = 0) : rightL ds = true ∧ isBlk c = true ∧ RiseP c.seals ∧ SgnP ds chain c ∧ (sharedL ds chain c).1 = powS ds c.seals := by
  unfold sharedL at h ⊢
  by_cases hr : rightL ds = false
  · rw [if_pos hr] at h; exact absurd h (by decide)
  rw [if_neg hr] at h ⊢
  by_cases hok : (isBlk c && riseS c.seals c.seals.length && sgnS ds chain c c.seals.length) = false
  · rw [if_pos hok] at h; exact absurd h (by decide)
  rw [if_neg hok]
  obtain ⟨a, b, d⟩ := (okS_iff ds chain c).1 (by rw [Bool.not_eq_false] at hok; exact hok)
  exact ⟨by simpa using hr, a, b, d, sum_all ds c⟩
theorem check_iff {ds : List ValD} {chain : ByteArray} {c : CommitD} : checkL ds chain c = 0 ↔ rightL ds = true ∧ isBlk c = true ∧ RiseP c.seals ∧ SgnP ds chain c ∧ twoB (powS ds c.seals) (totalL ds) = true ∧ ∀ s ∈ c.seals, powL s.key ds ≠ 0 := by
  unfold checkL
  by_cases hr : rightL ds = false
  · rw [if_pos hr]; simp [hr]
  rw [if_neg hr]
  by_cases hok : (isBlk c && riseS c.seals c.seals.length && sgnS ds chain c c.seals.length) = false
  · rw [if_pos hok]
    constructor
    · intro h; exact absurd h (by decide)
    · rintro ⟨_, a, b, d, _⟩
      rw [(okS_iff ds chain c).2 ⟨a, b, d⟩] at hok
      exact absurd hok (by decide)
  rw [if_neg hok, sum_all]
  obtain ⟨a, b, d⟩ := (okS_iff ds chain c).1 (by rw [Bool.not_eq_false] at hok; exact hok)
  by_cases ht : (twoB (powS ds c.seals) (totalL ds) && allS ds c c.seals.length) = true
  · rw [if_pos ht]
    rw [Bool.and_eq_true, allS_iff, at_mem (P := fun s => powL s.key ds ≠ 0)] at ht
    exact ⟨fun _ => ⟨by simpa using hr, a, b, d, ht.1, ht.2⟩, fun _ => rfl⟩
  · rw [if_neg ht]
    constructor
    · intro h; exact absurd h (by decide)
    · rintro ⟨_, _, _, _, e, f⟩
      refine absurd ?_ ht
      rw [Bool.and_eq_true, allS_iff, at_mem (P := fun s => powL s.key ds ≠ 0)]
      exact ⟨e, f⟩
theorem check_two {ds : List ValD} {chain : ByteArray} {c : CommitD} (hr : rightL ds = true) : checkL ds chain c = 0 ∨ checkL ds chain c = 158 := by
  unfold checkL
  rw [if_neg (by simp [hr])]
  split
  · exact .inr rfl
  · split
    · exact .inl rfl
    · exact .inr rfl

end Go.Proofs.YtbhghlendbcejaaGreatDoor
