/- Walks: valset.Hash, verify.Sound; the document's: all are as the plain law says. Walks: verify.Sound, the document's Sound: as the plain law says. -/
import Derived.Test.YtbhghlendbcejaaGreatDoorLx
import Derived.Test.YtbhghlendbcejaaGreatDoorVf
import Derived.Lib.Strings
namespace Go.Proofs.YtbhghlendbcejaaGreatDoor
open Go.RowKit
set_option maxRecDepth 100000

theorem right_set {ds : List ValD} (h : rightL ds = true) : okSet ds = true := by
  unfold rightL at h
  simp only [Bool.and_eq_true] at h
  unfold okSet
  exact h.2
def vhashL (ds : List ValD) : List UInt8 := if rightL ds then setHash ds else List.replicate 32 0
def errV (ds : List ValD) : Int := if rightL ds then 0 else 71
theorem vhashL_len (ds : List ValD) : (vhashL ds).length = 32 := by
  unfold vhashL
  split
  · exact blake_len _
  · rfl
set_option maxHeartbeats 1000000 in
theorem vHash_ok {B : Nat} (v : Value) (ds : List ValD) (w : World) (hw : ∀ d ∈ ds, d.wf) (hr : RdS B w v ds.length 2 (setCells ds)) (hB : B ≤ w.heap.size) (hR : RowAt w 1 0 (wCells rootsL)) :
    Calls Tryz.prog 68 #[v] w fun e w' => e = .returned (.tuple #[.agg (Lib.byteCells (vhashL ds)).toArray, .int .i64 (errV ds)]) ∧ w.grownBy w' none := by
  obtain ⟨ao, cp, hv⟩ := hr.shape
  subst hv
  have HR := Lib.hid hR; have HV := Lib.hid hw; have HS := Lib.hid (hr.mono hB)
  clear hR hw hr hB
  go_enter Tryz.func68, Tryz.ntmps68
  go_wp2_with (refine wpList_alloc_as rfl 23 rfl ZH ZH_info ?_)
  intro w2 k1 k2 k3
  have O := Lib.hid k1; have G := Lib.hid k2
  clear k1 k2 k3
  have CR := Lib.hid (vRight_ok _ ds w2 (HS.out.grown G.out))
  cases hri : rightL ds with
  | false =>
    rw [hri] at CR
    have E := Lib.hid (show vhashL ds = List.replicate 32 0 by unfold vhashL; rw [hri]; rfl); have EE := Lib.hid (show errV ds = 71 by unfold errV; rw [hri]; rfl)
    clear hri
    go_wp2_with fail
    refine CR.out.mono ?_
    rintro e w3 ⟨rfl, g3⟩
    replace O := Lib.hid (O.out.grown g3 (by simp)); replace G := Lib.hid (Lib.grownBy_trans G.out g3)
    clear g3 CR
    go_wp2_with (first | (refine wpList_build_eq rfl 23 _ rfl [] (by kernel_rfl) ZH bHash0 ?_) | (refine wpList_store_whole rfl 23 _ _ rfl w.heap.size rfl ZH ZH 23 rfl O.out rfl ZH_one (sizeH _ ZH_length) ?_))
    intro w4 g4 s4 b4
    have B4 := Lib.hid b4; have G4 := Lib.hid (grown_new G.out g4 (Nat.le_refl _))
    clear b4 g4 s4
    go_wp2
    refine bodyPost_ret (results_cell_tmp rfl _ _ ⟨w.heap.size, 0, none⟩ _ _ rfl rfl (run_loadVar_part _ _ _ 23 ZH _ B4.out.row Tryz.underlying23 rfl (sizeH _ ZH_length))) rfl ?_
    rw [E.out, EE.out]
    exact ⟨rfl, G4.out⟩
  | true =>
    rw [hri] at CR
    have E := Lib.hid (show vhashL ds = setHash ds by unfold vhashL; rw [hri]; rfl); have EE := Lib.hid (show errV ds = 0 by unfold errV; rw [hri]; rfl)
    have EO := Lib.hid (right_set hri)
    clear hri
    go_wp2_with fail
    refine CR.out.mono ?_
    rintro e w3 ⟨rfl, g3⟩
    replace O := Lib.hid (O.out.grown g3 (by simp)); replace G := Lib.hid (Lib.grownBy_trans G.out g3)
    clear g3 CR
    have CH := SetHash_any (.slice ao ds.length cp) ds w3 HV.out ((HS.out.grown G.out).mono G.out.size) (HR.out.grown G.out (by simp))
    unfold Hashes hshL at CH
    rw [EO.out, if_pos rfl, if_pos rfl] at CH
    have CH := Lib.hid CH
    obtain ⟨X, hX⟩ : ∃ X, setHash ds = X := ⟨_, rfl⟩
    have hX2 : blake (3 :: encSet ds) = X := hX
    rw [hX2] at CH
    have hxl : (Lib.byteCells X).length = 32 := by rw [Lib.byteCells_length, ← hX]; exact blake_len _
    rw [hX] at E
    clear hX hX2
    go_wp2_with fail
    refine CH.out.mono ?_
    rintro e w4 ⟨rfl, g4⟩
    replace O := Lib.hid (O.out.grown g4 (by simp)); replace G := Lib.hid (Lib.grownBy_trans G.out g4)
    clear g4 CH
    go_wp2_with (first | (refine wpList_store_whole rfl 23 _ _ rfl w.heap.size rfl (Lib.byteCells X) ZH 23 rfl O.out (by rw [hxl]; rfl) (Lib.byteCells_one _) (sizeH _ hxl) ?_))
    intro w5 g5 s5 b5
    have B5 := Lib.hid b5; have G5 := Lib.hid (grown_new G.out g5 (Nat.le_refl _))
    clear b5 g5 s5
    go_wp2
    refine bodyPost_ret (results_cell_tmp rfl _ _ ⟨w.heap.size, 0, none⟩ _ _ rfl rfl (run_loadVar_part _ _ _ 23 (Lib.byteCells X) _ B5.out.row Tryz.underlying23 rfl (sizeH _ hxl))) rfl ?_
    rw [E.out, EE.out]
    exact ⟨rfl, G5.out⟩
set_option maxHeartbeats 1000000 in
theorem RHashV_ok {B : Nat} (v : Value) (ds : List ValD) (w : World) (hw : ∀ d ∈ ds, d.wf) (hr : RdS B w v ds.length 2 (setCells ds)) (hB : B ≤ w.heap.size) :
    Calls Tryz.prog 82 #[v] w fun e w' => e = .returned (.tuple #[.agg (Lib.byteCells (vhashL ds)).toArray, .int .i64 (errV ds)]) ∧ w.grownBy w' none := by
  obtain ⟨ao, cp, hv⟩ := hr.shape
  subst hv
  have HV := Lib.hid hw; have HS := Lib.hid (hr.mono hB)
  clear hw hr hB
  go_enter Tryz.func82, Tryz.ntmps82
  go_wp2_with (refine wpList_alloc_as rfl 23 rfl ZH ZH_info ?_)
  intro w2 k1 k2 k3
  have O := Lib.hid k1; have G := Lib.hid k2
  clear k1 k2 k3
  have CR := Lib.hid (RRightV_ok _ ds w2 (HS.out.grown G.out))
  cases hri : rightL ds with
  | false =>
    rw [hri] at CR
    have E := Lib.hid (show vhashL ds = List.replicate 32 0 by unfold vhashL; rw [hri]; rfl); have EE := Lib.hid (show errV ds = 71 by unfold errV; rw [hri]; rfl)
    clear hri
    go_wp2_with fail
    refine CR.out.mono ?_
    rintro e w3 ⟨rfl, g3⟩
    replace O := Lib.hid (O.out.grown g3 (by simp)); replace G := Lib.hid (Lib.grownBy_trans G.out g3)
    clear g3 CR
    go_wp2_with (first | (refine wpList_build_eq rfl 23 _ rfl [] (by kernel_rfl) ZH bHash0 ?_) | (refine wpList_store_whole rfl 23 _ _ rfl w.heap.size rfl ZH ZH 23 rfl O.out rfl ZH_one (sizeH _ ZH_length) ?_))
    intro w4 g4 s4 b4
    have B4 := Lib.hid b4; have G4 := Lib.hid (grown_new G.out g4 (Nat.le_refl _))
    clear b4 g4 s4
    go_wp2
    refine bodyPost_ret (results_cell_tmp rfl _ _ ⟨w.heap.size, 0, none⟩ _ _ rfl rfl (run_loadVar_part _ _ _ 23 ZH _ B4.out.row Tryz.underlying23 rfl (sizeH _ ZH_length))) rfl ?_
    rw [E.out, EE.out]
    exact ⟨rfl, G4.out⟩
  | true =>
    rw [hri] at CR
    have E := Lib.hid (show vhashL ds = setHash ds by unfold vhashL; rw [hri]; rfl); have EE := Lib.hid (show errV ds = 0 by unfold errV; rw [hri]; rfl)
    have EO := Lib.hid (right_set hri)
    clear hri
    go_wp2_with fail
    refine CR.out.mono ?_
    rintro e w3 ⟨rfl, g3⟩
    replace O := Lib.hid (O.out.grown g3 (by simp)); replace G := Lib.hid (Lib.grownBy_trans G.out g3)
    clear g3 CR
    have CH := RSetHash (.slice ao ds.length cp) ds w3 (HS.out.grown G.out) G.out.size HV.out
    unfold RHashes at CH
    rw [EO.out, refSet_ok EO.out] at CH
    have CH := Lib.hid CH
    obtain ⟨X, hX⟩ : ∃ X, setHash ds = X := ⟨_, rfl⟩
    have hX2 : blake (3 :: encSet ds) = X := hX
    rw [hX2] at CH
    have hxl : (Lib.byteCells X).length = 32 := by rw [Lib.byteCells_length, ← hX]; exact blake_len _
    rw [hX] at E
    clear hX hX2
    go_wp2_with fail
    refine CH.out.mono ?_
    rintro e w4 ⟨rfl, g4⟩
    replace O := Lib.hid (O.out.grown g4 (by simp)); replace G := Lib.hid (Lib.grownBy_trans G.out g4)
    clear g4 CH
    go_wp2_with (refine wpList_alloc_as rfl 23 rfl ZH ZH_info ?_)
    intro w5 b5 g5 s5
    obtain ⟨h, hh⟩ : ∃ y, w4.heap.size = y := ⟨_, rfl⟩
    rw [hh] at b5 s5 ⊢
    have P := Lib.hid b5; have HH := Lib.hid (show w.heap.size < h from by have := O.out.lt; omega)
    replace O := Lib.hid (O.out.grown g5 (by simp)); replace G := Lib.hid (Lib.grownBy_trans G.out g5)
    clear b5 g5 s5 hh
    go_wp2_with (refine wpList_store_whole rfl 23 _ _ rfl h rfl (Lib.byteCells X) ZH 23 rfl P.out (by rw [hxl]; rfl) (Lib.byteCells_one _) (sizeH _ hxl) ?_)
    intro w6 g6 s6 b6
    replace P := Lib.hid b6; replace O := Lib.hid (O.out.grown g6 (by have := HH.out; simp; omega)); replace G := Lib.hid (grown_new G.out g6 (Nat.le_of_lt HH.out))
    clear b6 g6 s6
    go_wp2_with (first | (refine wpList_load_part rfl 23 _ rfl h 0 rfl (Lib.byteCells X) _ P.out.row Tryz.underlying23 rfl (sizeH _ hxl) ?_) | (refine wpList_store_whole rfl 23 _ _ rfl w.heap.size rfl (Lib.byteCells X) ZH 23 rfl O.out (by rw [hxl]; rfl) (Lib.byteCells_one _) (sizeH _ hxl) ?_))
    intro w7 g7 s7 b7
    have B5 := Lib.hid b7; have G5 := Lib.hid (grown_new G.out g7 (Nat.le_refl _))
    clear b7 g7 s7
    go_wp2
    refine bodyPost_ret (results_cell_tmp rfl _ _ ⟨w.heap.size, 0, none⟩ _ _ rfl rfl (run_loadVar_part _ _ _ 23 (Lib.byteCells X) _ B5.out.row Tryz.underlying23 rfl (sizeH _ hxl))) rfl ?_
    rw [E.out, EE.out]
    exact ⟨rfl, G5.out⟩

theorem hdr_err (d : HeaderD) : hshL 2 (okHeader d) (encHeader d) = if okHeader d then hdrHash d else List.replicate 32 0 := by unfold hshL hdrHash; rfl
theorem sound_1 {chain : ByteArray} {l : LightD} (h : okHeader l.header = false) : soundL chain l = 61 := by unfold soundL; rw [if_pos h]
theorem sound_2 {chain : ByteArray} {l : LightD} (h1 : okHeader l.header = true) (h : okCommitN l.commit = false) : soundL chain l = 61 := by unfold soundL; rw [if_neg (by simp [h1]), if_pos h]
theorem sound_3 {chain : ByteArray} {l : LightD} (h1 : okHeader l.header = true) (h2 : okCommitN l.commit = true) (h : l.header.chain ≠ chain) : soundL chain l = 152 := by unfold soundL; rw [if_neg (by simp [h1]), if_neg (by simp [h2]), if_pos h]
theorem sound_4 {chain : ByteArray} {l : LightD} (h1 : okHeader l.header = true) (h2 : okCommitN l.commit = true) (h3 : l.header.chain = chain) (h : rightL l.set = false ∨ rightL l.next = false) : soundL chain l = 71 := by
  unfold soundL
  rw [if_neg (by simp [h1]), if_neg (by simp [h2]), if_neg (by simp [h3])]
  by_cases h4 : rightL l.set = false
  · rw [if_pos h4]
  · rw [if_neg h4, if_pos (h.resolve_left h4)]
theorem sound_5 {chain : ByteArray} {l : LightD} (h1 : okHeader l.header = true) (h2 : okCommitN l.commit = true) (h3 : l.header.chain = chain) (h4 : rightL l.set = true) (h5 : rightL l.next = true) (h : setHash l.set ≠ l.header.set ∨ setHash l.next ≠ l.header.next) : soundL chain l = 157 := by
  unfold soundL
  rw [if_neg (by simp [h1]), if_neg (by simp [h2]), if_neg (by simp [h3]), if_neg (by simp [h4]), if_neg (by simp [h5]), if_pos h]
theorem sound_6 {chain : ByteArray} {l : LightD} (h1 : okHeader l.header = true) (h2 : okCommitN l.commit = true) (h3 : l.header.chain = chain) (h4 : rightL l.set = true) (h5 : rightL l.next = true) (h6 : setHash l.set = l.header.set ∧ setHash l.next = l.header.next) (h : l.commit.height ≠ l.header.height ∨ l.commit.block ≠ hdrHash l.header) : soundL chain l = 158 := by
  unfold soundL
  rw [if_neg (by simp [h1]), if_neg (by simp [h2]), if_neg (by simp [h3]), if_neg (by simp [h4]), if_neg (by simp [h5]), if_neg (by simp [h6]), if_pos h]
theorem sound_7 {chain : ByteArray} {l : LightD} (h1 : okHeader l.header = true) (h2 : okCommitN l.commit = true) (h3 : l.header.chain = chain) (h4 : rightL l.set = true) (h5 : rightL l.next = true) (h6 : setHash l.set = l.header.set ∧ setHash l.next = l.header.next) (h : l.commit.height = l.header.height ∧ l.commit.block = hdrHash l.header) : soundL chain l = checkL l.set chain l.commit := by
  unfold soundL
  rw [if_neg (by simp [h1]), if_neg (by simp [h2]), if_neg (by simp [h3]), if_neg (by simp [h4]), if_neg (by simp [h5]), if_neg (by simp [h6]), if_neg (by simp [h])]
theorem str_ne {a b : ByteArray} (h : a ≠ b) : (a.toList == b.toList) = false := by
  rw [beq_eq_false_iff_ne]
  intro e
  apply h
  rw [Lib.toList_data, Lib.toList_data] at e
  exact ByteArray.ext (Array.ext' e)
theorem hne {a b : List UInt8} {n : Bool} (h : (!VEq (Lib.byteCells a) (Lib.byteCells b)) = n) : n = true ↔ a ≠ b := by
  rw [← h, VEq.bytes]; simp

theorem seals_le {c : CommitD} (h : okCommitN c = true) : c.seals.length ≤ 64 := by
  unfold okCommitN at h
  simp only [Bool.and_eq_true, decide_eq_true_eq] at h
  exact h.2
set_option maxHeartbeats 4000000 in
theorem vSound_any (chain : ByteArray) (x : LtR) (l : LightD) (w : World) (hl : l.wf) (ho : x.of w.heap.size w l) (hch : chain.size ≤ maxLen) (hR : RowAt w 1 0 (wCells rootsL)) :
    Calls Tryz.prog 41 #[.string chain, .agg x.cells.toArray] w fun e w' => e = .returned (.int .i64 (soundL chain l)) ∧ w.grownBy w' none := by
  have HL := Lib.hid hl; have HO := Lib.hid ho; have HX := Lib.hid (ho.wf hl); have HCh := Lib.hid hch; have HR := Lib.hid hR
  have HH := Lib.hid ho.header; have HHe := Lib.hid ho.height; have HBk := Lib.hid ho.block
  clear hl ho hch hR
  go_enter Tryz.func41, Tryz.ntmps41
  go_wp2_with (first | (refine wpList_box_as rfl 31 _ rfl x.cells rfl ?_))
  intro w1 b1 g1 s1
  obtain ⟨b, hb⟩ : ∃ y, w.heap.size = y := ⟨_, rfl⟩
  have HB := Lib.hid hb
  rw [hb] at b1 s1 ⊢
  have B := Lib.hid b1; have G := Lib.hid g1
  clear b1 g1 s1 hb
  have C1 := HeaderHash_any x.header w1 HX.out.header (HR.out.grown G.out (by simp))
  unfold Hashes at C1
  have C1 := Lib.hid C1
  have hx1 := hshL_len 2 (okHeader x.header) (encHeader x.header)
  obtain ⟨X1, hX1⟩ : ∃ y, hshL 2 (okHeader x.header) (encHeader x.header) = y := ⟨_, rfl⟩
  obtain ⟨k1, hk1⟩ : ∃ y, okHeader x.header = y := ⟨_, rfl⟩
  have EX1 := hX1
  rw [hdr_err, hk1, HH.out] at EX1
  have K1 := hk1
  rw [HH.out] at K1
  rw [hX1] at C1 hx1
  rw [hk1] at C1
  obtain ⟨e1, he1⟩ : ∃ y : Int, (if k1 then 0 else 61) = y := ⟨_, rfl⟩
  rw [he1] at C1
  have EX1 := Lib.hid EX1; have K1 := Lib.hid K1; have L1 := Lib.hid hx1
  clear hX1 hk1 hx1
  go_wp2_with (first | (refine wpList_load_part rfl 25 _ rfl b 0 rfl x.header.cells _ (LtR.hdr_at B.out.row HX.out) Tryz.underlying25 rfl (sizeHeader _ (x.header.cells_length HX.out.header)) ?_))
  refine C1.out.mono ?_
  rintro e w2 ⟨rfl, g2⟩
  replace G := Lib.hid (Lib.grownBy_trans G.out g2); replace B := Lib.hid (B.out.grown g2 (by simp))
  clear g2 C1
  go_wp2_with (first | (refine wpList_alloc_as rfl 23 rfl ZH ZH_info ?_))
  intro w3 b3 g3 s3
  obtain ⟨p1, hp1⟩ : ∃ y, w2.heap.size = y := ⟨_, rfl⟩
  rw [hp1] at b3 s3 ⊢
  have P1 := Lib.hid b3; have HP1 := Lib.hid (show b < p1 from by have := B.out.lt; omega)
  replace G := Lib.hid (Lib.grownBy_trans G.out g3); replace B := Lib.hid (B.out.grown g3 (by simp))
  clear b3 g3 s3 hp1
  go_wp2_with (refine wpList_store_whole rfl 23 _ _ rfl p1 rfl (Lib.byteCells X1) ZH 23 rfl P1.out (by rw [Lib.byteCells_length, L1.out]; rfl) (oneCell_bytes _) (sizeH _ (by rw [Lib.byteCells_length, L1.out])) ?_)
  intro w4 g4 s4 b4
  replace P1 := Lib.hid b4; replace B := Lib.hid (B.out.grown g4 (by have := HP1.out; simp; omega)); replace G := Lib.hid (grown_new G.out g4 (by have := HP1.out; have := HB.out; omega))
  clear b4 g4 s4
  cases hk1 : k1 with
  | false =>
    rw [hk1] at K1 he1
    have he1 : e1 = 61 := he1.symm
    subst he1
    go_wp2_with fail
    go_ret
    rw [sound_1 K1.out]
    exact ⟨rfl, G.out⟩
  | true =>
    rw [hk1] at K1 EX1 he1
    have he1 : e1 = 0 := he1.symm
    subst he1
    have C2 := Lib.hid (EncodeCommit_any l.commit x.comCells w4 HL.out.commit ((HO.out.up G.out (Nat.le_refl _)).com))
    clear hk1
    go_wp2_with (first | (refine wpList_load_part rfl 28 _ rfl b 163 rfl x.comCells _ (LtR.com_at B.out.row HX.out) Tryz.underlying28 rfl (by rw [LtR.com_length HX.out]; exact sizeCommit) ?_))
    refine C2.out.mono ?_
    intro e w5 h5
    obtain ⟨a5, n5, q5, c5, rfl, h5, g5⟩ := EncW.of h5
    replace G := Lib.hid (Lib.grownBy_trans G.out g5); replace B := Lib.hid (B.out.grown g5 (by simp)); replace P1 := Lib.hid (P1.out.grown g5 (by simp))
    have H5 := Lib.hid h5
    clear h5 g5 C2
    cases hk2 : okCommitN l.commit with
    | false =>
      have hc5 : c5 = 61 := by
        have h := H5.out
        rw [hk2] at h
        rcases h with ⟨h, _⟩ | ⟨_, h, _⟩
        · cases h
        · exact h
      subst hc5
      have K2 := Lib.hid hk2
      clear hk2 H5
      go_wp2_with fail
      go_ret
      rw [sound_2 K1.out K2.out]
      exact ⟨rfl, G.out⟩
    | true =>
      have hc5 : c5 = 0 := by
        have h := H5.out
        rw [hk2] at h
        rcases h with ⟨_, h, _⟩ | ⟨h, _⟩
        · exact h
        · cases h
      subst hc5
      have K2 := Lib.hid hk2
      obtain ⟨c0, _, _, c163, _, _, c198, c199⟩ := LtR.cells_at B.out.row HX.out
      clear hk2 H5 c163
      by_cases hcc : l.header.chain = chain
      · have K3 := Lib.hid hcc
        replace c0 : w5.cell? ⟨b, 0, none⟩ = some (.string chain) := by rw [c0, HH.out, hcc]
        have CS := vHash_ok (.slice x.ta x.tn x.tc) l.set w5 HL.out.set (HO.out.grown G.out).set (by have := G.out.size; exact this) (HR.out.grown G.out (by simp))
        have L2 := Lib.hid (vhashL_len l.set)
        obtain ⟨k4, hk4⟩ : ∃ y, rightL l.set = y := ⟨_, rfl⟩
        have ES : rightL l.set = true → vhashL l.set = setHash l.set := fun h => by unfold vhashL; rw [if_pos h]
        have EV : errV l.set = if k4 then 0 else 71 := by unfold errV; rw [hk4]
        rw [EV] at CS
        obtain ⟨e4, he4⟩ : ∃ y : Int, (if k4 then 0 else 71) = y := ⟨_, rfl⟩
        rw [he4] at CS
        obtain ⟨X2, hX2⟩ : ∃ y, vhashL l.set = y := ⟨_, rfl⟩
        rw [hX2] at CS L2 ES
        have CS := Lib.hid CS; have ES := Lib.hid ES; have K4 := Lib.hid hk4
        clear hcc hk4 hX2 EV
        go_wp2_with fail
        refine CS.out.mono ?_
        rintro e w6 ⟨rfl, g6⟩
        replace G := Lib.hid (Lib.grownBy_trans G.out g6); replace B := Lib.hid (B.out.grown g6 (by simp)); replace P1 := Lib.hid (P1.out.grown g6 (by simp))
        clear g6 CS c0 c198 c199
        go_wp2_with (first | (refine wpList_alloc_as rfl 23 rfl ZH ZH_info ?_))
        intro wa ba ga sa
        obtain ⟨p2, hp⟩ : ∃ y, y = wa.heap.size - 1 := ⟨_, rfl⟩
        rw [show wa.heap.size = _ from sa, Nat.add_sub_cancel] at hp
        rw [← hp] at ba sa ⊢
        have P2 := Lib.hid ba; have HP2 := Lib.hid (show b < p2 from by have := B.out.lt; omega)
        replace G := Lib.hid (Lib.grownBy_trans G.out ga); have hltB := Lib.hid (show b ≠ p2 from Nat.ne_of_lt (by rw [hp]; exact B.out.lt)); replace B := Lib.hid (B.out.grown ga (by simp)); have hltP1 := Lib.hid (show p1 ≠ p2 from Nat.ne_of_lt (by rw [hp]; exact P1.out.lt)); replace P1 := Lib.hid (P1.out.grown ga (by simp))
        clear ba ga sa hp
        go_wp2_with (refine wpList_store_whole rfl 23 _ _ rfl p2 rfl (Lib.byteCells X2) ZH 23 rfl P2.out (by rw [Lib.byteCells_length, L2.out]; rfl) (oneCell_bytes _) (sizeH _ (by rw [Lib.byteCells_length, L2.out])) ?_)
        intro wb gb sb bb
        replace P2 := Lib.hid bb; replace B := Lib.hid (B.out.grown gb (by have := hltB.out; simp; omega)); replace P1 := Lib.hid (P1.out.grown gb (by have := hltP1.out; simp; omega)); replace G := Lib.hid (grown_new G.out gb (by have := HP2.out; have := HB.out; omega))
        clear bb gb sb
        clear hltB hltP1
        cases hk4 : k4 with
        | false =>
          rw [hk4] at K4 he4
          have he4 : e4 = 71 := he4.symm
          subst he4
          go_wp2_with fail
          go_ret
          rw [sound_4 K1.out K2.out K3.out (.inl K4.out)]
          exact ⟨rfl, G.out⟩
        | true =>
          rw [hk4] at K4 he4
          have he4 : e4 = 0 := he4.symm
          subst he4
          have ES := Lib.hid (ES.out K4.out)
          have CT := vHash_ok (.slice x.na x.nn x.nc) l.next _ HL.out.next (HO.out.grown G.out).next (by have := G.out.size; exact this) (HR.out.grown G.out (by simp))
          have L3 := Lib.hid (vhashL_len l.next)
          obtain ⟨k5, hk5⟩ : ∃ y, rightL l.next = y := ⟨_, rfl⟩
          have EN : rightL l.next = true → vhashL l.next = setHash l.next := fun h => by unfold vhashL; rw [if_pos h]
          have EW : errV l.next = if k5 then 0 else 71 := by unfold errV; rw [hk5]
          rw [EW] at CT
          obtain ⟨e5, he5⟩ : ∃ y : Int, (if k5 then 0 else 71) = y := ⟨_, rfl⟩
          rw [he5] at CT
          obtain ⟨X3, hX3⟩ : ∃ y, vhashL l.next = y := ⟨_, rfl⟩
          rw [hX3] at CT L3 EN
          have CT := Lib.hid CT; have EN := Lib.hid EN; have K5 := Lib.hid hk5
          obtain ⟨_, _, _, _, _, _, _, c199⟩ := LtR.cells_at B.out.row HX.out
          clear hk4 hk5 hX3 EW
          go_wp2_with fail
          refine CT.out.mono ?_
          rintro e w8 ⟨rfl, g8⟩
          replace G := Lib.hid (Lib.grownBy_trans G.out g8); replace B := Lib.hid (B.out.grown g8 (by simp)); replace P1 := Lib.hid (P1.out.grown g8 (by simp)); replace P2 := Lib.hid (P2.out.grown g8 (by simp))
          clear g8 CT c199
          go_wp2_with (first | (refine wpList_alloc_as rfl 23 rfl ZH ZH_info ?_))
          intro wa ba ga sa
          obtain ⟨p3, hp⟩ : ∃ y, y = wa.heap.size - 1 := ⟨_, rfl⟩
          rw [show wa.heap.size = _ from sa, Nat.add_sub_cancel] at hp
          rw [← hp] at ba sa ⊢
          have P3 := Lib.hid ba; have HP3 := Lib.hid (show b < p3 from by have := B.out.lt; omega)
          replace G := Lib.hid (Lib.grownBy_trans G.out ga); have hltB := Lib.hid (show b ≠ p3 from Nat.ne_of_lt (by rw [hp]; exact B.out.lt)); replace B := Lib.hid (B.out.grown ga (by simp)); have hltP1 := Lib.hid (show p1 ≠ p3 from Nat.ne_of_lt (by rw [hp]; exact P1.out.lt)); replace P1 := Lib.hid (P1.out.grown ga (by simp)); have hltP2 := Lib.hid (show p2 ≠ p3 from Nat.ne_of_lt (by rw [hp]; exact P2.out.lt)); replace P2 := Lib.hid (P2.out.grown ga (by simp))
          clear ba ga sa hp
          go_wp2_with (refine wpList_store_whole rfl 23 _ _ rfl p3 rfl (Lib.byteCells X3) ZH 23 rfl P3.out (by rw [Lib.byteCells_length, L3.out]; rfl) (oneCell_bytes _) (sizeH _ (by rw [Lib.byteCells_length, L3.out])) ?_)
          intro wb gb sb bb
          replace P3 := Lib.hid bb; replace B := Lib.hid (B.out.grown gb (by have := hltB.out; simp; omega)); replace P1 := Lib.hid (P1.out.grown gb (by have := hltP1.out; simp; omega)); replace P2 := Lib.hid (P2.out.grown gb (by have := hltP2.out; simp; omega)); replace G := Lib.hid (grown_new G.out gb (by have := HP3.out; have := HB.out; omega))
          clear bb gb sb
          clear hltB hltP1 hltP2
          cases hk5 : k5 with
          | false =>
            rw [hk5] at K5 he5
            have he5 : e5 = 71 := he5.symm
            subst he5
            go_wp2_with fail
            go_ret
            rw [sound_4 K1.out K2.out K3.out (.inr K5.out)]
            exact ⟨rfl, G.out⟩
          | true =>
            rw [hk5] at K5 he5
            have he5 : e5 = 0 := he5.symm
            subst he5
            have EN := Lib.hid (EN.out K5.out)
            have R1 := Lib.hid (LtR.hset_at B.out.row HX.out); have R2 := Lib.hid (LtR.hnext_at B.out.row HX.out); have R3 := Lib.hid (LtR.cblk_at B.out.row HX.out)
            obtain ⟨_, c1, _, c163, _, _, c198, _⟩ := LtR.cells_at B.out.row HX.out
            have l1 := HX.out.header.set; have l2 := HX.out.header.next; have l3 := HX.out.block
            obtain ⟨Y1, hY1⟩ : ∃ y, x.header.set = y := ⟨_, rfl⟩
            obtain ⟨Y2, hY2⟩ : ∃ y, x.header.next = y := ⟨_, rfl⟩
            obtain ⟨Y3, hY3⟩ : ∃ y, x.block = y := ⟨_, rfl⟩
            obtain ⟨m1, hm1⟩ : ∃ y, x.height = y := ⟨_, rfl⟩
            obtain ⟨m2, hm2⟩ : ∃ y, x.header.height = y := ⟨_, rfl⟩
            rw [hY1] at R1 l1; rw [hY2] at R2 l2; rw [hY3] at R3 l3; rw [hm1] at c163; rw [hm2] at c1
            have Q1 := Lib.hid l1; have Q2 := Lib.hid l2; have Q3 := Lib.hid l3
            have F1 := Lib.hid (show Y1 = l.header.set from by rw [← hY1, HH.out]); have F2 := Lib.hid (show Y2 = l.header.next from by rw [← hY2, HH.out]); have F3 := Lib.hid (show Y3 = l.commit.block from by rw [← hY3, HBk.out])
            have F4 := Lib.hid (show m1 = l.commit.height from by rw [← hm1, HHe.out]); have F5 := Lib.hid (show m2 = l.header.height from by rw [← hm2, HH.out])
            obtain ⟨n1, hn1⟩ : ∃ n, (!VEq (Lib.byteCells X2) (Lib.byteCells Y1)) = n := ⟨_, rfl⟩
            obtain ⟨n2, hn2⟩ : ∃ n, (!VEq (Lib.byteCells X3) (Lib.byteCells Y2)) = n := ⟨_, rfl⟩
            obtain ⟨n3, hn3⟩ : ∃ n, (!VEq (Lib.byteCells Y3) (Lib.byteCells X1)) = n := ⟨_, rfl⟩
            have N1 := Lib.hid hn1; have N2 := Lib.hid hn2; have N3 := Lib.hid hn3
            have I1 := Lib.hid (hne hn1); have I2 := Lib.hid (hne hn2); have I3 := Lib.hid (hne hn3)
            rw [ES.out, F1.out] at I1
            rw [EN.out, F2.out] at I2
            have e0 : X1 = hdrHash l.header := by have h := EX1.out; simpa using h.symm
            rw [e0, F3.out] at I3
            clear e0
            clear hk5 hY1 hY2 hY3 hm1 hm2 hn1 hn2 hn3 l1 l2 l3
            cases hv1 : n1 with
            | true =>
              have J := Lib.hid (sound_5 K1.out K2.out K3.out K4.out K5.out (.inl (I1.out.1 hv1)))
              rw [hv1] at N1
              go_wp2_with (first | (refine wpList_load_part rfl 23 _ rfl p2 0 rfl (Lib.byteCells X2) _ P2.out.row Tryz.underlying23 rfl (sizeH _ (by rw [Lib.byteCells_length, L2.out])) ?_) | (refine wpList_load_part rfl 23 _ rfl b 35 rfl (Lib.byteCells Y1) _ R1.out Tryz.underlying23 rfl (sizeH _ (by rw [Lib.byteCells_length, Q1.out])) ?_) | (refine wpList_neq_flat rfl 23 _ _ _ rfl (Lib.byteCells X2) (Lib.byteCells Y1) kHash rfl rfl hash_flat (hash_fits _ L2.out) (hash_fits _ Q1.out) rfl (by kernel_rfl) ?_; rw [N1.out]))
              go_ret
              rw [J.out]
              exact ⟨rfl, G.out⟩
            | false =>
              have e1 : setHash l.set = l.header.set := Classical.not_not.1 (fun h => by have := I1.out.2 h; rw [hv1] at this; cases this)
              have E1 := Lib.hid e1
              rw [hv1] at N1
              clear e1 hv1
              cases hv2 : n2 with
              | true =>
                have J := Lib.hid (sound_5 K1.out K2.out K3.out K4.out K5.out (.inr (I2.out.1 hv2)))
                rw [hv2] at N2
                go_wp2_with (first | (refine wpList_load_part rfl 23 _ rfl p2 0 rfl (Lib.byteCells X2) _ P2.out.row Tryz.underlying23 rfl (sizeH _ (by rw [Lib.byteCells_length, L2.out])) ?_) | (refine wpList_load_part rfl 23 _ rfl p3 0 rfl (Lib.byteCells X3) _ P3.out.row Tryz.underlying23 rfl (sizeH _ (by rw [Lib.byteCells_length, L3.out])) ?_) | (refine wpList_load_part rfl 23 _ rfl b 35 rfl (Lib.byteCells Y1) _ R1.out Tryz.underlying23 rfl (sizeH _ (by rw [Lib.byteCells_length, Q1.out])) ?_) | (refine wpList_load_part rfl 23 _ rfl b 67 rfl (Lib.byteCells Y2) _ R2.out Tryz.underlying23 rfl (sizeH _ (by rw [Lib.byteCells_length, Q2.out])) ?_) | (refine wpList_neq_flat rfl 23 _ _ _ rfl (Lib.byteCells X2) (Lib.byteCells Y1) kHash rfl rfl hash_flat (hash_fits _ L2.out) (hash_fits _ Q1.out) rfl (by kernel_rfl) ?_; rw [N1.out]) | (refine wpList_neq_flat rfl 23 _ _ _ rfl (Lib.byteCells X3) (Lib.byteCells Y2) kHash rfl rfl hash_flat (hash_fits _ L3.out) (hash_fits _ Q2.out) rfl (by kernel_rfl) ?_; rw [N2.out]))
                go_ret
                rw [J.out]
                exact ⟨rfl, G.out⟩
              | false =>
                have e2 : setHash l.next = l.header.next := Classical.not_not.1 (fun h => by have := I2.out.2 h; rw [hv2] at this; cases this)
                have E2 := Lib.hid e2
                rw [hv2] at N2
                clear e2 hv2
                by_cases hm : m1 = m2
                · have E3 := Lib.hid (show l.commit.height = l.header.height by rw [← F4.out, ← F5.out]; exact hm)
                  subst hm
                  cases hv3 : n3 with
                  | true =>
                    have J := Lib.hid (sound_6 K1.out K2.out K3.out K4.out K5.out ⟨E1.out, E2.out⟩ (.inr (I3.out.1 hv3)))
                    rw [hv3] at N3
                    go_wp2_with (first | (refine wpList_load_part rfl 23 _ rfl p2 0 rfl (Lib.byteCells X2) _ P2.out.row Tryz.underlying23 rfl (sizeH _ (by rw [Lib.byteCells_length, L2.out])) ?_) | (refine wpList_load_part rfl 23 _ rfl p3 0 rfl (Lib.byteCells X3) _ P3.out.row Tryz.underlying23 rfl (sizeH _ (by rw [Lib.byteCells_length, L3.out])) ?_) | (refine wpList_load_part rfl 23 _ rfl b 35 rfl (Lib.byteCells Y1) _ R1.out Tryz.underlying23 rfl (sizeH _ (by rw [Lib.byteCells_length, Q1.out])) ?_) | (refine wpList_load_part rfl 23 _ rfl b 67 rfl (Lib.byteCells Y2) _ R2.out Tryz.underlying23 rfl (sizeH _ (by rw [Lib.byteCells_length, Q2.out])) ?_) | (refine wpList_neq_flat rfl 23 _ _ _ rfl (Lib.byteCells X2) (Lib.byteCells Y1) kHash rfl rfl hash_flat (hash_fits _ L2.out) (hash_fits _ Q1.out) rfl (by kernel_rfl) ?_; rw [N1.out]) | (refine wpList_neq_flat rfl 23 _ _ _ rfl (Lib.byteCells X3) (Lib.byteCells Y2) kHash rfl rfl hash_flat (hash_fits _ L3.out) (hash_fits _ Q2.out) rfl (by kernel_rfl) ?_; rw [N2.out]) | (refine wpList_load_part rfl 23 _ rfl b 165 rfl (Lib.byteCells Y3) _ R3.out Tryz.underlying23 rfl (sizeH _ (by rw [Lib.byteCells_length, Q3.out])) ?_) | (refine wpList_load_part rfl 23 _ rfl p1 0 rfl (Lib.byteCells X1) _ P1.out.row Tryz.underlying23 rfl (sizeH _ (by rw [Lib.byteCells_length, L1.out])) ?_) | (refine wpList_neq_flat rfl 23 _ _ _ rfl (Lib.byteCells Y3) (Lib.byteCells X1) kHash rfl rfl hash_flat (hash_fits _ Q3.out) (hash_fits _ L1.out) rfl (by kernel_rfl) ?_; rw [N3.out]))
                    go_ret
                    rw [J.out]
                    exact ⟨rfl, G.out⟩
                  | false =>
                    have e3 : l.commit.block = hdrHash l.header := Classical.not_not.1 (fun h => by have := I3.out.2 h; rw [hv3] at this; cases this)
                    have J := Lib.hid (sound_7 K1.out K2.out K3.out K4.out K5.out ⟨E1.out, E2.out⟩ ⟨E3.out, e3⟩)
                    have CC := Lib.hid (Check_ok (.slice x.ta x.tn x.tc) l.set chain l.commit x.comCells _ (HO.out.grown G.out).set HCh.out HL.out.commit ((HO.out.up G.out (Nat.le_refl _)).com) (Nat.le_trans (seals_le K2.out) (by decide)) (HR.out.grown G.out (by simp)) G.out.size)
                    rw [hv3] at N3
                    clear e3 hv3
                    go_wp2_with (first | (refine wpList_load_part rfl 23 _ rfl p2 0 rfl (Lib.byteCells X2) _ P2.out.row Tryz.underlying23 rfl (sizeH _ (by rw [Lib.byteCells_length, L2.out])) ?_) | (refine wpList_load_part rfl 23 _ rfl p3 0 rfl (Lib.byteCells X3) _ P3.out.row Tryz.underlying23 rfl (sizeH _ (by rw [Lib.byteCells_length, L3.out])) ?_) | (refine wpList_load_part rfl 23 _ rfl b 35 rfl (Lib.byteCells Y1) _ R1.out Tryz.underlying23 rfl (sizeH _ (by rw [Lib.byteCells_length, Q1.out])) ?_) | (refine wpList_load_part rfl 23 _ rfl b 67 rfl (Lib.byteCells Y2) _ R2.out Tryz.underlying23 rfl (sizeH _ (by rw [Lib.byteCells_length, Q2.out])) ?_) | (refine wpList_neq_flat rfl 23 _ _ _ rfl (Lib.byteCells X2) (Lib.byteCells Y1) kHash rfl rfl hash_flat (hash_fits _ L2.out) (hash_fits _ Q1.out) rfl (by kernel_rfl) ?_; rw [N1.out]) | (refine wpList_neq_flat rfl 23 _ _ _ rfl (Lib.byteCells X3) (Lib.byteCells Y2) kHash rfl rfl hash_flat (hash_fits _ L3.out) (hash_fits _ Q2.out) rfl (by kernel_rfl) ?_; rw [N2.out]) | (refine wpList_load_part rfl 23 _ rfl b 165 rfl (Lib.byteCells Y3) _ R3.out Tryz.underlying23 rfl (sizeH _ (by rw [Lib.byteCells_length, Q3.out])) ?_) | (refine wpList_load_part rfl 23 _ rfl p1 0 rfl (Lib.byteCells X1) _ P1.out.row Tryz.underlying23 rfl (sizeH _ (by rw [Lib.byteCells_length, L1.out])) ?_) | (refine wpList_neq_flat rfl 23 _ _ _ rfl (Lib.byteCells Y3) (Lib.byteCells X1) kHash rfl rfl hash_flat (hash_fits _ Q3.out) (hash_fits _ L1.out) rfl (by kernel_rfl) ?_; rw [N3.out]) | (refine wpList_load_part rfl 28 _ rfl b 163 rfl x.comCells _ (LtR.com_at B.out.row HX.out) Tryz.underlying28 rfl (by rw [LtR.com_length HX.out]; exact sizeCommit) ?_))
                    refine CC.out.mono ?_
                    rintro e w12 ⟨rfl, g12⟩
                    replace G := Lib.hid (Lib.grownBy_trans G.out g12)
                    clear g12
                    go_wp2_with fail
                    go_ret
                    rw [J.out]
                    exact ⟨rfl, G.out⟩
                · have J := Lib.hid (sound_6 K1.out K2.out K3.out K4.out K5.out ⟨E1.out, E2.out⟩ (.inl (by rw [← F4.out, ← F5.out]; exact hm)))
                  go_wp2_with (first | (refine wpList_load_part rfl 23 _ rfl p2 0 rfl (Lib.byteCells X2) _ P2.out.row Tryz.underlying23 rfl (sizeH _ (by rw [Lib.byteCells_length, L2.out])) ?_) | (refine wpList_load_part rfl 23 _ rfl p3 0 rfl (Lib.byteCells X3) _ P3.out.row Tryz.underlying23 rfl (sizeH _ (by rw [Lib.byteCells_length, L3.out])) ?_) | (refine wpList_load_part rfl 23 _ rfl b 35 rfl (Lib.byteCells Y1) _ R1.out Tryz.underlying23 rfl (sizeH _ (by rw [Lib.byteCells_length, Q1.out])) ?_) | (refine wpList_load_part rfl 23 _ rfl b 67 rfl (Lib.byteCells Y2) _ R2.out Tryz.underlying23 rfl (sizeH _ (by rw [Lib.byteCells_length, Q2.out])) ?_) | (refine wpList_neq_flat rfl 23 _ _ _ rfl (Lib.byteCells X2) (Lib.byteCells Y1) kHash rfl rfl hash_flat (hash_fits _ L2.out) (hash_fits _ Q1.out) rfl (by kernel_rfl) ?_; rw [N1.out]) | (refine wpList_neq_flat rfl 23 _ _ _ rfl (Lib.byteCells X3) (Lib.byteCells Y2) kHash rfl rfl hash_flat (hash_fits _ L3.out) (hash_fits _ Q2.out) rfl (by kernel_rfl) ?_; rw [N2.out]))
                  go_ret
                  rw [J.out]
                  exact ⟨rfl, G.out⟩
      · have J := Lib.hid (sound_3 (chain := chain) K1.out K2.out hcc)
        replace c0 : w5.cell? ⟨b, 0, none⟩ = some (.string l.header.chain) := by rw [c0, HH.out]
        have hne := str_ne hcc
        go_wp2_with fail
        go_ret
        rw [J.out]
        exact ⟨rfl, G.out⟩

theorem vSound_ok (chain : ByteArray) (x : LtR) (l : LightD) (w : World) (hl : l.wf) (ho : x.of w.heap.size w l) (_hn : l.commit.seals.length ≤ 1000) (hch : chain.size ≤ maxLen) (hR : RowAt w 1 0 (wCells rootsL)) :
    Calls Tryz.prog 41 #[.string chain, .agg x.cells.toArray] w fun e w' => e = .returned (.int .i64 (soundL chain l)) ∧ w.grownBy w' none := vSound_any chain x l w hl ho hch hR

end Go.Proofs.YtbhghlendbcejaaGreatDoor
