/- Walks: nuncioref06.readVote, ReadVote. Walks: nuncioref06.readHeader, ReadHeader. -/
import Derived.Test.YtaffpgafbjhahaaDoorRefD
import Derived.Test.YtaffpgafbjhahaaDoorDecVote
import Derived.Test.YtaffpgafbjhahaaDoorDecHeader
namespace Go.Proofs.YtaffpgafbjhahaaDoor
open Go.RowKit
set_option maxRecDepth 100000

theorem bVote (x : ByteArray) : Tryd.prog.built 29 [(0, .string x)] = some ({ chain := x, height := 0, round := 0, type := 0, block := List.replicate 32 0, key := 0, r := 0, s := 0 } : VoteD).cells.toArray := by kernel_rfl
theorem one_vt : (Tryd.prog.info? 22).map (·.size) = some 1 := by kernel_rfl
theorem bVote0 : Tryd.prog.built 29 [] = some ZVote.toArray := by kernel_rfl
theorem setVote_height (v : VoteD) (x : Int) (hblock : v.block.length = 32) : v.cells.set 1 (.int .i64 x) = ({ v with height := x } : VoteD).cells := by
  simp [VoteD.cells, List.set_append, List.take_append, List.drop_append, Lib.byteCells_length, hblock]
theorem setVote_round (v : VoteD) (x : Int) (hblock : v.block.length = 32) : v.cells.set 2 (.int .i64 x) = ({ v with round := x } : VoteD).cells := by
  simp [VoteD.cells, List.set_append, List.take_append, List.drop_append, Lib.byteCells_length, hblock]
theorem setVote_type (v : VoteD) (x : Int) (hblock : v.block.length = 32) : v.cells.set 3 (.int .i64 x) = ({ v with type := x } : VoteD).cells := by
  simp [VoteD.cells, List.set_append, List.take_append, List.drop_append, Lib.byteCells_length, hblock]
theorem setVote_block (v : VoteD) (l : List UInt8) (hl : l.length = 32) (hblock : v.block.length = 32) : v.cells.take 4 ++ Lib.byteCells l ++ v.cells.drop (4 + (Lib.byteCells l).length) = ({ v with block := l } : VoteD).cells := by
  simp [VoteD.cells, List.set_append, List.take_append, List.drop_append, Lib.byteCells_length, hblock, hl, List.take_of_length_le, List.drop_eq_nil_of_le]
theorem setVote_key (v : VoteD) (x : Int) (hblock : v.block.length = 32) : v.cells.set 36 (.int .u64 x) = ({ v with key := x } : VoteD).cells := by
  simp [VoteD.cells, List.set_append, List.take_append, List.drop_append, Lib.byteCells_length, hblock]
theorem setVote_r (v : VoteD) (x : Int) (hblock : v.block.length = 32) : v.cells.set 37 (.int .u64 x) = ({ v with r := x } : VoteD).cells := by
  simp [VoteD.cells, List.set_append, List.take_append, List.drop_append, Lib.byteCells_length, hblock]
theorem setVote_s (v : VoteD) (x : Int) (hblock : v.block.length = 32) : v.cells.set 38 (.int .u64 x) = ({ v with s := x } : VoteD).cells := by
  simp [VoteD.cells, List.set_append, List.take_append, List.drop_append, Lib.byteCells_length, hblock]
def voteT0 (s0 : RS) : RS := s0
def voteT1 (s0 : RS) : RS := (rdText (voteT0 s0)).2
def voteT2 (s0 : RS) : RS := (rdNum (voteT1 s0)).2
def voteT3 (s0 : RS) : RS := (rdNum (voteT2 s0)).2
def voteT4 (s0 : RS) : RS := (rdNum (voteT3 s0)).2
def voteT5 (s0 : RS) : RS := (rdHash (voteT4 s0)).2
def voteT6 (s0 : RS) : RS := (rdWord (voteT5 s0)).2
def voteT7 (s0 : RS) : RS := (rdWord (voteT6 s0)).2
def voteT8 (s0 : RS) : RS := (rdWord (voteT7 s0)).2
theorem VoteD.cells_length' (v : VoteD) (hblock : v.block.length = 32) : v.cells.length = 39 := by simp [VoteD.cells, Lib.byteCells_length, hblock]
def voteQ0 (s0 : RS) : VoteD := { chain := ⟨(rdText (voteT0 s0)).1.toArray⟩, height := 0, round := 0, type := 0, block := List.replicate 32 0, key := 0, r := 0, s := 0 }
def voteQ1 (s0 : RS) : VoteD := { voteQ0 s0 with height := (rdNum (voteT1 s0)).1 }
def voteQ2 (s0 : RS) : VoteD := { voteQ1 s0 with round := (rdNum (voteT2 s0)).1 }
def voteQ3 (s0 : RS) : VoteD := { voteQ2 s0 with type := (rdNum (voteT3 s0)).1 }
def voteQ4 (s0 : RS) : VoteD := { voteQ3 s0 with block := (rdHash (voteT4 s0)).1 }
def voteQ5 (s0 : RS) : VoteD := { voteQ4 s0 with key := ((rdWord (voteT5 s0)).1 : Nat) }
def voteQ6 (s0 : RS) : VoteD := { voteQ5 s0 with r := ((rdWord (voteT6 s0)).1 : Nat) }
def voteQ7 (s0 : RS) : VoteD := { voteQ6 s0 with s := ((rdWord (voteT7 s0)).1 : Nat) }
theorem voteQ0_h (s0 : RS) : (voteQ0 s0).block.length = 32 ∧ True := ⟨rfl, trivial⟩
theorem voteQ1_h (s0 : RS) : (voteQ1 s0).block.length = 32 ∧ True := ⟨rfl, trivial⟩
theorem voteQ2_h (s0 : RS) : (voteQ2 s0).block.length = 32 ∧ True := ⟨rfl, trivial⟩
theorem voteQ3_h (s0 : RS) : (voteQ3 s0).block.length = 32 ∧ True := ⟨rfl, trivial⟩
theorem voteQ4_h (s0 : RS) : (voteQ4 s0).block.length = 32 ∧ True := ⟨rdHash_len _, trivial⟩
theorem voteQ5_h (s0 : RS) : (voteQ5 s0).block.length = 32 ∧ True := ⟨rdHash_len _, trivial⟩
theorem voteQ6_h (s0 : RS) : (voteQ6 s0).block.length = 32 ∧ True := ⟨rdHash_len _, trivial⟩
theorem voteQ7_h (s0 : RS) : (voteQ7 s0).block.length = 32 ∧ True := ⟨rdHash_len _, trivial⟩
theorem voteQ_fin (s0 : RS) : voteQ7 s0 = (rdVote s0).1 := rfl
theorem voteQ_st (s0 : RS) : voteT8 s0 = (rdVote s0).2 := rfl
theorem rdVote_none : (rdVote none).2 = none := rfl

set_option maxHeartbeats 2000000 in
theorem QVote (p : Nat) (st : RS) (w : World) (h : IsR w p st) :
    Calls Tryd.prog 69 #[.pointer (some ⟨p, 0, none⟩)] w (Reads (.agg (rdVote (kst 1 st)).1.cells.toArray) (rdVote (kst 1 st)).2 p w) := by
  rw [← voteQ_fin, ← voteQ_st]
  have H := Lib.hid h
  have hlt := H.out.lt
  clear h
  go_enter Tryd.func69, Tryd.ntmps69
  go_wp2_with (refine wpList_alloc_as rfl 29 rfl ZVote ZVote_info ?_)
  intro W1 b1 g1 s1
  have B1 := Lib.hid b1; have G1 := Lib.hid g1
  have hne : w.heap.size ≠ p := by omega
  have H1 := Lib.hid (H.out.grown g1)
  clear b1 g1 s1
  go_upto_region 1 with (fail)
  go_cut [] from 4 (fun w' => IsR w' p (kst 1 st) ∧ W1.grownBy w' (some p))
  case first =>
    go_wp2_with fail
    refine (QNumber p st _ H1.out).mono ?_
    rintro e w2 ⟨rfl, h1, h2⟩
    have R := Lib.hid h1; have G := Lib.hid h2
    obtain ⟨n, hn⟩ : ∃ n, (rdNum st).1 = n := ⟨_, rfl⟩
    rw [hn]
    obtain ⟨s1, hs1⟩ : ∃ s1, (rdNum st).2 = s1 := ⟨_, rfl⟩
    rw [hs1] at R h1
    by_cases hk : n = 1
    · subst hk
      have Hk := Lib.hid ((kst_eq hn).trans hs1)
      obtain ⟨f0, f1, hst⟩ := h1
      clear hn h2 hs1
      cases s1 with
      | none =>
        obtain ⟨_, c1⟩ := hst
        go_wp2
        go_meet
        case rel => exact ⟨by rw [Hk.out]; exact R.out.again, Lib.grownBy_trans G.out (Lib.grownBy_setCell w2 p 1 _)⟩
      | some l =>
        obtain ⟨c1, _⟩ := hst
        go_wp2
        go_meet
        case rel => exact ⟨by rw [Hk.out]; exact R.out.same, Lib.grownBy_trans G.out (Lib.grownBy_setCell w2 p 1 _)⟩
    · have Hk := Lib.hid (kst_ne hn hk)
      have d : (n != 1) = true := by simpa using hk
      have hb : ∃ b, w2.cell? ⟨p, 1, none⟩ = some (.bool b) := by
        obtain ⟨_, _, hst⟩ := h1
        cases s1 with
        | none => exact ⟨_, hst.2⟩
        | some l => exact ⟨_, hst.1⟩
      obtain ⟨b, hb⟩ := hb
      obtain ⟨f0, f1, _⟩ := h1
      clear hn h2 hs1 hk
      go_wp2
      go_meet
      case rel =>
        refine ⟨?_, Lib.grownBy_trans G.out (Lib.grownBy_setCell w2 p 1 _)⟩
        rw [Hk.out]
        cases s1 with
        | none => exact R.out.again
        | some l => exact R.out.breaks
  case rest =>
  obtain ⟨h1, h2⟩ := hcut
  obtain ⟨s0, hs0⟩ : ∃ s0, kst 1 st = s0 := ⟨_, rfl⟩
  rw [hs0] at h1
  have Hs0 := Lib.hid hs0
  have R := Lib.hid (show IsR wc p (voteT0 s0) from h1); have G := Lib.hid h2; clear h1 h2 hs0
  go_wp2_with fail
  refine (QText p (voteT0 s0) _ R.out).mono ?_
  rintro e wm ⟨rfl, h1, h2⟩
  replace R := Lib.hid (show IsR wm p (voteT1 s0) from h1); replace G := Lib.hid (Lib.grownBy_trans G.out h2); clear h1 h2
  have hm : p < wm.heap.size := R.out.lt
  have hm0 : W1.heap.size ≤ wm.heap.size := G.out.size
  have Hm := Lib.hid hm; have Hm0 := Lib.hid hm0; have Hne := Lib.hid hne
  have Hmp := Lib.hid (show some wm.heap.size ≠ some p by simp; omega)
  have Hrp := Lib.hid (show some w.heap.size ≠ some p by simp; omega)
  clear hm hm0 hne hlt
  go_wp2_with (first | (refine wpList_build_eq rfl 29 _ rfl _ rfl _ (bVote _) ?_) | (refine wpList_alloc_as rfl 29 rfl ZVote ZVote_info ?_))
  intro w3 b3 g3 s3
  replace R := Lib.hid (R.out.grown g3); replace G := Lib.hid (Lib.grownBy_trans G.out (grown_none g3)); have L := Lib.hid b3; clear b3 g3 s3
  go_wp2_with (refine wpList_store_whole rfl 29 _ _ rfl wm.heap.size rfl (voteQ0 s0).cells ZVote 29 rfl L.out rfl (VoteD_one _) (sizeVote _ rfl) ?_)
  intro w4 g4 s4 b4
  replace R := Lib.hid (R.out.grownAt g4 Hm.out); replace G := Lib.hid (grown_new G.out g4 Hm0.out); replace L := Lib.hid b4; clear b4 g4 s4
  go_wp2_with fail
  refine (QNumber p (voteT1 s0) _ R.out).mono ?_
  rintro e w5 ⟨rfl, h1, h2⟩
  replace R := Lib.hid (show IsR w5 p (voteT2 s0) from h1); replace G := Lib.hid (Lib.grownBy_trans G.out h2); replace L := Lib.hid (L.out.grown h2 Hmp.out); clear h1 h2
  go_wp2_with (refine wpList_store_cell rfl 3 _ _ rfl wm.heap.size 1 rfl _ rfl rfl (voteQ0 s0).cells 29 L.out (by rw [VoteD.cells_length' _ (voteQ0_h s0).1]; omega) one_int ?_)
  intro w6 g6 s6 b6
  rw [setVote_height _ _ (voteQ0_h s0).1] at b6
  replace R := Lib.hid (R.out.grownAt g6 Hm.out); replace G := Lib.hid (grown_new G.out g6 Hm0.out); replace L := Lib.hid (show Blk w6 wm.heap.size (voteQ1 s0).cells 29 from b6); clear b6 g6 s6
  go_wp2_with fail
  refine (QNumber p (voteT2 s0) _ R.out).mono ?_
  rintro e w5 ⟨rfl, h1, h2⟩
  replace R := Lib.hid (show IsR w5 p (voteT3 s0) from h1); replace G := Lib.hid (Lib.grownBy_trans G.out h2); replace L := Lib.hid (L.out.grown h2 Hmp.out); clear h1 h2
  go_wp2_with (refine wpList_store_cell rfl 3 _ _ rfl wm.heap.size 2 rfl _ rfl rfl (voteQ1 s0).cells 29 L.out (by rw [VoteD.cells_length' _ (voteQ1_h s0).1]; omega) one_int ?_)
  intro w6 g6 s6 b6
  rw [setVote_round _ _ (voteQ1_h s0).1] at b6
  replace R := Lib.hid (R.out.grownAt g6 Hm.out); replace G := Lib.hid (grown_new G.out g6 Hm0.out); replace L := Lib.hid (show Blk w6 wm.heap.size (voteQ2 s0).cells 29 from b6); clear b6 g6 s6
  go_wp2_with fail
  refine (QNumber p (voteT3 s0) _ R.out).mono ?_
  rintro e w5 ⟨rfl, h1, h2⟩
  replace R := Lib.hid (show IsR w5 p (voteT4 s0) from h1); replace G := Lib.hid (Lib.grownBy_trans G.out h2); replace L := Lib.hid (L.out.grown h2 Hmp.out); clear h1 h2
  go_wp2_with (refine wpList_store_cell rfl 22 _ _ rfl wm.heap.size 3 rfl _ rfl rfl (voteQ2 s0).cells 29 L.out (by rw [VoteD.cells_length' _ (voteQ2_h s0).1]; omega) one_vt ?_)
  intro w6 g6 s6 b6
  rw [setVote_type _ _ (voteQ2_h s0).1] at b6
  replace R := Lib.hid (R.out.grownAt g6 Hm.out); replace G := Lib.hid (grown_new G.out g6 Hm0.out); replace L := Lib.hid (show Blk w6 wm.heap.size (voteQ3 s0).cells 29 from b6); clear b6 g6 s6
  go_wp2_with fail
  refine (QHash' p (voteT4 s0) _ R.out).mono ?_
  rintro e w5 ⟨rfl, h1, h2⟩
  replace R := Lib.hid (show IsR w5 p (voteT5 s0) from h1); replace G := Lib.hid (Lib.grownBy_trans G.out h2); replace L := Lib.hid (L.out.grown h2 Hmp.out); clear h1 h2
  go_wp2_with (refine wpList_store_part rfl 24 _ _ rfl wm.heap.size 4 rfl (Lib.byteCells (rdHash (voteT4 s0)).1) (voteQ3 s0).cells 29 rfl L.out (by rw [VoteD.cells_length' _ (voteQ3_h s0).1, Lib.byteCells_length, rdHash_len]; omega) (oneCell_bytes _) (hash_size _ (rdHash_len _)) ?_)
  intro w6 g6 s6 b6
  have e6 := setVote_block (voteQ3 s0) (rdHash (voteT4 s0)).1 (rdHash_len _) (voteQ3_h s0).1
  replace b6 : Blk w6 wm.heap.size (voteQ4 s0).cells 29 := by
    have e7 : _ = (voteQ4 s0).cells := e6
    rw [← e7]
    first | exact b6 | (rw [List.append_assoc]; exact b6)
  clear e6
  replace R := Lib.hid (R.out.grownAt g6 Hm.out); replace G := Lib.hid (grown_new G.out g6 Hm0.out); replace L := Lib.hid (show Blk w6 wm.heap.size (voteQ4 s0).cells 29 from b6); clear b6 g6 s6
  go_wp2_with fail
  refine (QWord p (voteT5 s0) _ R.out).mono ?_
  rintro e w5 ⟨rfl, h1, h2⟩
  replace R := Lib.hid (show IsR w5 p (voteT6 s0) from h1); replace G := Lib.hid (Lib.grownBy_trans G.out h2); replace L := Lib.hid (L.out.grown h2 Hmp.out); clear h1 h2
  go_wp2_with (refine wpList_store_cell rfl 25 _ _ rfl wm.heap.size 36 rfl _ rfl rfl (voteQ4 s0).cells 29 L.out (by rw [VoteD.cells_length' _ (voteQ4_h s0).1]; omega) one_u64 ?_)
  intro w6 g6 s6 b6
  rw [setVote_key _ _ (voteQ4_h s0).1] at b6
  replace R := Lib.hid (R.out.grownAt g6 Hm.out); replace G := Lib.hid (grown_new G.out g6 Hm0.out); replace L := Lib.hid (show Blk w6 wm.heap.size (voteQ5 s0).cells 29 from b6); clear b6 g6 s6
  go_wp2_with fail
  refine (QWord p (voteT6 s0) _ R.out).mono ?_
  rintro e w5 ⟨rfl, h1, h2⟩
  replace R := Lib.hid (show IsR w5 p (voteT7 s0) from h1); replace G := Lib.hid (Lib.grownBy_trans G.out h2); replace L := Lib.hid (L.out.grown h2 Hmp.out); clear h1 h2
  go_wp2_with (refine wpList_store_cell rfl 25 _ _ rfl wm.heap.size 37 rfl _ rfl rfl (voteQ5 s0).cells 29 L.out (by rw [VoteD.cells_length' _ (voteQ5_h s0).1]; omega) one_u64 ?_)
  intro w6 g6 s6 b6
  rw [setVote_r _ _ (voteQ5_h s0).1] at b6
  replace R := Lib.hid (R.out.grownAt g6 Hm.out); replace G := Lib.hid (grown_new G.out g6 Hm0.out); replace L := Lib.hid (show Blk w6 wm.heap.size (voteQ6 s0).cells 29 from b6); clear b6 g6 s6
  go_wp2_with fail
  refine (QWord p (voteT7 s0) _ R.out).mono ?_
  rintro e w5 ⟨rfl, h1, h2⟩
  replace R := Lib.hid (show IsR w5 p (voteT8 s0) from h1); replace G := Lib.hid (Lib.grownBy_trans G.out h2); replace L := Lib.hid (L.out.grown h2 Hmp.out); clear h1 h2
  go_wp2_with (refine wpList_store_cell rfl 25 _ _ rfl wm.heap.size 38 rfl _ rfl rfl (voteQ6 s0).cells 29 L.out (by rw [VoteD.cells_length' _ (voteQ6_h s0).1]; omega) one_u64 ?_)
  intro w6 g6 s6 b6
  rw [setVote_s _ _ (voteQ6_h s0).1] at b6
  replace R := Lib.hid (R.out.grownAt g6 Hm.out); replace G := Lib.hid (grown_new G.out g6 Hm0.out); replace L := Lib.hid (show Blk w6 wm.heap.size (voteQ7 s0).cells 29 from b6); clear b6 g6 s6
  have RB := Lib.hid (B1.out.grown G.out Hrp.out)
  have Hc := Lib.hid (VoteD.cells_length' (voteQ7 s0) (voteQ7_h s0).1)
  go_wp2_with (first | (refine wpList_load_part rfl 29 _ rfl wm.heap.size 0 rfl (voteQ7 s0).cells _ L.out.row Tryd.underlying29 rfl (sizeVote _ Hc.out) ?_) | (refine wpList_store_whole rfl 29 _ _ rfl w.heap.size rfl (voteQ7 s0).cells ZVote 29 rfl RB.out (by rw [Hc.out]; rfl) (VoteD_one _) (sizeVote _ Hc.out) ?_))
  intro w7 g7 s7 b7
  have RB2 := Lib.hid b7
  have Hlt := Lib.hid H.out.lt
  replace R := Lib.hid (R.out.grownAt g7 Hlt.out); replace G := Lib.hid (grown_new (Lib.grownBy_trans (grown_none G1.out) G.out) g7 (Nat.le_refl _)); clear b7 g7 s7
  go_wp2_with fail
  refine bodyPost_ret (results_cell_one rfl _ _ ⟨w.heap.size, 0, none⟩ _ rfl (run_loadVar_part _ _ _ 29 (voteQ7 s0).cells _ RB2.out.row Tryd.underlying29 rfl (sizeVote _ Hc.out))) rfl ?_
  obtain rfl := Hs0.out
  exact ⟨rfl, R.out, G.out⟩

theorem decQVote_t (l : List UInt8) (h : (decide ((rdVote (kst 1 (some l))).2 = some []) && okVote (rdVote (kst 1 (some l))).1) = true) : (decVote l).map VoteD.cells = some (rdVote (kst 1 (some l))).1.cells := by
  by_cases hk : (rdNum (some l)).1 = 1
  · rw [kst_eq hk] at h ⊢; exact decVote_t l hk h
  · rw [kst_ne rfl hk, rdVote_none] at h; simp at h
theorem decQVote_f (l : List UInt8) (h : (decide ((rdVote (kst 1 (some l))).2 = some []) && okVote (rdVote (kst 1 (some l))).1) = false) : (decVote l).map VoteD.cells = none := by
  by_cases hk : (rdNum (some l)).1 = 1
  · rw [kst_eq hk] at h; exact decVote_f l h
  · exact decVote_k l hk

set_option maxHeartbeats 1000000 in
theorem ReadVote_any (v : Value) (l : List UInt8) (w : World) (hv : RdB w v l) :
    Calls Tryd.prog 20 #[v] w (Decodes ((decVote l).map VoteD.cells) ZVote w) := by
  obtain ⟨ao, c, rfl, hle, hcm, hrow⟩ := hv
  have ht := decQVote_t l; have hf := decQVote_f l
  have hq := fun p w h => QVote p (some l) w h
  have wfd := rdVote_wf (kst 1 (some l))
  have hch : (rdVote (kst 1 (some l))).1.chain.size ≤ 140737488351232 := by
    show (rdText _).1.toArray.size ≤ _
    have := rdText_len (voteT0 (kst 1 (some l)))
    rw [List.size_toArray]; exact Nat.le_trans this (by omega)
  generalize rdVote (kst 1 (some l)) = X at *
  obtain ⟨d, st⟩ := X
  dsimp only at ht hf hq wfd hch
  have Ht := Lib.hid ht; have Hf := Lib.hid hf; have Hq := Lib.hid hq; have Wf := Lib.hid wfd; have Hch := Lib.hid hch
  have Hcm := Lib.hid hcm; have Hle := Lib.hid hle; have Hrow := Lib.hid hrow
  clear ht hf hq wfd hch hcm hle hrow
  go_enter Tryd.func20, Tryd.ntmps20
  go_wp2_with (refine wpList_alloc_as rfl 29 rfl ZVote ZVote_info ?_)
  intro W1 b1 g1 s1
  have B1 := Lib.hid b1; have G1 := Lib.hid g1; have S1 := Lib.hid b1.lt; clear b1 g1 s1
  go_wp2_with (first | (refine wpList_build_eq rfl 124 _ rfl _ rfl [.slice ao l.length c, .bool false] (bReader _ _ _) ?_) | (refine wpList_box_agg rfl 124 _ rfl [.slice ao l.length c, .bool false] rfl ?_))
  intro W2 b2 g2 s2
  have hp : w.heap.size ≤ W1.heap.size := G1.out.size
  have R := Lib.hid (newReader b2 (Hle.out) Hcm.out (by
    rcases Hrow.out with h | ⟨g, o, e, h1, h2⟩
    · exact Or.inl h
    · exact Or.inr ⟨g, o, e, by omega, (h2.grown G1.out (by simp)).grown g2 (by simp)⟩))
  have G := Lib.hid (Lib.grownBy_trans G1.out g2)
  replace B1 := Lib.hid (B1.out.grown g2 (by simp))
  have Hp := Lib.hid hp; have Hrb := Lib.hid (show w.heap.size < W1.heap.size from S1.out)
  clear b2 g2 s2 hp
  go_wp2_with fail
  refine (Hq.out _ _ R.out).mono ?_
  rintro e w3 ⟨rfl, h1, h2⟩
  replace R := Lib.hid h1; replace G := Lib.hid (grown_new G.out h2 Hp.out)
  replace B1 := Lib.hid (B1.out.grown h2 (by have := Hrb.out; simp; omega))
  have Hm := Lib.hid (show W1.heap.size < w3.heap.size from R.out.lt)
  have Hc := Lib.hid (d.cells_length Wf.out)
  clear h1 h2
  go_wp2_with (refine wpList_alloc_as rfl 29 rfl ZVote ZVote_info ?_)
  intro w4 b4 g4 s4
  replace R := Lib.hid (R.out.grown g4); replace G := Lib.hid (Lib.grownBy_trans G.out g4); replace B1 := Lib.hid (B1.out.grown g4 (by simp)); have L := Lib.hid b4
  clear b4 g4 s4
  go_wp2_with (first | (refine wpList_store_whole rfl 29 _ _ rfl w3.heap.size rfl d.cells ZVote 29 rfl L.out (by rw [Hc.out]; rfl) (VoteD_one _) (sizeVote _ Hc.out) ?_))
  intro w5 g5 s5 b5
  replace R := Lib.hid (R.out.grownAt g5 Hm.out); replace G := Lib.hid (grown_new G.out g5 (by have := Hm.out; have := Hp.out; omega)); replace B1 := Lib.hid (B1.out.grown g5 (by have := Hm.out; have := Hrb.out; simp; omega)); replace L := Lib.hid b5
  clear b5 g5 s5
  go_wp2_with (refine wpList_load_part rfl 29 _ rfl w3.heap.size 0 rfl d.cells _ L.out.row Tryd.underlying29 rfl (sizeVote _ Hc.out) ?_)
  refine (RVote d _ Wf.out Hch.out).mono ?_
  rintro e w6 ⟨a6, n6, c6, rfl, -, b6⟩
  have g6 := below_grown b6
  replace R := Lib.hid (R.out.grown g6); replace G := Lib.hid (Lib.grownBy_trans G.out g6); replace B1 := Lib.hid (B1.out.grown g6 (by simp)); replace L := Lib.hid (L.out.grown g6 (by simp))
  clear b6 g6
  go_wp2_with fail
  refine (ends_any _ st _ _ R.out).mono ?_; rintro e w' ⟨rfl, rfl⟩
  cases hb : (decide (st = some []) && okVote d)
  · have e : endsN st (okVote d) = 61 := by unfold endsN; rw [hb]; rfl
    rw [e]
    have Hn := Lib.hid (Hf.out hb); clear e hb
    go_wp2_with (first | (refine wpList_build_eq rfl 29 _ rfl _ rfl _ bVote0 ?_) | (refine wpList_store_whole rfl 29 _ _ rfl w.heap.size rfl ZVote ZVote 29 rfl B1.out rfl ZVote_one (sizeVote _ ZVote_length) ?_))
    intro w7 g7 s7 b7
    have B7 := Lib.hid b7; have G7 := Lib.hid (grown_new G.out g7 (Nat.le_refl _)); clear b7 g7 s7
    go_wp2_with fail
    refine bodyPost_ret (results_cell_tmp rfl _ _ ⟨w.heap.size, 0, none⟩ _ _ rfl rfl (run_loadVar_part _ _ _ 29 ZVote _ B7.out.row Tryd.underlying29 rfl (sizeVote _ ZVote_length))) rfl ?_
    exact Decodes.no Hn.out (below_of_grown G7.out) rfl
  · have e : endsN st (okVote d) = 0 := by unfold endsN; rw [hb]; rfl
    rw [e]
    have Hn := Lib.hid (Ht.out hb); clear e hb
    go_wp2_with (first | (refine wpList_load_part rfl 29 _ rfl w3.heap.size 0 rfl d.cells _ L.out.row Tryd.underlying29 rfl (sizeVote _ Hc.out) ?_) | (refine wpList_store_whole rfl 29 _ _ rfl w.heap.size rfl d.cells ZVote 29 rfl B1.out (by rw [Hc.out]; rfl) (VoteD_one _) (sizeVote _ Hc.out) ?_))
    intro w7 g7 s7 b7
    have B7 := Lib.hid b7; have G7 := Lib.hid (grown_new G.out g7 (Nat.le_refl _)); clear b7 g7 s7
    go_wp2_with fail
    refine bodyPost_ret (results_cell_tmp rfl _ _ ⟨w.heap.size, 0, none⟩ _ _ rfl rfl (run_loadVar_part _ _ _ 29 d.cells _ B7.out.row Tryd.underlying29 rfl (sizeVote _ Hc.out))) rfl ?_
    exact Decodes.yes Hn.out (below_of_grown G7.out) rfl

theorem bHeader (x : ByteArray) : Tryd.prog.built 57 [(0, .string x)] = some ({ chain := x, height := 0, time := 0, last := List.replicate 32 0, set := List.replicate 32 0, next := List.replicate 32 0, data := List.replicate 32 0, app := List.replicate 32 0 } : HeaderD).cells.toArray := by kernel_rfl
theorem bHeader0 : Tryd.prog.built 57 [] = some ZHeader.toArray := by kernel_rfl
theorem setHeader_height (v : HeaderD) (x : Int) (hlast : v.last.length = 32) (hset : v.set.length = 32) (hnext : v.next.length = 32) (hdata : v.data.length = 32) (happ : v.app.length = 32) : v.cells.set 1 (.int .i64 x) = ({ v with height := x } : HeaderD).cells := by
  simp [HeaderD.cells, List.set_append, List.take_append, List.drop_append, Lib.byteCells_length, hlast, hset, hnext, hdata, happ]
theorem setHeader_time (v : HeaderD) (x : Int) (hlast : v.last.length = 32) (hset : v.set.length = 32) (hnext : v.next.length = 32) (hdata : v.data.length = 32) (happ : v.app.length = 32) : v.cells.set 2 (.int .i64 x) = ({ v with time := x } : HeaderD).cells := by
  simp [HeaderD.cells, List.set_append, List.take_append, List.drop_append, Lib.byteCells_length, hlast, hset, hnext, hdata, happ]
theorem setHeader_last (v : HeaderD) (l : List UInt8) (hl : l.length = 32) (hlast : v.last.length = 32) (hset : v.set.length = 32) (hnext : v.next.length = 32) (hdata : v.data.length = 32) (happ : v.app.length = 32) : v.cells.take 3 ++ Lib.byteCells l ++ v.cells.drop (3 + (Lib.byteCells l).length) = ({ v with last := l } : HeaderD).cells := by
  simp [HeaderD.cells, List.set_append, List.take_append, List.drop_append, Lib.byteCells_length, hlast, hset, hnext, hdata, happ, hl, List.take_of_length_le, List.drop_eq_nil_of_le]
theorem setHeader_set (v : HeaderD) (l : List UInt8) (hl : l.length = 32) (hlast : v.last.length = 32) (hset : v.set.length = 32) (hnext : v.next.length = 32) (hdata : v.data.length = 32) (happ : v.app.length = 32) : v.cells.take 35 ++ Lib.byteCells l ++ v.cells.drop (35 + (Lib.byteCells l).length) = ({ v with set := l } : HeaderD).cells := by
  simp [HeaderD.cells, List.set_append, List.take_append, List.drop_append, Lib.byteCells_length, hlast, hset, hnext, hdata, happ, hl, List.take_of_length_le, List.drop_eq_nil_of_le]
theorem setHeader_next (v : HeaderD) (l : List UInt8) (hl : l.length = 32) (hlast : v.last.length = 32) (hset : v.set.length = 32) (hnext : v.next.length = 32) (hdata : v.data.length = 32) (happ : v.app.length = 32) : v.cells.take 67 ++ Lib.byteCells l ++ v.cells.drop (67 + (Lib.byteCells l).length) = ({ v with next := l } : HeaderD).cells := by
  simp [HeaderD.cells, List.set_append, List.take_append, List.drop_append, Lib.byteCells_length, hlast, hset, hnext, hdata, happ, hl, List.take_of_length_le, List.drop_eq_nil_of_le]
theorem setHeader_data (v : HeaderD) (l : List UInt8) (hl : l.length = 32) (hlast : v.last.length = 32) (hset : v.set.length = 32) (hnext : v.next.length = 32) (hdata : v.data.length = 32) (happ : v.app.length = 32) : v.cells.take 99 ++ Lib.byteCells l ++ v.cells.drop (99 + (Lib.byteCells l).length) = ({ v with data := l } : HeaderD).cells := by
  simp [HeaderD.cells, List.set_append, List.take_append, List.drop_append, Lib.byteCells_length, hlast, hset, hnext, hdata, happ, hl, List.take_of_length_le, List.drop_eq_nil_of_le]
theorem setHeader_app (v : HeaderD) (l : List UInt8) (hl : l.length = 32) (hlast : v.last.length = 32) (hset : v.set.length = 32) (hnext : v.next.length = 32) (hdata : v.data.length = 32) (happ : v.app.length = 32) : v.cells.take 131 ++ Lib.byteCells l ++ v.cells.drop (131 + (Lib.byteCells l).length) = ({ v with app := l } : HeaderD).cells := by
  simp [HeaderD.cells, List.set_append, List.take_append, List.drop_append, Lib.byteCells_length, hlast, hset, hnext, hdata, happ, hl, List.take_of_length_le, List.drop_eq_nil_of_le]
def headerT0 (s0 : RS) : RS := s0
def headerT1 (s0 : RS) : RS := (rdText (headerT0 s0)).2
def headerT2 (s0 : RS) : RS := (rdNum (headerT1 s0)).2
def headerT3 (s0 : RS) : RS := (rdNum (headerT2 s0)).2
def headerT4 (s0 : RS) : RS := (rdHash (headerT3 s0)).2
def headerT5 (s0 : RS) : RS := (rdHash (headerT4 s0)).2
def headerT6 (s0 : RS) : RS := (rdHash (headerT5 s0)).2
def headerT7 (s0 : RS) : RS := (rdHash (headerT6 s0)).2
def headerT8 (s0 : RS) : RS := (rdHash (headerT7 s0)).2
theorem HeaderD.cells_length' (v : HeaderD) (hlast : v.last.length = 32) (hset : v.set.length = 32) (hnext : v.next.length = 32) (hdata : v.data.length = 32) (happ : v.app.length = 32) : v.cells.length = 163 := by simp [HeaderD.cells, Lib.byteCells_length, hlast, hset, hnext, hdata, happ]
def headerQ0 (s0 : RS) : HeaderD := { chain := ⟨(rdText (headerT0 s0)).1.toArray⟩, height := 0, time := 0, last := List.replicate 32 0, set := List.replicate 32 0, next := List.replicate 32 0, data := List.replicate 32 0, app := List.replicate 32 0 }
def headerQ1 (s0 : RS) : HeaderD := { headerQ0 s0 with height := (rdNum (headerT1 s0)).1 }
def headerQ2 (s0 : RS) : HeaderD := { headerQ1 s0 with time := (rdNum (headerT2 s0)).1 }
def headerQ3 (s0 : RS) : HeaderD := { headerQ2 s0 with last := (rdHash (headerT3 s0)).1 }
def headerQ4 (s0 : RS) : HeaderD := { headerQ3 s0 with set := (rdHash (headerT4 s0)).1 }
def headerQ5 (s0 : RS) : HeaderD := { headerQ4 s0 with next := (rdHash (headerT5 s0)).1 }
def headerQ6 (s0 : RS) : HeaderD := { headerQ5 s0 with data := (rdHash (headerT6 s0)).1 }
def headerQ7 (s0 : RS) : HeaderD := { headerQ6 s0 with app := (rdHash (headerT7 s0)).1 }
theorem headerQ0_h (s0 : RS) : (headerQ0 s0).last.length = 32 ∧ (headerQ0 s0).set.length = 32 ∧ (headerQ0 s0).next.length = 32 ∧ (headerQ0 s0).data.length = 32 ∧ (headerQ0 s0).app.length = 32 ∧ True := ⟨rfl, rfl, rfl, rfl, rfl, trivial⟩
theorem headerQ1_h (s0 : RS) : (headerQ1 s0).last.length = 32 ∧ (headerQ1 s0).set.length = 32 ∧ (headerQ1 s0).next.length = 32 ∧ (headerQ1 s0).data.length = 32 ∧ (headerQ1 s0).app.length = 32 ∧ True := ⟨rfl, rfl, rfl, rfl, rfl, trivial⟩
theorem headerQ2_h (s0 : RS) : (headerQ2 s0).last.length = 32 ∧ (headerQ2 s0).set.length = 32 ∧ (headerQ2 s0).next.length = 32 ∧ (headerQ2 s0).data.length = 32 ∧ (headerQ2 s0).app.length = 32 ∧ True := ⟨rfl, rfl, rfl, rfl, rfl, trivial⟩
theorem headerQ3_h (s0 : RS) : (headerQ3 s0).last.length = 32 ∧ (headerQ3 s0).set.length = 32 ∧ (headerQ3 s0).next.length = 32 ∧ (headerQ3 s0).data.length = 32 ∧ (headerQ3 s0).app.length = 32 ∧ True := ⟨rdHash_len _, rfl, rfl, rfl, rfl, trivial⟩
theorem headerQ4_h (s0 : RS) : (headerQ4 s0).last.length = 32 ∧ (headerQ4 s0).set.length = 32 ∧ (headerQ4 s0).next.length = 32 ∧ (headerQ4 s0).data.length = 32 ∧ (headerQ4 s0).app.length = 32 ∧ True := ⟨rdHash_len _, rdHash_len _, rfl, rfl, rfl, trivial⟩
theorem headerQ5_h (s0 : RS) : (headerQ5 s0).last.length = 32 ∧ (headerQ5 s0).set.length = 32 ∧ (headerQ5 s0).next.length = 32 ∧ (headerQ5 s0).data.length = 32 ∧ (headerQ5 s0).app.length = 32 ∧ True := ⟨rdHash_len _, rdHash_len _, rdHash_len _, rfl, rfl, trivial⟩
theorem headerQ6_h (s0 : RS) : (headerQ6 s0).last.length = 32 ∧ (headerQ6 s0).set.length = 32 ∧ (headerQ6 s0).next.length = 32 ∧ (headerQ6 s0).data.length = 32 ∧ (headerQ6 s0).app.length = 32 ∧ True := ⟨rdHash_len _, rdHash_len _, rdHash_len _, rdHash_len _, rfl, trivial⟩
theorem headerQ7_h (s0 : RS) : (headerQ7 s0).last.length = 32 ∧ (headerQ7 s0).set.length = 32 ∧ (headerQ7 s0).next.length = 32 ∧ (headerQ7 s0).data.length = 32 ∧ (headerQ7 s0).app.length = 32 ∧ True := ⟨rdHash_len _, rdHash_len _, rdHash_len _, rdHash_len _, rdHash_len _, trivial⟩
theorem headerQ_fin (s0 : RS) : headerQ7 s0 = (rdHeader s0).1 := rfl
theorem headerQ_st (s0 : RS) : headerT8 s0 = (rdHeader s0).2 := rfl
theorem rdHeader_none : (rdHeader none).2 = none := rfl

set_option maxHeartbeats 2000000 in
theorem QHeader (p : Nat) (st : RS) (w : World) (h : IsR w p st) :
    Calls Tryd.prog 74 #[.pointer (some ⟨p, 0, none⟩)] w (Reads (.agg (rdHeader (kst 2 st)).1.cells.toArray) (rdHeader (kst 2 st)).2 p w) := by
  rw [← headerQ_fin, ← headerQ_st]
  have H := Lib.hid h
  have hlt := H.out.lt
  clear h
  go_enter Tryd.func74, Tryd.ntmps74
  go_wp2_with (refine wpList_alloc_as rfl 57 rfl ZHeader ZHeader_info ?_)
  intro W1 b1 g1 s1
  have B1 := Lib.hid b1; have G1 := Lib.hid g1
  have hne : w.heap.size ≠ p := by omega
  have H1 := Lib.hid (H.out.grown g1)
  clear b1 g1 s1
  go_upto_region 1 with (fail)
  go_cut [] from 4 (fun w' => IsR w' p (kst 2 st) ∧ W1.grownBy w' (some p))
  case first =>
    go_wp2_with fail
    refine (QNumber p st _ H1.out).mono ?_
    rintro e w2 ⟨rfl, h1, h2⟩
    have R := Lib.hid h1; have G := Lib.hid h2
    obtain ⟨n, hn⟩ : ∃ n, (rdNum st).1 = n := ⟨_, rfl⟩
    rw [hn]
    obtain ⟨s1, hs1⟩ : ∃ s1, (rdNum st).2 = s1 := ⟨_, rfl⟩
    rw [hs1] at R h1
    by_cases hk : n = 2
    · subst hk
      have Hk := Lib.hid ((kst_eq hn).trans hs1)
      obtain ⟨f0, f1, hst⟩ := h1
      clear hn h2 hs1
      cases s1 with
      | none =>
        obtain ⟨_, c1⟩ := hst
        go_wp2
        go_meet
        case rel => exact ⟨by rw [Hk.out]; exact R.out.again, Lib.grownBy_trans G.out (Lib.grownBy_setCell w2 p 1 _)⟩
      | some l =>
        obtain ⟨c1, _⟩ := hst
        go_wp2
        go_meet
        case rel => exact ⟨by rw [Hk.out]; exact R.out.same, Lib.grownBy_trans G.out (Lib.grownBy_setCell w2 p 1 _)⟩
    · have Hk := Lib.hid (kst_ne hn hk)
      have d : (n != 2) = true := by simpa using hk
      have hb : ∃ b, w2.cell? ⟨p, 1, none⟩ = some (.bool b) := by
        obtain ⟨_, _, hst⟩ := h1
        cases s1 with
        | none => exact ⟨_, hst.2⟩
        | some l => exact ⟨_, hst.1⟩
      obtain ⟨b, hb⟩ := hb
      obtain ⟨f0, f1, _⟩ := h1
      clear hn h2 hs1 hk
      go_wp2
      go_meet
      case rel =>
        refine ⟨?_, Lib.grownBy_trans G.out (Lib.grownBy_setCell w2 p 1 _)⟩
        rw [Hk.out]
        cases s1 with
        | none => exact R.out.again
        | some l => exact R.out.breaks
  case rest =>
  obtain ⟨h1, h2⟩ := hcut
  obtain ⟨s0, hs0⟩ : ∃ s0, kst 2 st = s0 := ⟨_, rfl⟩
  rw [hs0] at h1
  have Hs0 := Lib.hid hs0
  have R := Lib.hid (show IsR wc p (headerT0 s0) from h1); have G := Lib.hid h2; clear h1 h2 hs0
  go_wp2_with fail
  refine (QText p (headerT0 s0) _ R.out).mono ?_
  rintro e wm ⟨rfl, h1, h2⟩
  replace R := Lib.hid (show IsR wm p (headerT1 s0) from h1); replace G := Lib.hid (Lib.grownBy_trans G.out h2); clear h1 h2
  have hm : p < wm.heap.size := R.out.lt
  have hm0 : W1.heap.size ≤ wm.heap.size := G.out.size
  have Hm := Lib.hid hm; have Hm0 := Lib.hid hm0; have Hne := Lib.hid hne
  have Hmp := Lib.hid (show some wm.heap.size ≠ some p by simp; omega)
  have Hrp := Lib.hid (show some w.heap.size ≠ some p by simp; omega)
  clear hm hm0 hne hlt
  go_wp2_with (first | (refine wpList_build_eq rfl 57 _ rfl _ rfl _ (bHeader _) ?_) | (refine wpList_alloc_as rfl 57 rfl ZHeader ZHeader_info ?_))
  intro w3 b3 g3 s3
  replace R := Lib.hid (R.out.grown g3); replace G := Lib.hid (Lib.grownBy_trans G.out (grown_none g3)); have L := Lib.hid b3; clear b3 g3 s3
  go_wp2_with (refine wpList_store_whole rfl 57 _ _ rfl wm.heap.size rfl (headerQ0 s0).cells ZHeader 57 rfl L.out rfl (HeaderD_one _) (sizeHeader _ rfl) ?_)
  intro w4 g4 s4 b4
  replace R := Lib.hid (R.out.grownAt g4 Hm.out); replace G := Lib.hid (grown_new G.out g4 Hm0.out); replace L := Lib.hid b4; clear b4 g4 s4
  go_wp2_with fail
  refine (QNumber p (headerT1 s0) _ R.out).mono ?_
  rintro e w5 ⟨rfl, h1, h2⟩
  replace R := Lib.hid (show IsR w5 p (headerT2 s0) from h1); replace G := Lib.hid (Lib.grownBy_trans G.out h2); replace L := Lib.hid (L.out.grown h2 Hmp.out); clear h1 h2
  go_wp2_with (refine wpList_store_cell rfl 3 _ _ rfl wm.heap.size 1 rfl _ rfl rfl (headerQ0 s0).cells 57 L.out (by rw [HeaderD.cells_length' _ (headerQ0_h s0).1 (headerQ0_h s0).2.1 (headerQ0_h s0).2.2.1 (headerQ0_h s0).2.2.2.1 (headerQ0_h s0).2.2.2.2.1]; omega) one_int ?_)
  intro w6 g6 s6 b6
  rw [setHeader_height _ _ (headerQ0_h s0).1 (headerQ0_h s0).2.1 (headerQ0_h s0).2.2.1 (headerQ0_h s0).2.2.2.1 (headerQ0_h s0).2.2.2.2.1] at b6
  replace R := Lib.hid (R.out.grownAt g6 Hm.out); replace G := Lib.hid (grown_new G.out g6 Hm0.out); replace L := Lib.hid (show Blk w6 wm.heap.size (headerQ1 s0).cells 57 from b6); clear b6 g6 s6
  go_wp2_with fail
  refine (QNumber p (headerT2 s0) _ R.out).mono ?_
  rintro e w5 ⟨rfl, h1, h2⟩
  replace R := Lib.hid (show IsR w5 p (headerT3 s0) from h1); replace G := Lib.hid (Lib.grownBy_trans G.out h2); replace L := Lib.hid (L.out.grown h2 Hmp.out); clear h1 h2
  go_wp2_with (refine wpList_store_cell rfl 3 _ _ rfl wm.heap.size 2 rfl _ rfl rfl (headerQ1 s0).cells 57 L.out (by rw [HeaderD.cells_length' _ (headerQ1_h s0).1 (headerQ1_h s0).2.1 (headerQ1_h s0).2.2.1 (headerQ1_h s0).2.2.2.1 (headerQ1_h s0).2.2.2.2.1]; omega) one_int ?_)
  intro w6 g6 s6 b6
  rw [setHeader_time _ _ (headerQ1_h s0).1 (headerQ1_h s0).2.1 (headerQ1_h s0).2.2.1 (headerQ1_h s0).2.2.2.1 (headerQ1_h s0).2.2.2.2.1] at b6
  replace R := Lib.hid (R.out.grownAt g6 Hm.out); replace G := Lib.hid (grown_new G.out g6 Hm0.out); replace L := Lib.hid (show Blk w6 wm.heap.size (headerQ2 s0).cells 57 from b6); clear b6 g6 s6
  go_wp2_with fail
  refine (QHash' p (headerT3 s0) _ R.out).mono ?_
  rintro e w5 ⟨rfl, h1, h2⟩
  replace R := Lib.hid (show IsR w5 p (headerT4 s0) from h1); replace G := Lib.hid (Lib.grownBy_trans G.out h2); replace L := Lib.hid (L.out.grown h2 Hmp.out); clear h1 h2
  go_wp2_with (refine wpList_store_part rfl 24 _ _ rfl wm.heap.size 3 rfl (Lib.byteCells (rdHash (headerT3 s0)).1) (headerQ2 s0).cells 57 rfl L.out (by rw [HeaderD.cells_length' _ (headerQ2_h s0).1 (headerQ2_h s0).2.1 (headerQ2_h s0).2.2.1 (headerQ2_h s0).2.2.2.1 (headerQ2_h s0).2.2.2.2.1, Lib.byteCells_length, rdHash_len]; omega) (oneCell_bytes _) (hash_size _ (rdHash_len _)) ?_)
  intro w6 g6 s6 b6
  have e6 := setHeader_last (headerQ2 s0) (rdHash (headerT3 s0)).1 (rdHash_len _) (headerQ2_h s0).1 (headerQ2_h s0).2.1 (headerQ2_h s0).2.2.1 (headerQ2_h s0).2.2.2.1 (headerQ2_h s0).2.2.2.2.1
  replace b6 : Blk w6 wm.heap.size (headerQ3 s0).cells 57 := by
    have e7 : _ = (headerQ3 s0).cells := e6
    rw [← e7]
    first | exact b6 | (rw [List.append_assoc]; exact b6)
  clear e6
  replace R := Lib.hid (R.out.grownAt g6 Hm.out); replace G := Lib.hid (grown_new G.out g6 Hm0.out); replace L := Lib.hid (show Blk w6 wm.heap.size (headerQ3 s0).cells 57 from b6); clear b6 g6 s6
  go_wp2_with fail
  refine (QHash' p (headerT4 s0) _ R.out).mono ?_
  rintro e w5 ⟨rfl, h1, h2⟩
  replace R := Lib.hid (show IsR w5 p (headerT5 s0) from h1); replace G := Lib.hid (Lib.grownBy_trans G.out h2); replace L := Lib.hid (L.out.grown h2 Hmp.out); clear h1 h2
  go_wp2_with (refine wpList_store_part rfl 24 _ _ rfl wm.heap.size 35 rfl (Lib.byteCells (rdHash (headerT4 s0)).1) (headerQ3 s0).cells 57 rfl L.out (by rw [HeaderD.cells_length' _ (headerQ3_h s0).1 (headerQ3_h s0).2.1 (headerQ3_h s0).2.2.1 (headerQ3_h s0).2.2.2.1 (headerQ3_h s0).2.2.2.2.1, Lib.byteCells_length, rdHash_len]; omega) (oneCell_bytes _) (hash_size _ (rdHash_len _)) ?_)
  intro w6 g6 s6 b6
  have e6 := setHeader_set (headerQ3 s0) (rdHash (headerT4 s0)).1 (rdHash_len _) (headerQ3_h s0).1 (headerQ3_h s0).2.1 (headerQ3_h s0).2.2.1 (headerQ3_h s0).2.2.2.1 (headerQ3_h s0).2.2.2.2.1
  replace b6 : Blk w6 wm.heap.size (headerQ4 s0).cells 57 := by
    have e7 : _ = (headerQ4 s0).cells := e6
    rw [← e7]
    first | exact b6 | (rw [List.append_assoc]; exact b6)
  clear e6
  replace R := Lib.hid (R.out.grownAt g6 Hm.out); replace G := Lib.hid (grown_new G.out g6 Hm0.out); replace L := Lib.hid (show Blk w6 wm.heap.size (headerQ4 s0).cells 57 from b6); clear b6 g6 s6
  go_wp2_with fail
  refine (QHash' p (headerT5 s0) _ R.out).mono ?_
  rintro e w5 ⟨rfl, h1, h2⟩
  replace R := Lib.hid (show IsR w5 p (headerT6 s0) from h1); replace G := Lib.hid (Lib.grownBy_trans G.out h2); replace L := Lib.hid (L.out.grown h2 Hmp.out); clear h1 h2
  go_wp2_with (refine wpList_store_part rfl 24 _ _ rfl wm.heap.size 67 rfl (Lib.byteCells (rdHash (headerT5 s0)).1) (headerQ4 s0).cells 57 rfl L.out (by rw [HeaderD.cells_length' _ (headerQ4_h s0).1 (headerQ4_h s0).2.1 (headerQ4_h s0).2.2.1 (headerQ4_h s0).2.2.2.1 (headerQ4_h s0).2.2.2.2.1, Lib.byteCells_length, rdHash_len]; omega) (oneCell_bytes _) (hash_size _ (rdHash_len _)) ?_)
  intro w6 g6 s6 b6
  have e6 := setHeader_next (headerQ4 s0) (rdHash (headerT5 s0)).1 (rdHash_len _) (headerQ4_h s0).1 (headerQ4_h s0).2.1 (headerQ4_h s0).2.2.1 (headerQ4_h s0).2.2.2.1 (headerQ4_h s0).2.2.2.2.1
  replace b6 : Blk w6 wm.heap.size (headerQ5 s0).cells 57 := by
    have e7 : _ = (headerQ5 s0).cells := e6
    rw [← e7]
    first | exact b6 | (rw [List.append_assoc]; exact b6)
  clear e6
  replace R := Lib.hid (R.out.grownAt g6 Hm.out); replace G := Lib.hid (grown_new G.out g6 Hm0.out); replace L := Lib.hid (show Blk w6 wm.heap.size (headerQ5 s0).cells 57 from b6); clear b6 g6 s6
  go_wp2_with fail
  refine (QHash' p (headerT6 s0) _ R.out).mono ?_
  rintro e w5 ⟨rfl, h1, h2⟩
  replace R := Lib.hid (show IsR w5 p (headerT7 s0) from h1); replace G := Lib.hid (Lib.grownBy_trans G.out h2); replace L := Lib.hid (L.out.grown h2 Hmp.out); clear h1 h2
  go_wp2_with (refine wpList_store_part rfl 24 _ _ rfl wm.heap.size 99 rfl (Lib.byteCells (rdHash (headerT6 s0)).1) (headerQ5 s0).cells 57 rfl L.out (by rw [HeaderD.cells_length' _ (headerQ5_h s0).1 (headerQ5_h s0).2.1 (headerQ5_h s0).2.2.1 (headerQ5_h s0).2.2.2.1 (headerQ5_h s0).2.2.2.2.1, Lib.byteCells_length, rdHash_len]; omega) (oneCell_bytes _) (hash_size _ (rdHash_len _)) ?_)
  intro w6 g6 s6 b6
  have e6 := setHeader_data (headerQ5 s0) (rdHash (headerT6 s0)).1 (rdHash_len _) (headerQ5_h s0).1 (headerQ5_h s0).2.1 (headerQ5_h s0).2.2.1 (headerQ5_h s0).2.2.2.1 (headerQ5_h s0).2.2.2.2.1
  replace b6 : Blk w6 wm.heap.size (headerQ6 s0).cells 57 := by
    have e7 : _ = (headerQ6 s0).cells := e6
    rw [← e7]
    first | exact b6 | (rw [List.append_assoc]; exact b6)
  clear e6
  replace R := Lib.hid (R.out.grownAt g6 Hm.out); replace G := Lib.hid (grown_new G.out g6 Hm0.out); replace L := Lib.hid (show Blk w6 wm.heap.size (headerQ6 s0).cells 57 from b6); clear b6 g6 s6
  go_wp2_with fail
  refine (QHash' p (headerT7 s0) _ R.out).mono ?_
  rintro e w5 ⟨rfl, h1, h2⟩
  replace R := Lib.hid (show IsR w5 p (headerT8 s0) from h1); replace G := Lib.hid (Lib.grownBy_trans G.out h2); replace L := Lib.hid (L.out.grown h2 Hmp.out); clear h1 h2
  go_wp2_with (refine wpList_store_part rfl 24 _ _ rfl wm.heap.size 131 rfl (Lib.byteCells (rdHash (headerT7 s0)).1) (headerQ6 s0).cells 57 rfl L.out (by rw [HeaderD.cells_length' _ (headerQ6_h s0).1 (headerQ6_h s0).2.1 (headerQ6_h s0).2.2.1 (headerQ6_h s0).2.2.2.1 (headerQ6_h s0).2.2.2.2.1, Lib.byteCells_length, rdHash_len]; omega) (oneCell_bytes _) (hash_size _ (rdHash_len _)) ?_)
  intro w6 g6 s6 b6
  have e6 := setHeader_app (headerQ6 s0) (rdHash (headerT7 s0)).1 (rdHash_len _) (headerQ6_h s0).1 (headerQ6_h s0).2.1 (headerQ6_h s0).2.2.1 (headerQ6_h s0).2.2.2.1 (headerQ6_h s0).2.2.2.2.1
  replace b6 : Blk w6 wm.heap.size (headerQ7 s0).cells 57 := by
    have e7 : _ = (headerQ7 s0).cells := e6
    rw [← e7]
    first | exact b6 | (rw [List.append_assoc]; exact b6)
  clear e6
  replace R := Lib.hid (R.out.grownAt g6 Hm.out); replace G := Lib.hid (grown_new G.out g6 Hm0.out); replace L := Lib.hid (show Blk w6 wm.heap.size (headerQ7 s0).cells 57 from b6); clear b6 g6 s6
  have RB := Lib.hid (B1.out.grown G.out Hrp.out)
  have Hc := Lib.hid (HeaderD.cells_length' (headerQ7 s0) (headerQ7_h s0).1 (headerQ7_h s0).2.1 (headerQ7_h s0).2.2.1 (headerQ7_h s0).2.2.2.1 (headerQ7_h s0).2.2.2.2.1)
  go_wp2_with (first | (refine wpList_load_part rfl 57 _ rfl wm.heap.size 0 rfl (headerQ7 s0).cells _ L.out.row Tryd.underlying57 rfl (sizeHeader _ Hc.out) ?_) | (refine wpList_store_whole rfl 57 _ _ rfl w.heap.size rfl (headerQ7 s0).cells ZHeader 57 rfl RB.out (by rw [Hc.out]; rfl) (HeaderD_one _) (sizeHeader _ Hc.out) ?_))
  intro w7 g7 s7 b7
  have RB2 := Lib.hid b7
  have Hlt := Lib.hid H.out.lt
  replace R := Lib.hid (R.out.grownAt g7 Hlt.out); replace G := Lib.hid (grown_new (Lib.grownBy_trans (grown_none G1.out) G.out) g7 (Nat.le_refl _)); clear b7 g7 s7
  go_wp2_with fail
  refine bodyPost_ret (results_cell_one rfl _ _ ⟨w.heap.size, 0, none⟩ _ rfl (run_loadVar_part _ _ _ 57 (headerQ7 s0).cells _ RB2.out.row Tryd.underlying57 rfl (sizeHeader _ Hc.out))) rfl ?_
  obtain rfl := Hs0.out
  exact ⟨rfl, R.out, G.out⟩

theorem decQHeader_t (l : List UInt8) (h : (decide ((rdHeader (kst 2 (some l))).2 = some []) && okHeader (rdHeader (kst 2 (some l))).1) = true) : (decHeader l).map HeaderD.cells = some (rdHeader (kst 2 (some l))).1.cells := by
  by_cases hk : (rdNum (some l)).1 = 2
  · rw [kst_eq hk] at h ⊢; exact decHeader_t l hk h
  · rw [kst_ne rfl hk, rdHeader_none] at h; simp at h
theorem decQHeader_f (l : List UInt8) (h : (decide ((rdHeader (kst 2 (some l))).2 = some []) && okHeader (rdHeader (kst 2 (some l))).1) = false) : (decHeader l).map HeaderD.cells = none := by
  by_cases hk : (rdNum (some l)).1 = 2
  · rw [kst_eq hk] at h; exact decHeader_f l h
  · exact decHeader_k l hk

set_option maxHeartbeats 1000000 in
theorem ReadHeader_any (v : Value) (l : List UInt8) (w : World) (hv : RdB w v l) :
    Calls Tryd.prog 22 #[v] w (Decodes ((decHeader l).map HeaderD.cells) ZHeader w) := by
  obtain ⟨ao, c, rfl, hle, hcm, hrow⟩ := hv
  have ht := decQHeader_t l; have hf := decQHeader_f l
  have hq := fun p w h => QHeader p (some l) w h
  have wfd := rdHeader_wf (kst 2 (some l))
  have hch : (rdHeader (kst 2 (some l))).1.chain.size ≤ 140737488351232 := by
    show (rdText _).1.toArray.size ≤ _
    have := rdText_len (headerT0 (kst 2 (some l)))
    rw [List.size_toArray]; exact Nat.le_trans this (by omega)
  generalize rdHeader (kst 2 (some l)) = X at *
  obtain ⟨d, st⟩ := X
  dsimp only at ht hf hq wfd hch
  have Ht := Lib.hid ht; have Hf := Lib.hid hf; have Hq := Lib.hid hq; have Wf := Lib.hid wfd; have Hch := Lib.hid hch
  have Hcm := Lib.hid hcm; have Hle := Lib.hid hle; have Hrow := Lib.hid hrow
  clear ht hf hq wfd hch hcm hle hrow
  go_enter Tryd.func22, Tryd.ntmps22
  go_wp2_with (refine wpList_alloc_as rfl 57 rfl ZHeader ZHeader_info ?_)
  intro W1 b1 g1 s1
  have B1 := Lib.hid b1; have G1 := Lib.hid g1; have S1 := Lib.hid b1.lt; clear b1 g1 s1
  go_wp2_with (first | (refine wpList_build_eq rfl 124 _ rfl _ rfl [.slice ao l.length c, .bool false] (bReader _ _ _) ?_) | (refine wpList_box_agg rfl 124 _ rfl [.slice ao l.length c, .bool false] rfl ?_))
  intro W2 b2 g2 s2
  have hp : w.heap.size ≤ W1.heap.size := G1.out.size
  have R := Lib.hid (newReader b2 (Hle.out) Hcm.out (by
    rcases Hrow.out with h | ⟨g, o, e, h1, h2⟩
    · exact Or.inl h
    · exact Or.inr ⟨g, o, e, by omega, (h2.grown G1.out (by simp)).grown g2 (by simp)⟩))
  have G := Lib.hid (Lib.grownBy_trans G1.out g2)
  replace B1 := Lib.hid (B1.out.grown g2 (by simp))
  have Hp := Lib.hid hp; have Hrb := Lib.hid (show w.heap.size < W1.heap.size from S1.out)
  clear b2 g2 s2 hp
  go_wp2_with fail
  refine (Hq.out _ _ R.out).mono ?_
  rintro e w3 ⟨rfl, h1, h2⟩
  replace R := Lib.hid h1; replace G := Lib.hid (grown_new G.out h2 Hp.out)
  replace B1 := Lib.hid (B1.out.grown h2 (by have := Hrb.out; simp; omega))
  have Hm := Lib.hid (show W1.heap.size < w3.heap.size from R.out.lt)
  have Hc := Lib.hid (d.cells_length Wf.out)
  clear h1 h2
  go_wp2_with (refine wpList_alloc_as rfl 57 rfl ZHeader ZHeader_info ?_)
  intro w4 b4 g4 s4
  replace R := Lib.hid (R.out.grown g4); replace G := Lib.hid (Lib.grownBy_trans G.out g4); replace B1 := Lib.hid (B1.out.grown g4 (by simp)); have L := Lib.hid b4
  clear b4 g4 s4
  go_wp2_with (first | (refine wpList_store_whole rfl 57 _ _ rfl w3.heap.size rfl d.cells ZHeader 57 rfl L.out (by rw [Hc.out]; rfl) (HeaderD_one _) (sizeHeader _ Hc.out) ?_))
  intro w5 g5 s5 b5
  replace R := Lib.hid (R.out.grownAt g5 Hm.out); replace G := Lib.hid (grown_new G.out g5 (by have := Hm.out; have := Hp.out; omega)); replace B1 := Lib.hid (B1.out.grown g5 (by have := Hm.out; have := Hrb.out; simp; omega)); replace L := Lib.hid b5
  clear b5 g5 s5
  go_wp2_with (refine wpList_load_part rfl 57 _ rfl w3.heap.size 0 rfl d.cells _ L.out.row Tryd.underlying57 rfl (sizeHeader _ Hc.out) ?_)
  refine (RHeader d _ Wf.out Hch.out).mono ?_
  rintro e w6 ⟨a6, n6, c6, rfl, -, b6⟩
  have g6 := below_grown b6
  replace R := Lib.hid (R.out.grown g6); replace G := Lib.hid (Lib.grownBy_trans G.out g6); replace B1 := Lib.hid (B1.out.grown g6 (by simp)); replace L := Lib.hid (L.out.grown g6 (by simp))
  clear b6 g6
  go_wp2_with fail
  refine (ends_any _ st _ _ R.out).mono ?_; rintro e w' ⟨rfl, rfl⟩
  cases hb : (decide (st = some []) && okHeader d)
  · have e : endsN st (okHeader d) = 61 := by unfold endsN; rw [hb]; rfl
    rw [e]
    have Hn := Lib.hid (Hf.out hb); clear e hb
    go_wp2_with (first | (refine wpList_build_eq rfl 57 _ rfl _ rfl _ bHeader0 ?_) | (refine wpList_store_whole rfl 57 _ _ rfl w.heap.size rfl ZHeader ZHeader 57 rfl B1.out rfl ZHeader_one (sizeHeader _ ZHeader_length) ?_))
    intro w7 g7 s7 b7
    have B7 := Lib.hid b7; have G7 := Lib.hid (grown_new G.out g7 (Nat.le_refl _)); clear b7 g7 s7
    go_wp2_with fail
    refine bodyPost_ret (results_cell_tmp rfl _ _ ⟨w.heap.size, 0, none⟩ _ _ rfl rfl (run_loadVar_part _ _ _ 57 ZHeader _ B7.out.row Tryd.underlying57 rfl (sizeHeader _ ZHeader_length))) rfl ?_
    exact Decodes.no Hn.out (below_of_grown G7.out) rfl
  · have e : endsN st (okHeader d) = 0 := by unfold endsN; rw [hb]; rfl
    rw [e]
    have Hn := Lib.hid (Ht.out hb); clear e hb
    go_wp2_with (first | (refine wpList_load_part rfl 57 _ rfl w3.heap.size 0 rfl d.cells _ L.out.row Tryd.underlying57 rfl (sizeHeader _ Hc.out) ?_) | (refine wpList_store_whole rfl 57 _ _ rfl w.heap.size rfl d.cells ZHeader 57 rfl B1.out (by rw [Hc.out]; rfl) (HeaderD_one _) (sizeHeader _ Hc.out) ?_))
    intro w7 g7 s7 b7
    have B7 := Lib.hid b7; have G7 := Lib.hid (grown_new G.out g7 (Nat.le_refl _)); clear b7 g7 s7
    go_wp2_with fail
    refine bodyPost_ret (results_cell_tmp rfl _ _ ⟨w.heap.size, 0, none⟩ _ _ rfl rfl (run_loadVar_part _ _ _ 57 d.cells _ B7.out.row Tryd.underlying57 rfl (sizeHeader _ Hc.out))) rfl ?_
    exact Decodes.yes Hn.out (below_of_grown G7.out) rfl

end Go.Proofs.YtaffpgafbjhahaaDoor
