/- Walks: the hashes of headers and validators. -/
import Derived.Test.YtbhghlendbcejaaGreatDoorBkW
import Derived.Test.YtbhghlendbcejaaGreatDoorRefSet
import Derived.Test.YtbhghlendbcejaaGreatDoorEncode
namespace Go.Proofs.YtbhghlendbcejaaGreatDoor
open Go.RowKit
set_option maxRecDepth 100000

set_option maxHeartbeats 800000 in
theorem hashed_yes (tag : UInt8) (l : List UInt8) (v : Value) (w : World) (hv : RdB w v l) (hl : l.length ≤ 100000000000) (hR : RowAt w 1 0 (wCells rootsL)) :
    Calls Tryz.prog 98 #[.int .u8 (tag.toNat : Int), v, .int .i64 0] w fun e w' => e = .returned (.tuple #[.agg (Lib.byteCells (blake (tag :: l))).toArray, .int .i64 0]) ∧ w.grownBy w' none := by
  obtain ⟨ao, c, hv0, _⟩ := id hv
  subst hv0
  have HV := Lib.hid hv; have HR := Lib.hid hR
  clear hv hR
  go_enter Tryz.func98, Tryz.ntmps98
  go_wp2_with (refine wpList_alloc_as rfl 23 rfl ZH ZH_info ?_)
  intro w1 k1 k2 k3
  have O1 := Lib.hid k1; have G1 := Lib.hid k2; have S1 := Lib.hid k3
  clear k1 k2 k3
  go_wp2_with fail
  obtain ⟨w2, hw2⟩ : ∃ w2, w1.alloc (.cells #[.slice ao l.length c] 119) = w2 := ⟨_, rfl⟩
  have hb2 : w1.grownBy w2 none := hw2 ▸ World.grownBy_alloc w1 _ none
  have r2 : RdL w2 (.slice (some ⟨w1.heap.size, 0, none⟩) 1 1) [l] := by
    refine ⟨_, 1, [.slice ao l.length c], rfl, Nat.le_refl _, by simp [maxLen], rfl, fun i l' hi => ?_, Or.inr ⟨_, 0, rfl, ?_, ?_⟩⟩
    · have hi0 : i = 0 := by have := (List.getElem?_eq_some_iff.1 hi).1; simp at this; exact this
      subst hi0
      injection hi with hi
      subst hi
      exact ⟨_, rfl, (HV.out.grown G1.out).grown hb2⟩
    · rw [← hw2]; simp
    · rw [← hw2]; exact RowAt_box w1 [.slice ao l.length c] _
  rw [hw2]
  have O2 := Lib.hid (O1.out.grown hb2 (by simp)); have G2 := Lib.hid (Lib.grownBy_trans G1.out hb2)
  clear hw2 hb2 O1 G1
  have e1 : [l].flatten = l := by simp
  have C := Join_ok tag [l] _ w2 r2 (by rw [e1]; omega) (HR.out.grown G2.out (by simp))
  rw [e1] at C
  have hbl := blake_len (tag :: l)
  obtain ⟨X, hX⟩ : ∃ X, blake (tag :: l) = X := ⟨_, rfl⟩
  rw [hX] at C hbl
  have HX := Lib.hid hX
  clear hX
  refine C.mono ?_
  rintro e w3 ⟨rfl, g3⟩
  have hxl : (Lib.byteCells X).length = 32 := by rw [Lib.byteCells_length]; exact hbl
  have O3 := Lib.hid (O2.out.grown g3 (by simp)); have G3 := Lib.hid (Lib.grownBy_trans G2.out g3)
  clear g3 C r2 O2 G2
  go_wp2_with (first | (refine wpList_store_whole rfl 23 _ _ rfl w.heap.size rfl (Lib.byteCells X) ZH 23 rfl O3.out (by rw [hxl]; rfl) (Lib.byteCells_one _) (sizeH _ hxl) ?_))
  intro w4 g4 s4 b4
  have B4 := Lib.hid b4; have G4 := Lib.hid (grown_new G3.out g4 (Nat.le_refl _))
  clear b4 g4 s4
  go_wp2
  refine bodyPost_ret (results_cell_tmp rfl _ _ ⟨w.heap.size, 0, none⟩ _ _ rfl rfl (run_loadVar_part _ _ _ 23 (Lib.byteCells X) _ B4.out.row Tryz.underlying23 rfl (sizeH _ hxl))) rfl ?_
  rw [HX.out]
  exact ⟨rfl, G4.out⟩

theorem bHash0 : Tryz.prog.built 23 [] = some ZH.toArray := by kernel_rfl
set_option maxHeartbeats 800000 in
theorem hashed_no (tag : UInt8) (v : Value) (w : World) :
    Calls Tryz.prog 98 #[.int .u8 (tag.toNat : Int), v, .int .i64 61] w fun e w' => e = .returned (.tuple #[.agg ZH.toArray, .int .i64 61]) ∧ w.grownBy w' none := by
  go_enter Tryz.func98, Tryz.ntmps98
  go_wp2_with (refine wpList_alloc_as rfl 23 rfl ZH ZH_info ?_)
  intro w1 k1 k2 k3
  have O1 := Lib.hid k1; have G1 := Lib.hid k2
  clear k1 k2 k3
  go_wp2_with (first | (refine wpList_build_eq rfl 23 _ rfl [] (by kernel_rfl) ZH bHash0 ?_) | (refine wpList_store_whole rfl 23 _ _ rfl w.heap.size rfl ZH ZH 23 rfl O1.out rfl ZH_one (sizeH _ ZH_length) ?_))
  intro w4 g4 s4 b4
  have B4 := Lib.hid b4; have G4 := Lib.hid (grown_new G1.out g4 (Nat.le_refl _))
  clear b4 g4 s4
  go_wp2
  refine bodyPost_ret (results_cell_tmp rfl _ _ ⟨w.heap.size, 0, none⟩ _ _ rfl rfl (run_loadVar_part _ _ _ 23 ZH _ B4.out.row Tryz.underlying23 rfl (sizeH _ ZH_length))) rfl ?_
  exact ⟨rfl, G4.out⟩

/-- a hash, or none -/
def hshL (tag : UInt8) (ok : Bool) (l : List UInt8) : List UInt8 := if ok then blake (tag :: l) else List.replicate 32 0
theorem hshL_len (tag : UInt8) (ok : Bool) (l : List UInt8) : (hshL tag ok l).length = 32 := by unfold hshL; cases ok <;> simp [blake_len]
/-- what a hashing answers -/
def Hashes (tag : UInt8) (ok : Bool) (l : List UInt8) (w : World) (e : Ending) (w' : World) : Prop :=
  e = .returned (.tuple #[.agg (Lib.byteCells (hshL tag ok l)).toArray, .int .i64 (if ok then 0 else 61)]) ∧ w.grownBy w' none

set_option maxHeartbeats 800000 in
theorem hashed_any (tag : UInt8) (ok : Bool) (l : List UInt8) (v : Value) (c : Int) (w : World) (h : EncW ok l v c w) (hl : ok = true → l.length ≤ 100000000000) (hR : RowAt w 1 0 (wCells rootsL)) :
    Calls Tryz.prog 98 #[.int .u8 (tag.toNat : Int), v, .int .i64 c] w (Hashes tag ok l w) := by
  rcases h with ⟨rfl, rfl, hr⟩ | ⟨rfl, rfl, rfl⟩
  · exact (hashed_yes tag l v w hr (hl rfl) hR).mono fun e w' h => h
  · exact (hashed_no tag _ w).mono fun e w' h => h

set_option maxHeartbeats 800000 in
theorem HeaderHash_any (d : HeaderD) (w : World) (hv : d.wf) (hR : RowAt w 1 0 (wCells rootsL)) :
    Calls Tryz.prog 66 #[.agg d.cells.toArray] w (Hashes 2 (okHeader d) (encHeader d) w) := by
  have hcl : d.cells.length = 163 := d.cells_length hv
  have HR := Lib.hid hR; have HV := Lib.hid hv
  clear hR hv
  go_enter Tryz.func66, Tryz.ntmps66
  go_wp2_with (refine wpList_box_as rfl 25 _ rfl d.cells rfl ?_)
  intro w1 b1 g1 s1
  have B1 := Lib.hid b1; have G1 := Lib.hid g1; have S1 := Lib.hid s1
  clear b1 g1 s1
  go_wp2_with (refine wpList_alloc_as rfl 23 rfl ZH ZH_info ?_)
  intro w2 k1 k2 k3
  have hs1 := S1.out
  rw [hs1] at k1 ⊢
  have B2 := Lib.hid (B1.out.grown k2 (by simp)); have O2 := Lib.hid k1; have G2 := Lib.hid (Lib.grownBy_trans G1.out k2)
  clear k1 k2 k3 B1 G1 S1 hs1
  go_wp2_with (refine wpList_load_part rfl 25 _ rfl w.heap.size 0 rfl d.cells _ B2.out.row Tryz.underlying25 rfl (sizeHeader _ hcl) ?_)
  refine (EncodeHeader_any d w2 HV.out).mono ?_
  intro e w3 h3
  obtain ⟨a, n, k, c, rfl, h4, g4⟩ := EncW.of h3
  have E4 := Lib.hid h4; have O3 := Lib.hid (O2.out.grown g4 (by simp)); have G3 := Lib.hid (Lib.grownBy_trans G2.out g4)
  clear h3 h4 g4 B2 O2 G2
  go_wp2_with fail
  refine (show Calls Tryz.prog 98 #[.int .u8 2, .slice a n k, .int .i64 c] w3 _ from hashed_any 2 (okHeader d) (encHeader d) (.slice a n k) c w3 E4.out (fun h => by have := encHeader_len d HV.out h; omega) (HR.out.grown G3.out (by simp))).mono ?_
  rintro e w4 ⟨rfl, g5⟩
  have hxl : (Lib.byteCells (hshL 2 (okHeader d) (encHeader d))).length = 32 := by rw [Lib.byteCells_length]; exact hshL_len _ _ _
  obtain ⟨X, hX⟩ : ∃ X, hshL 2 (okHeader d) (encHeader d) = X := ⟨_, rfl⟩
  obtain ⟨cc, hcc⟩ : ∃ c : Int, (if okHeader d then 0 else 61) = c := ⟨_, rfl⟩
  rw [hX] at hxl ⊢
  rw [hcc]
  have O4 := Lib.hid (O3.out.grown g5 (by simp)); have G4 := Lib.hid (Lib.grownBy_trans G3.out g5); have HX := Lib.hid hX; have HC := Lib.hid hcc
  clear g5 O3 G3 E4 hX hcc
  go_wp2_with (first | (refine wpList_store_whole rfl 23 _ _ rfl (w.heap.size + 1) rfl (Lib.byteCells X) ZH 23 rfl O4.out (by rw [hxl]; rfl) (Lib.byteCells_one _) (sizeH _ hxl) ?_))
  intro w5 g6 s6 b6
  have B6 := Lib.hid b6; have G6 := Lib.hid (grown_new G4.out g6 (by omega))
  clear b6 g6 s6
  go_wp2
  refine bodyPost_ret (results_cell_tmp rfl _ _ ⟨w.heap.size + 1, 0, none⟩ _ _ rfl rfl (run_loadVar_part _ _ _ 23 (Lib.byteCells X) _ B6.out.row Tryz.underlying23 rfl (sizeH _ hxl))) rfl ?_
  unfold Hashes
  rw [HX.out, HC.out]
  exact ⟨rfl, G6.out⟩

theorem set_le (ds : List ValD) (h : okSet ds = true) : (encSet ds).length ≤ 100000000000 := by
  have : ds.length ≤ 64 := by simpa [okSet] using h
  rw [encSet_length]; omega
set_option maxHeartbeats 800000 in
theorem SetHash_any (v : Value) (ds : List ValD) (w : World) (hw : ∀ d ∈ ds, d.wf) (hr : RdS w.heap.size w v ds.length 2 (setCells ds)) (hR : RowAt w 1 0 (wCells rootsL)) :
    Calls Tryz.prog 103 #[v] w (Hashes 3 (okSet ds) (encSet ds) w) := by
  obtain ⟨ao, cp, hv⟩ := hr.shape
  subst hv
  have HR := Lib.hid hR; have HV := Lib.hid hw; have HS := Lib.hid hr
  clear hR hw hr
  go_enter Tryz.func103, Tryz.ntmps103
  go_wp2_with (refine wpList_alloc_as rfl 23 rfl ZH ZH_info ?_)
  intro w2 k1 k2 k3
  have O2 := Lib.hid k1; have G2 := Lib.hid k2
  clear k1 k2 k3
  go_wp2_with fail
  refine (EncodeSet_any _ ds w2 HV.out ((HS.out.grown G2.out).mono G2.out.size)).mono ?_
  intro e w3 h3
  obtain ⟨a, n, k, c, rfl, h4, g4⟩ := EncW.of h3
  have E4 := Lib.hid h4; have O3 := Lib.hid (O2.out.grown g4 (by simp)); have G3 := Lib.hid (Lib.grownBy_trans G2.out g4)
  clear h3 h4 g4 O2 G2
  go_wp2_with fail
  refine (show Calls Tryz.prog 98 #[.int .u8 3, .slice a n k, .int .i64 c] w3 _ from hashed_any 3 (okSet ds) (encSet ds) (.slice a n k) c w3 E4.out (set_le ds) (HR.out.grown G3.out (by simp))).mono ?_
  rintro e w4 ⟨rfl, g5⟩
  have hxl : (Lib.byteCells (hshL 3 (okSet ds) (encSet ds))).length = 32 := by rw [Lib.byteCells_length]; exact hshL_len _ _ _
  obtain ⟨X, hX⟩ : ∃ X, hshL 3 (okSet ds) (encSet ds) = X := ⟨_, rfl⟩
  obtain ⟨cc, hcc⟩ : ∃ c : Int, (if okSet ds then 0 else 61) = c := ⟨_, rfl⟩
  rw [hX] at hxl ⊢
  rw [hcc]
  have O4 := Lib.hid (O3.out.grown g5 (by simp)); have G4 := Lib.hid (Lib.grownBy_trans G3.out g5); have HX := Lib.hid hX; have HC := Lib.hid hcc
  clear g5 O3 G3 E4 hX hcc
  go_wp2_with (first | (refine wpList_store_whole rfl 23 _ _ rfl w.heap.size rfl (Lib.byteCells X) ZH 23 rfl O4.out (by rw [hxl]; rfl) (Lib.byteCells_one _) (sizeH _ hxl) ?_))
  intro w5 g6 s6 b6
  have B6 := Lib.hid b6; have G6 := Lib.hid (grown_new G4.out g6 (Nat.le_refl _))
  clear b6 g6 s6
  go_wp2
  refine bodyPost_ret (results_cell_tmp rfl _ _ ⟨w.heap.size, 0, none⟩ _ _ rfl rfl (run_loadVar_part _ _ _ 23 (Lib.byteCells X) _ B6.out.row Tryz.underlying23 rfl (sizeH _ hxl))) rfl ?_
  unfold Hashes
  rw [HX.out, HC.out]
  exact ⟨rfl, G6.out⟩

end Go.Proofs.YtbhghlendbcejaaGreatDoor
