/- Walk of the document's block. Walk of the document's digest. Walks of the document's digest of parts; of what is signed; of the hashes of headers and validators. -/
import Derived.Test.YtcbkehnlgpcelaaGreatDoorRBk
import Derived.Test.YtcbkehnlgpcelaaGreatDoorRefD
import Derived.Deep.RegionHeld3
import Derived.Test.YtcbkehnlgpcelaaGreatDoorBkW
import Derived.Test.YtcbkehnlgpcelaaGreatDoorRefSet
namespace Go.Proofs.YtcbkehnlgpcelaaGreatDoor
open Go.RowKit
set_option maxRecDepth 100000

/-- what a function answers that makes words -/
def MakesW (V : List Nat) (w : World) (e : Ending) (w' : World) : Prop := ∃ v, e = .returned v ∧ OwnW w.heap.size v V w' ∧ Below w.heap.size w w'
theorem msgL_take_snoc (B : List UInt8) (j : Nat) (h : j < 16) : (msgL B).take (j + 1) = (msgL B).take j ++ [wordAt B j] := by
  have hl : j < (msgL B).length := by rw [msgL_len]; exact h
  rw [List.take_succ_eq_append_getElem hl]
  have : (msgL B)[j] = wordAt B j := by simp [msgL]
  rw [this]
theorem word_sum (a b c d : Nat) (ha : a < 256) (hb : b < 256) (hc : c < 256) (hd : d < 256) :
    IntKind.u32.wrap (IntKind.u32.wrap (IntKind.u32.wrap (IntKind.u32.wrap (a : Int) + IntKind.u32.wrap (IntKind.u32.wrap (b : Int) * 256)) + IntKind.u32.wrap (IntKind.u32.wrap (c : Int) * 65536)) + IntKind.u32.wrap (IntKind.u32.wrap (d : Int) * 16777216)) = ((a + b * 256 + c * 65536 + d * 16777216 : Nat) : Int) := by
  simp only [IntKind.wrap_u32']; omega

theorem kept_alloc {w : World} {b k : Nat} (h : b < w.heap.size) (o : Obj) : (w.alloc o).cell? ⟨b, k, none⟩ = w.cell? ⟨b, k, none⟩ :=
  (below_box w o).cell (p := ⟨b, k, none⟩) h
theorem below_row {B g : Nat} {w w1 w2 : World} (h : Below B w w1) (hg : w1.grownBy w2 (some g)) (hB : B ≤ g) (hl : g < w1.heap.size) : Below B w w2 :=
  h.trans ⟨hg.os, hg.tape, hg.output, hg.size, fun k hk => hg.block k (by omega) (by simp; omega)⟩
theorem roots_snoc (j : Nat) (h : j < 8) : rootsL.take (j + 1) = rootsL.take j ++ [gV rootsL j] := by
  rcases (show j = 0 ∨ j = 1 ∨ j = 2 ∨ j = 3 ∨ j = 4 ∨ j = 5 ∨ j = 6 ∨ j = 7 by omega) with rfl | rfl | rfl | rfl | rfl | rfl | rfl | rfl <;> rfl
/-- the places of a G, in the program's own cells -/
def plCs (i : Nat) : List Value := [.int .i64 (plA i), .int .i64 (plB i), .int .i64 (plC i), .int .i64 (plD i)]
def plPs (i : Nat) : List (Nat × Value) := [(0, .int .i64 (plA i)), (1, .int .i64 (plB i)), (2, .int .i64 (plC i)), (3, .int .i64 (plD i))]
def plAll : List Value := (List.range 8).flatMap plCs
def plVs : List Value := (List.range 8).map fun i => .agg (plCs i).toArray
theorem four_zs : (Tryz.prog.info? 195).map (fun i => (i.zero, i.size)) = some (some (.agg (List.replicate 4 (.int .i64 0)).toArray), 4) := by kernel_rfl
theorem plVs_size : ∀ v ∈ plVs, v.cells.size = 4 := by intro v hv; obtain ⟨i, _, rfl⟩ := List.mem_map.1 hv; rfl
theorem plAll_part (i : Nat) (h : i < 8) : (plAll.drop (i * 4)).take 4 = plCs i := by
  rcases (show i = 0 ∨ i = 1 ∨ i = 2 ∨ i = 3 ∨ i = 4 ∨ i = 5 ∨ i = 6 ∨ i = 7 by omega) with rfl | rfl | rfl | rfl | rfl | rfl | rfl | rfl <;> rfl
def plLit : Array Value := #[.int .i64 0, .int .i64 4, .int .i64 8, .int .i64 12, .int .i64 1, .int .i64 5, .int .i64 9, .int .i64 13, .int .i64 2, .int .i64 6, .int .i64 10, .int .i64 14, .int .i64 3, .int .i64 7, .int .i64 11, .int .i64 15, .int .i64 0, .int .i64 5, .int .i64 10, .int .i64 15, .int .i64 1, .int .i64 6, .int .i64 11, .int .i64 12, .int .i64 2, .int .i64 7, .int .i64 8, .int .i64 13, .int .i64 3, .int .i64 4, .int .i64 9, .int .i64 14]
theorem plA_add (r j : Nat) : plA (8 * r + j) = plA j := by unfold plA; omega
theorem plB_add (r j : Nat) : plB (8 * r + j) = plB j := by
  unfold plB; rw [show (8 * r + j) % 8 = j % 8 by omega, show (8 * r + j) % 4 = j % 4 by omega]
theorem plC_add (r j : Nat) : plC (8 * r + j) = plC j := by
  unfold plC; rw [show (8 * r + j) % 8 = j % 8 by omega, show (8 * r + j) % 4 = j % 4 by omega]
theorem plD_add (r j : Nat) : plD (8 * r + j) = plD j := by
  unfold plD; rw [show (8 * r + j) % 8 = j % 8 by omega, show (8 * r + j) % 4 = j % 4 by omega]
theorem plA_lt (j : Nat) : plA j < 16 := by unfold plA; omega
theorem plB_lt (j : Nat) : plB j < 16 := by unfold plB; split <;> omega
theorem plC_lt (j : Nat) : plC j < 16 := by unfold plC; split <;> omega
theorem plD_lt (j : Nat) : plD j < 16 := by unfold plD; split <;> omega
theorem step_mix (M V : List Nat) (r j : Nat) : stepsL M V (8 * r + j + 1) = mixL (stepsL M V (8 * r + j)) (plA j) (plB j) (plC j) (plD j) (gV M (sg (16 * r + 2 * j))) (gV M (sg (16 * r + (2 * j + 1)))) := by
  show stepL M (stepsL M V (8 * r + j)) (8 * r + j) = _
  unfold stepL
  rw [plA_add, plB_add, plC_add, plD_add, show 2 * (8 * r + j) + 1 = 16 * r + (2 * j + 1) by omega, show 2 * (8 * r + j) = 16 * r + 2 * j by omega]
theorem take_snoc_gV (X : List Nat) (j : Nat) (h : j < X.length) : X.take (j + 1) = X.take j ++ [gV X j] := by
  rw [List.take_succ_eq_append_getElem h]
  have : gV X j = X[j] := by unfold gV; rw [List.getD_eq_getElem?_getD, List.getElem?_eq_getElem h]; rfl
  rw [this]
theorem four_size : (Tryz.prog.info? 195).map (·.size) = some 4 := by kernel_rfl
set_option maxHeartbeats 1600000 in
theorem rblock_ok (H : List Nat) (B : List UInt8) (hg ho hc bg bo bc done : Nat) (last : Bool) (w : World) (hH : H.length = 8) (hw : Ws H) (hB : B.length = 64) (hd : done < 18446744073709551616)
    (h1 : RowAt w hg ho (wCells H)) (l1 : hg < w.heap.size) (h2 : RowAt w bg bo (Lib.byteCells B)) (l2 : bg < w.heap.size) :
    Calls Tryz.prog 124 #[.slice (some ⟨hg, ho, none⟩) 8 hc, .slice (some ⟨bg, bo, none⟩) 64 bc, .int .u64 (done : Int), .bool last] w (MakesW (blockL H B done last) w) := by
  have H1 := Lib.hid h1; have H2 := Lib.hid h2; have HH := Lib.hid hH; have HB := Lib.hid hB; have Hw := Lib.hid hw
  clear h1 h2 hH hB hw
  go_enter Tryz.func124, Tryz.ntmps124
  go_wp2_with fail
  go_loopw [9, 10] (fun m i wr => ∃ j : Nat, j ≤ 16 ∧ i = .int .i64 j ∧ OwnW w.heap.size m ((msgL B).take j) wr ∧ Below w.heap.size w wr) (fun _ i _ => 16 - (intOf i).toNat)
  case atStart => exact ⟨0, Nat.zero_le _, rfl, OwnW.nil _ _, Below.refl _ _⟩
  case round =>
    obtain ⟨j, hj, rfl, hm, hb⟩ := hrel
    have Hm := Lib.hid hm; have Hb := Lib.hid hb; clear hm hb
    by_cases hlt : j < 16
    · have hji : (j : Int) < 16 := by omega
      have hk : ∀ i, i < 64 → wr.cell? ⟨bg, bo + i, none⟩ = some (.int .u8 ((B.getD i 0).toNat : Int)) := fun i hi => (H2.out.below Hb.out l2) i _ (by
        rw [byteCells_get B i (by rw [HB.out]; exact hi)]; simp [List.getD, List.getElem?_eq_getElem (show i < B.length by rw [HB.out]; exact hi)])
      have c0 := hk (4 * j) (by omega)
      have c1 := hk (4 * j + 1) (by omega)
      have c2 := hk (4 * j + 2) (by omega)
      have c3 := hk (4 * j + 3) (by omega)
      clear hk
      have hs := word_sum (B.getD (4 * j) 0).toNat (B.getD (4 * j + 1) 0).toNat (B.getD (4 * j + 2) 0).toNat (B.getD (4 * j + 3) 0).toNat (UInt8.toNat_lt _) (UInt8.toNat_lt _) (UInt8.toNat_lt _) (UInt8.toNat_lt _)
      have HS := Lib.hid (show IntKind.u32.wrap _ = ((wordAt B j : Nat) : Int) from hs)
      clear hs
      obtain ⟨x0, hx0⟩ : ∃ x, (B.getD (4 * j) 0).toNat = x := ⟨_, rfl⟩
      obtain ⟨x1, hx1⟩ : ∃ x, (B.getD (4 * j + 1) 0).toNat = x := ⟨_, rfl⟩
      obtain ⟨x2, hx2⟩ : ∃ x, (B.getD (4 * j + 2) 0).toNat = x := ⟨_, rfl⟩
      obtain ⟨x3, hx3⟩ : ∃ x, (B.getD (4 * j + 3) 0).toNat = x := ⟨_, rfl⟩
      rw [hx0] at c0 HS; rw [hx1] at c1 HS; rw [hx2] at c2 HS; rw [hx3] at c3 HS
      have y0 : x0 < 256 := hx0 ▸ UInt8.toNat_lt _
      have y1 : x1 < 256 := hx1 ▸ UInt8.toNat_lt _
      have y2 : x2 < 256 := hx2 ▸ UInt8.toNat_lt _
      have y3 : x3 < 256 := hx3 ▸ UInt8.toNat_lt _
      clear hx0 hx1 hx2 hx3
      have w0 : IntKind.i64.wrap (4 * (j : Int)) = 4 * (j : Int) := by simp [IntKind.wrap, IntKind.bits, IntKind.signed]; omega
      have w1 : IntKind.i64.wrap (4 * (j : Int) + 1) = 4 * (j : Int) + 1 := by simp [IntKind.wrap, IntKind.bits, IntKind.signed]; omega
      have w2 : IntKind.i64.wrap (4 * (j : Int) + 2) = 4 * (j : Int) + 2 := by simp [IntKind.wrap, IntKind.bits, IntKind.signed]; omega
      have w3 : IntKind.i64.wrap (4 * (j : Int) + 3) = 4 * (j : Int) + 3 := by simp [IntKind.wrap, IntKind.bits, IntKind.signed]; omega
      have z0 : (0 : Int) ≤ 4 * (j : Int) := by omega
      have z1 : (0 : Int) ≤ 4 * (j : Int) + 1 := by omega
      have z2 : (0 : Int) ≤ 4 * (j : Int) + 2 := by omega
      have z3 : (0 : Int) ≤ 4 * (j : Int) + 3 := by omega
      have t0 : (4 * (j : Int)).toNat = 4 * j := by omega
      have t1 : (4 * (j : Int) + 1).toNat = 4 * j + 1 := by omega
      have t2 : (4 * (j : Int) + 2).toNat = 4 * j + 2 := by omega
      have t3 : (4 * (j : Int) + 3).toNat = 4 * j + 3 := by omega
      have u0 : (4 * (j : Int)) < 64 := by omega
      have u1 : (4 * (j : Int) + 1) < 64 := by omega
      have u2 : (4 * (j : Int) + 2) < 64 := by omega
      have u3 : (4 * (j : Int) + 3) < 64 := by omega
      go_wp2_with fail
      have l3 : bg < wr.drew.heap.size := Nat.lt_of_lt_of_le l2 Hb.out.size
      have L := Lib.hid (show ∀ o, (wr.drew.alloc o).cell? ⟨bg, bo + 4 * j, none⟩ = some (.int .u8 (x0 : Int)) ∧ (wr.drew.alloc o).cell? ⟨bg, bo + (4 * j + 1), none⟩ = some (.int .u8 (x1 : Int)) ∧ (wr.drew.alloc o).cell? ⟨bg, bo + (4 * j + 2), none⟩ = some (.int .u8 (x2 : Int)) ∧ (wr.drew.alloc o).cell? ⟨bg, bo + (4 * j + 3), none⟩ = some (.int .u8 (x3 : Int)) from fun o => ⟨(kept_alloc l3 o).trans c0, (kept_alloc l3 o).trans c1, (kept_alloc l3 o).trans c2, (kept_alloc l3 o).trans c3⟩)
      go_region_held3 (fun w' => w'.cell? ⟨bg, bo + 4 * j, none⟩ = some (.int .u8 (x0 : Int)) ∧ w'.cell? ⟨bg, bo + (4 * j + 1), none⟩ = some (.int .u8 (x1 : Int)) ∧ w'.cell? ⟨bg, bo + (4 * j + 2), none⟩ = some (.int .u8 (x2 : Int)) ∧ w'.cell? ⟨bg, bo + (4 * j + 3), none⟩ = some (.int .u8 (x3 : Int))) (first | exact ⟨c0, c1, c2, c3⟩ | exact L.out _ | exact ⟨q0, q1, q2, q3⟩) (first | (refine step_appw_one (by rfl) _ _ (by rfl) (by rfl) (show OwnW _ _ _ wr.drew from Hm.out) (wordAt B j) (by rfl) HS.out ?_ ?_ ?_; (rw [List.length_take, msgL_len]; omega); (exact Hb.out.size); intro v' w8 o8 b8; have q0 := (b8.cell (p := ⟨bg, bo + 4 * j, none⟩) l2).trans c0; have q1 := (b8.cell (p := ⟨bg, bo + (4 * j + 1), none⟩) l2).trans c1; have q2 := (b8.cell (p := ⟨bg, bo + (4 * j + 2), none⟩) l2).trans c2; have q3 := (b8.cell (p := ⟨bg, bo + (4 * j + 3), none⟩) l2).trans c3))
      go_wp2
      refine ⟨⟨j + 1, by omega, by go_num, ?_, Hb.out.trans ((show Below w.heap.size wr wr.drew from (Below.refl _ _).drew).trans b8)⟩, by simp [intOf]; omega⟩
      rw [msgL_take_snoc B j hlt]; exact o8
    · obtain rfl : j = 16 := by omega
      have hm := Hm.out
      rw [List.take_of_length_le (by rw [msgL_len]; exact Nat.le_refl _)] at hm
      obtain ⟨mg, mc, mR, rfl, hmb, mB, hmc, hmm⟩ := hm.blk (by rw [msgL_len]; decide)
      rw [msgL_len] at hmc
      have MB := Lib.hid mB; have Hmb := Lib.hid hmb
      clear hm Hm mB hmb hmc hmm hj
      rw [msgL_len]
      have bmt : mg < wr.heap.size := MB.out.lt
      have Bwr := Lib.hid Hb.out
      have HR := Lib.hid (H1.out.below Hb.out l1)
      clear Hb
      go_wp2_with (first | (refine wpList_appw rfl _ _ rfl (B := wr.heap.size) (V := []) (U := H) rfl (World.ownsRow_lit (base := wr.heap.size) (e := 177) (size := 1) wr _ 0 (Nat.le_refl _) (by unfold maxLen; omega) rfl) _ rfl (srcW HH.out.symm (show RowAt (wr.alloc _) hg ho (wCells H) from HR.out.below (below_box wr _) (Nat.lt_of_lt_of_le l1 Bwr.out.size))) (by rw [HH.out]; decide) (by simp) ?_))
      intro v2 w2 o2 b2
      obtain ⟨nA, hnA⟩ : ∃ n, wr.heap.size = n := ⟨_, rfl⟩
      have bA := (below_box wr (.cells #[] 177)).trans b2
      rw [hnA] at o2 bA bmt
      have hwA : w.heap.size ≤ nA := hnA ▸ Bwr.out.size
      have O2 := Lib.hid o2; have B2 := Lib.hid (Bwr.out.trans (bA.mono hwA)); have M2 := Lib.hid (MB.out.below bA bmt); have Z2 := Lib.hid (show nA ≤ w2.heap.size from hnA ▸ bA.size)
      clear o2 b2 bA hnA MB HR Bwr
      go_wp2_with fail
      go_loopw [11, 12] (fun v i wx => ∃ j : Nat, j ≤ 8 ∧ i = .int .i64 j ∧ OwnW nA v (H ++ rootsL.take j) wx ∧ Below w.heap.size w wx ∧ Blk wx mg (wCells (msgL B) ++ mR) 177 ∧ nA ≤ wx.heap.size) (fun _ i _ => 8 - (intOf i).toNat)
      case atStart => exact ⟨0, Nat.zero_le _, rfl, by rw [List.take_zero, List.append_nil]; exact O2.out, B2.out, M2.out, Z2.out⟩
      case round =>
        obtain ⟨j, hj, rfl, hv, hb, hm, hz⟩ := hrel
        have Hv := Lib.hid hv; have Hb := Lib.hid hb; have Hm := Lib.hid hm; have Hz := Lib.hid hz; clear hv hb hm hz
        by_cases hlt : j < 8
        · have hji : (j : Int) < 8 := by omega
          go_wp2_with fail
          refine (root_ok j _ hlt).mono ?_
          rintro e w3 ⟨rfl, g3⟩
          have O3 := Lib.hid (Hv.out.keptO g3); have B3 := Lib.hid (Hb.out.trans ((below_of_grown g3).mono Hb.out.size)); have M3 := Lib.hid (Hm.out.grown g3 (by simp)); have Z3 := Lib.hid (Nat.le_trans Hz.out g3.size)
          clear g3
          go_wp2_with (first | (refine wpList_appw_one rfl _ _ rfl rfl O3.out (gV rootsL j) rfl rfl (by rw [List.length_append, List.length_take, HH.out]; omega) Z3.out ?_; intro v4 w4 o4 b4))
          refine ⟨⟨j + 1, by omega, by go_num, ?_, B3.out.trans (b4.mono hwA), M3.out.below b4 bmt, Nat.le_trans Z3.out b4.size⟩, by simp [intOf]; omega⟩
          rw [roots_snoc j hlt, ← List.append_assoc]; exact o4
        · obtain rfl : j = 8 := by omega
          have hv := Hv.out
          rw [List.take_of_length_le (by decide)] at hv
          obtain ⟨V0, hV0⟩ : ∃ V, H ++ rootsL = V := ⟨_, rfl⟩
          have l0 : V0.length = 16 := by rw [← hV0, List.length_append, HH.out]; rfl
          have x0 : Ws V0 := hV0 ▸ Hw.out.append rootsL_ws
          rw [hV0] at hv
          have E0 := Lib.hid hV0; clear hV0
          obtain ⟨vg, vc, vR, rfl, hvb, vB, hvc, hvm⟩ := hv.blk (by omega)
          rw [l0] at hvc ⊢
          have V7 := Lib.hid vB
          have M7 := Lib.hid Hm.out; have B7 := Lib.hid Hb.out
          have hmv : mg < vg := by omega
          have hvw : w.heap.size ≤ vg := by omega
          clear hv vB hvc hvm hvb Hv Hb Hm Hz O2 B2 M2 Z2 hj
          have c12 := wR_at V7.out 12 (by omega)
          have hdm : done % 4294967296 < 4294967296 := Nat.mod_lt _ (by omega)
          have edw : IntKind.u32.wrap (done : Int) = ((done % 4294967296 : Nat) : Int) := by rw [IntKind.wrap_u32']; omega
          obtain ⟨dl, hdl⟩ : ∃ x, done % 4294967296 = x := ⟨_, rfl⟩
          rw [hdl] at edw hdm
          have ex := u32_xor_nat _ _ (x0.get 12) hdm
          have Hdl := Lib.hid hdl; clear hdl
          go_wp2_with (first | (refine wpList_store_cell rfl 177 _ _ rfl vg 12 rfl (.int .u32 ((gV V0 12 ^^^ dl : Nat) : Int)) rfl rfl (wCells V0 ++ vR) 177 V7.out (wR_len _ _ _ (by omega)) (by kernel_rfl) ?_))
          intro w7 g5 s5 b5
          rw [wR_set _ _ _ _ (by omega), ← Hdl.out] at b5
          have V8 := Lib.hid b5; have M8 := Lib.hid (M7.out.grown g5 (by simp; omega)); have B8 := Lib.hid (below_row B7.out g5 (by omega) V7.out.lt)
          clear g5 s5 b5 V7 M7 B7 c12 edw ex Hdl hdm
          obtain ⟨V1, hV1⟩ : ∃ V, V0.set 12 (gV V0 12 ^^^ done % 4294967296) = V := ⟨_, rfl⟩
          rw [hV1] at V8
          have l1' : V1.length = 16 := by rw [← hV1, List.length_set]; exact l0
          have x1 : Ws V1 := hV1 ▸ x0.set _ _ (xor_lt (x0.get _) (Nat.mod_lt _ (by omega)))
          have E1 := Lib.hid hV1; clear hV1
          have c13 := wR_at V8.out 13 (by omega)
          have hdm : done / 4294967296 < 4294967296 := Nat.div_lt_of_lt_mul (by omega)
          have edw : IntKind.u32.wrap ((done : Int) / 4294967296) = ((done / 4294967296 : Nat) : Int) := by rw [IntKind.wrap_u32']; omega
          obtain ⟨dh, hdh⟩ : ∃ x, done / 4294967296 = x := ⟨_, rfl⟩
          rw [hdh] at edw hdm
          have ex := u32_xor_nat _ _ (x1.get 13) hdm
          have Hdh := Lib.hid hdh; clear hdh
          go_wp2_with (first | (refine wpList_store_cell rfl 177 _ _ rfl vg 13 rfl (.int .u32 ((gV V1 13 ^^^ dh : Nat) : Int)) rfl rfl (wCells V1 ++ vR) 177 V8.out (wR_len _ _ _ (by omega)) (by kernel_rfl) ?_))
          intro wb g5 s5 b5
          rw [wR_set _ _ _ _ (by omega), ← Hdh.out] at b5
          have V9 := Lib.hid b5; have M9 := Lib.hid (M8.out.grown g5 (by simp; omega)); have B9 := Lib.hid (below_row B8.out g5 (by omega) V8.out.lt)
          clear g5 s5 b5 V8 M8 B8 c13 edw ex Hdh hdm
          obtain ⟨V2, hV2⟩ : ∃ V, V1.set 13 (gV V1 13 ^^^ done / 4294967296) = V := ⟨_, rfl⟩
          rw [hV2] at V9
          have l2' : V2.length = 16 := by rw [← hV2, List.length_set]; exact l1'
          have x2 : Ws V2 := hV2 ▸ x1.set _ _ (xor_lt (x1.get _) (Nat.div_lt_of_lt_mul (by omega)))
          have E2 := Lib.hid hV2; clear hV2
          have c14 := wR_at V9.out 14 (by omega)
          go_upto_if 87 with (fail)
          go_cut [3] from 87 to 93 (fun s1 wx => s1 = .bool last ∧ Blk wx vg (wCells (beginL H done last) ++ vR) 177 ∧ wb.grownBy wx (some vg))
          case first =>
            cases last with
            | true =>
              have ex := u32_xor_nat (gV V2 14) 4294967295 (x2.get 14) (by omega)
              have e : beginL H done true = V2.set 14 (gV V2 14 ^^^ 4294967295) := by unfold beginL; simp only [E0.out, E1.out, E2.out]; rfl
              have He := Lib.hid e; clear e
              go_wp2_with (first | (refine wpList_store_cell rfl 177 _ _ rfl vg 14 rfl (.int .u32 ((gV V2 14 ^^^ 4294967295 : Nat) : Int)) (by first | rfl | exact congrArg (Value.int .u32) ex) rfl (wCells V2 ++ vR) 177 V9.out (wR_len _ _ _ (by omega)) (by kernel_rfl) ?_))
              intro w9 g5 s5 b5
              rw [wR_set _ _ _ _ (by omega), ← He.out] at b5
              have VB := Lib.hid b5; have GB := Lib.hid g5
              clear g5 s5 b5 c14 ex He
              go_wp2_with fail
              go_meet
              case rel => exact ⟨rfl, VB.out, GB.out⟩
            | false =>
              have e : beginL H done false = V2 := by unfold beginL; simp only [E0.out, E1.out, E2.out]; rfl
              have VB := Lib.hid (show Blk wb vg (wCells (beginL H done false) ++ vR) 177 by rw [e]; exact V9.out)
              clear c14 e
              go_wp2_with fail
              go_meet
              case rel => exact ⟨rfl, VB.out, ⟨rfl, rfl, rfl, Nat.le_refl _, fun _ _ _ => rfl⟩⟩
          case rest =>
            obtain ⟨rfl, hvb, hgb⟩ := hcut
            have VB := Lib.hid hvb; have MB2 := Lib.hid (M9.out.grown hgb (by simp; omega)); have BB := Lib.hid (below_row B9.out hgb (by omega) V9.out.lt)
            clear hvb hgb M9 V9 B9 c14
            generalize hlw : beginL H done last = Vb at VB
            have lb : Vb.length = 16 := by rw [← hlw]; exact beginL_len _ _ _ HH.out
            have xb : Ws Vb := by rw [← hlw]; exact beginL_ws Hw.out _ hd _
            have Hlw := Lib.hid hlw; clear hlw
            have pB0 := Blk.new wc plAll 195
            have pg0 := World.grownBy_alloc wc (.cells plAll.toArray 195) none
            have ps0 : (wc.alloc (.cells plAll.toArray 195)).heap.size = wc.heap.size + 1 := by simp
            have hvl := VB.out.lt
            have hpl : plAll.toArray = plLit := by kernel_rfl
            rw [hpl] at pg0 ps0
            have pB1 : Blk (wc.alloc (.cells plLit 195)) wc.heap.size plAll 195 := hpl ▸ pB0
            have PB := Lib.hid pB1; have PG := Lib.hid pg0; have PS := Lib.hid ps0
            clear pB0 pg0 ps0 pB1 hpl
            go_wp2_with fail
            change Code.wp _ _ _ _ (wc.alloc (.cells plLit 195))
            generalize wc.alloc (.cells plLit 195) = wp at PB PG PS ⊢
            have VP := Lib.hid (VB.out.grown PG.out (by simp)); have MP := Lib.hid (MB2.out.grown PG.out (by simp)); have BP := Lib.hid (BB.out.trans ((below_of_grown PG.out).mono BB.out.size))
            obtain ⟨pb, hpb⟩ : ∃ n, wc.heap.size = n := ⟨_, rfl⟩
            rw [hpb] at PB hvl ⊢
            clear hpb PG PS VB MB2 BB
            go_loopw [14] (fun i wx => ∃ r : Nat, r ≤ 10 ∧ i = .int .i64 r ∧ Blk wx vg (wCells (stepsL (msgL B) Vb (8 * r)) ++ vR) 177 ∧ wp.grownBy wx (some vg)) (fun i _ => 10 - (intOf i).toNat)
            case atStart => exact ⟨0, Nat.zero_le _, rfl, VP.out, ⟨rfl, rfl, rfl, Nat.le_refl _, fun _ _ _ => rfl⟩⟩
            case round =>
              obtain ⟨r, hr, rfl, hv, hg2⟩ := hrel
              have Hv := Lib.hid hv; have Hg := Lib.hid hg2; clear hv hg2
              by_cases hr10 : r < 10
              · have hr10i : (r : Int) < 10 := by omega
                go_wp2_with fail
                go_loopw [15] (fun i wi => ∃ j : Nat, j ≤ 8 ∧ i = .int .i64 j ∧ Blk wi vg (wCells (stepsL (msgL B) Vb (8 * r + j)) ++ vR) 177 ∧ wp.grownBy wi (some vg)) (fun i _ => 8 - (intOf i).toNat)
                case atStart => exact ⟨0, Nat.zero_le _, rfl, Hv.out, Hg.out⟩
                case round =>
                  obtain ⟨j, hj, rfl, hv2, hg2⟩ := hrel
                  have Hv2 := Lib.hid hv2; have Hg2 := Lib.hid hg2; clear hv2 hg2
                  by_cases hj8 : j < 8
                  · have hj8i : (j : Int) < 8 := by omega
                    go_wp2_with fail
                    have hpr : RowAt wr pb (j * 4) (plCs j) := by
                      have h4 := ((PB.out.grown Hg2.out (by simp; omega)).row).part (j * 4) 4
                      rw [Nat.zero_add, plAll_part j hj8] at h4
                      exact h4
                    have hO1 := order_ok r (2 * j) wr.drew hr10 (by omega)
                    have hO2 := order_ok r (2 * j + 1) wr.drew hr10 (by omega)
                    have m1 := wR_at (MP.out.grown Hg2.out (by simp; omega)) (sg (16 * r + 2 * j)) (by rw [msgL_len]; exact sg_lt _)
                    have m2 := wR_at (MP.out.grown Hg2.out (by simp; omega)) (sg (16 * r + (2 * j + 1))) (by rw [msgL_len]; exact sg_lt _)
                    have s1 : (sg (16 * r + 2 * j) : Int) < 16 := by have := sg_lt (16 * r + 2 * j); omega
                    have s2 : (sg (16 * r + (2 * j + 1)) : Int) < 16 := by have := sg_lt (16 * r + (2 * j + 1)); omega
                    have w1 : IntKind.i64.wrap (2 * (j : Int)) = 2 * (j : Int) := by simp [IntKind.wrap, IntKind.bits, IntKind.signed]; omega
                    have w2 : IntKind.i64.wrap (2 * (j : Int) + 1) = 2 * (j : Int) + 1 := by simp [IntKind.wrap, IntKind.bits, IntKind.signed]; omega
                    go_still_tail 20, (by kernel_rfl)
                    refine wpStill_load_part rfl 195 _ rfl pb (j * 4) rfl (plCs j) _ (show RowAt wr.drew pb (j * 4) (plCs j) from hpr) Tryz.underlying195 rfl four_size ?_
                    repeat still_step
                    still_call hO1
                    repeat still_step
                    still_call hO2
                    repeat still_step
                    refine wpStill_nil ?_
                    have C := mix_ok (stepsL (msgL B) Vb (8 * r + j)) vR 177 vg vc (plA j) (plB j) (plC j) (plD j) (gV (msgL B) (sg (16 * r + 2 * j))) (gV (msgL B) (sg (16 * r + (2 * j + 1)))) wr.drew (show Blk wr.drew _ _ _ from Hv2.out) (by rw [stepsL_len]; exact lb) (stepsL_ws xb _ _) (plA_lt j) (plB_lt j) (plC_lt j) (plD_lt j)
                    rw [← step_mix] at C
                    clear hpr hO1 hO2 m1 m2 s1 s2 w1 w2
                    go_wp2_with (go_at_call 150; refine C.mono ?_; rintro e w10 ⟨rfl, b10, g10⟩; have B10 := Lib.hid b10; have G10 := Lib.hid (Lib.grownBy_trans Hg2.out (undrew_grown g10)); clear b10 g10 C)
                    exact ⟨⟨j + 1, by omega, by go_num, B10.out, G10.out⟩, by simp [intOf]; omega⟩
                  · have ej : j = 8 := by omega
                    rw [ej] at Hv2
                    go_wp2
                    exact ⟨⟨r + 1, by omega, by go_num, Hv2.out, Hg2.out⟩, by simp [intOf]; omega⟩
              · have er : r = 10 := by omega
                have eri : (r : Int) = 10 := by omega
                rw [er] at Hv
                rw [eri]
                clear er eri hr10
                obtain ⟨Y, hY⟩ : ∃ Y, stepsL (msgL B) Vb 80 = Y := ⟨_, rfl⟩
                have ly : Y.length = 16 := by rw [← hY, stepsL_len]; exact lb
                have xy : Ws Y := hY ▸ stepsL_ws xb _ _
                have hv := Hv.out
                rw [show 8 * 10 = 80 from rfl, hY] at hv
                have Hbk := Lib.hid (show ∀ i, i < 8 → gV (blockL H B done last) i = gV H i ^^^ gV Y i ^^^ gV Y (i + 8) from fun i hi => by
                  rw [← hY, ← Hlw.out, Nat.xor_assoc]; exact blockL_get H B done last i hi)
                obtain ⟨X, hX⟩ : ∃ X, blockL H B done last = X := ⟨_, rfl⟩
                have lx : X.length = 8 := by rw [← hX]; exact blockL_len _ _ _ _
                rw [hX] at Hbk
                have HX := Lib.hid hX
                have BY := Lib.hid (below_row BP.out Hg.out (by omega) (by have := VP.out.lt; omega))
                obtain ⟨nB, hnB⟩ : ∃ n, wr.heap.size = n := ⟨_, rfl⟩
                have hvn : vg < nB := hnB ▸ hv.lt
                have hwn : w.heap.size ≤ nB := hnB ▸ BY.out.size
                have YV := Lib.hid hv; have Zn := Lib.hid (show nB ≤ wr.heap.size from hnB ▸ Nat.le_refl _)
                clear hY hX hv hnB Hv Hg VP MP PB BP Hlw hr
                go_wp2_with fail
                go_loopw [16, 17] (fun v i wx => ∃ j : Nat, j ≤ 8 ∧ i = .int .i64 j ∧ OwnW nB v (X.take j) wx ∧ Below w.heap.size w wx ∧ Blk wx vg (wCells Y ++ vR) 177 ∧ nB ≤ wx.heap.size) (fun _ i _ => 8 - (intOf i).toNat)
                case atStart => exact ⟨0, Nat.zero_le _, rfl, OwnW.nil _ _, BY.out, YV.out, Zn.out⟩
                case round =>
                  obtain ⟨j, hj, rfl, ho2, hb, hv, hz⟩ := hrel
                  have Ho := Lib.hid ho2; have Hb := Lib.hid hb; have Hv := Lib.hid hv; have Hz := Lib.hid hz; clear ho2 hb hv hz
                  by_cases hj8 : j < 8
                  · have hj8i : (j : Int) < 8 := by omega
                    have hj16 : (j : Int) < 16 := by omega
                    have hj816 : (j : Int) + 8 < 16 := by omega
                    have hj80 : (0 : Int) ≤ (j : Int) + 8 := by omega
                    have wj : IntKind.i64.wrap ((j : Int) + 8) = (j : Int) + 8 := by simp [IntKind.wrap, IntKind.bits, IntKind.signed]; omega
                    have tj : ((j : Int) + 8).toNat = j + 8 := by omega
                    have c0 := (H1.out.below Hb.out l1) j _ (wCells_get H j (by rw [HH.out]; omega))
                    have c1 := wR_at Hv.out j (by omega)
                    have c2 := wR_at Hv.out (j + 8) (by omega)
                    have ex1 := u32_xor_nat _ _ (Hw.out.get j) (xy.get j)
                    have ex2 := u32_xor_nat _ _ (xor_lt (Hw.out.get j) (xy.get j)) (xy.get (j + 8))
                    have l4 : hg < wr.drew.heap.size := Nat.lt_of_lt_of_le l1 Hb.out.size
                    have l5 : vg < wr.drew.heap.size := Hv.out.lt
                    have L := Lib.hid (show ∀ o, (wr.drew.alloc o).cell? ⟨hg, ho + j, none⟩ = some (.int .u32 (gV H j : Int)) ∧ (wr.drew.alloc o).cell? ⟨vg, j, none⟩ = some (.int .u32 (gV Y j : Int)) ∧ (wr.drew.alloc o).cell? ⟨vg, j + 8, none⟩ = some (.int .u32 (gV Y (j + 8) : Int)) from fun o => ⟨(kept_alloc l4 o).trans c0, (kept_alloc l5 o).trans c1, (kept_alloc l5 o).trans c2⟩)
                    go_wp2_with fail
                    go_region_held3 (fun w' => w'.cell? ⟨hg, ho + j, none⟩ = some (.int .u32 (gV H j : Int)) ∧ w'.cell? ⟨vg, j, none⟩ = some (.int .u32 (gV Y j : Int)) ∧ w'.cell? ⟨vg, j + 8, none⟩ = some (.int .u32 (gV Y (j + 8) : Int))) (first | exact ⟨c0, c1, c2⟩ | exact L.out _ | exact ⟨q0, q1, q2⟩) (first | (refine step_appw_one (by rfl) _ _ (by rfl) (by rfl) (show OwnW _ _ _ wr.drew from Ho.out) (gV X j) (by rfl) ?_ ?_ ?_ ?_; (rw [Hbk.out j hj8]); (rw [List.length_take, lx]; omega); (exact Hz.out); intro v' w8 o8 b8; have q0 := (b8.cell (p := ⟨hg, ho + j, none⟩) (Nat.lt_of_lt_of_le l1 hwn)).trans c0; have q1 := (b8.cell (p := ⟨vg, j, none⟩) hvn).trans c1; have q2 := (b8.cell (p := ⟨vg, j + 8, none⟩) hvn).trans c2))
                    go_wp2
                    have h9 := Lib.hid (show OwnW nB v' (X.take (j + 1)) w8 by rw [take_snoc_gV X j (by omega)]; exact o8)
                    have hb9 := Lib.hid (Hb.out.trans ((show Below w.heap.size wr wr.drew from (Below.refl _ _).drew).trans (b8.mono hwn)))
                    have hv9 := Lib.hid (Blk.below (show Blk wr.drew _ _ _ from Hv.out) b8 hvn)
                    exact ⟨⟨j + 1, by omega, by go_num, h9.out, hb9.out, hv9.out, Nat.le_trans Hz.out b8.size⟩, by simp [intOf]; omega⟩
                  · have ej : j = 8 := by omega
                    have h8 := Ho.out
                    have eji : (j : Int) = 8 := by omega
                    rw [ej, List.take_of_length_le (by omega)] at h8
                    rw [eji]
                    clear ej eji hj8
                    obtain ⟨oa, oc, hov⟩ := h8.shape
                    rw [lx] at hov
                    subst hov
                    have H8 := Lib.hid h8
                    clear h8
                    go_wp2
                    go_ret
                    rw [HX.out]
                    exact ⟨_, rfl, H8.out.mono hwn, Hb.out⟩

/-- the document's digest under way: what is taken, H -/
def SumSt (l : List UInt8) (X : List Nat) (p : Nat) : Prop :=
  (p < l.length ∧ ∃ f, l.length - p < f ∧ outL (hashL f X p (l.drop p)) = blake l) ∨ (0 < p ∧ l.length ≤ p ∧ p ≤ l.length + 63 ∧ outL X = blake l)
theorem SumSt.start (l : List UInt8) (h : 0 < l.length) : SumSt l startL 0 := Or.inl ⟨h, l.length + 1, by omega, by rw [List.drop_zero]; rfl⟩
/-- a block of it, filled up -/
def partL (l : List UInt8) (p : Nat) : List UInt8 := padL ((l.drop p).take 64)
theorem partL_len (l : List UInt8) (p : Nat) : (partL l p).length = 64 := by
  unfold partL padL
  rw [List.length_append, List.length_replicate, List.length_take]; omega
theorem SumSt.next {l : List UInt8} {X : List Nat} {p : Nat} (h : SumSt l X p) (hp : p < l.length) :
    SumSt l (blockL X (partL l p) (if l.length ≤ p + 64 then l.length else p + 64) (decide (l.length ≤ p + 64))) (p + 64) := by
  rcases h with ⟨_, f, hf, he⟩ | ⟨_, h2, _⟩
  · obtain ⟨g, rfl⟩ : ∃ g, f = g + 1 := ⟨f - 1, by omega⟩
    unfold hashL at he
    have hd : (l.drop p).length = l.length - p := List.length_drop
    by_cases hq : l.length ≤ p + 64
    · rw [if_neg (by omega)] at he
      refine Or.inr ⟨by omega, by omega, by omega, ?_⟩
      have e : partL l p = padL (l.drop p) := by unfold partL; rw [List.take_of_length_le (by omega)]
      rw [if_pos hq, e, decide_eq_true hq, ← he, hd, show p + (l.length - p) = l.length by omega]
    · rw [if_pos (by omega)] at he
      refine Or.inl ⟨by omega, g, by omega, ?_⟩
      have e : partL l p = (l.drop p).take 64 := by
        unfold partL padL
        rw [List.length_take, Nat.min_eq_left (by omega)]; simp
      rw [if_neg hq, e, decide_eq_false hq, ← he, List.drop_drop]
  · omega
def z64 : List Value := Lib.byteCells (List.replicate 64 0)
theorem copy_z (l : List UInt8) (p : Nat) : Lib.byteCells ((l.drop p).take 64) ++ z64.drop (Lib.byteCells ((l.drop p).take 64)).length = Lib.byteCells (partL l p) := by
  unfold partL padL z64
  rw [Lib.byteCells_append, Lib.byteCells_length]
  congr 1
  unfold Lib.byteCells
  rw [List.map_replicate, List.map_replicate, List.drop_replicate]

theorem start_of : rootsL.set 0 (gV rootsL 0 ^^^ 16842784) = startL := by kernel_rfl

theorem wR_row {w : World} {g : Nat} {V : List Nat} {R : List Value} {T : TypeId} (h : Blk w g (wCells V ++ R) T) : RowAt w g 0 (wCells V) :=
  RowAt.sub (xs := []) (zs := R) (by rw [List.nil_append]; exact h.row)
set_option maxHeartbeats 1600000 in
theorem rsum_ok (l : List UInt8) (g o c : Nat) (w : World) (h0 : 0 < l.length) (hc : l.length ≤ c) (hcm : c ≤ maxLen) (hr : RowAt w g o (Lib.byteCells l)) (hgl : g < w.heap.size) (hl : l.length < 4611686018427387904) :
    Calls Tryz.prog 88 #[.slice (some ⟨g, o, none⟩) l.length c] w fun e w' => e = .returned (.agg (Lib.byteCells (blake l)).toArray) ∧ w.grownBy w' none := by
  have hmk : ∀ w : World, (Instr.makeSlice 27 (.int .i64 64) (.int .i64 64)).run Tryz.prog w = .ok (.slice (some ⟨w.heap.size, 0, none⟩) 64 64) (w.alloc (.cells z64.toArray 5)) := fun _ => by kernel_rfl
  have HR := Lib.hid hr; have H0 := Lib.hid h0
  unfold maxLen at hcm
  clear hr h0
  go_enter Tryz.func88, Tryz.ntmps88
  go_wp2_with (refine wpList_alloc_as rfl 26 rfl ZH ZH_info ?_)
  intro w1 k1 k2 k3
  obtain ⟨ob, hob⟩ : ∃ m, w.heap.size = m := ⟨_, rfl⟩
  rw [hob] at k1 k3 ⊢
  have Hob := Lib.hid hob
  have O1 := Lib.hid k1; have B1 := Lib.hid (below_of_grown k2); have S1 := Lib.hid (show ob + 1 ≤ w1.heap.size by omega)
  rw [hob] at hgl
  clear k1 k2 k3 hob
  go_wp2_with fail
  go_loopw [3, 4] (fun v i wx => ∃ j : Nat, j ≤ 8 ∧ i = .int .i64 j ∧ OwnW (ob + 1) v (rootsL.take j) wx ∧ Below w.heap.size w wx ∧ Blk wx ob ZH 26 ∧ ob + 1 ≤ wx.heap.size) (fun _ i _ => 8 - (intOf i).toNat)
  case atStart => exact ⟨0, Nat.zero_le _, rfl, OwnW.nil _ _, B1.out, O1.out, S1.out⟩
  case round =>
    obtain ⟨j, hj, rfl, hv, hb, ho, hz⟩ := hrel
    have Hv := Lib.hid hv; have Hb := Lib.hid hb; have Ho := Lib.hid ho; have Hz := Lib.hid hz; clear hv hb ho hz
    by_cases hlt : j < 8
    · have hji : (j : Int) < 8 := by omega
      go_wp2_with fail
      refine (root_ok j _ hlt).mono ?_
      rintro e w3 ⟨rfl, g3⟩
      have O3 := Lib.hid (Hv.out.keptO g3); have B3 := Lib.hid (Hb.out.trans ((below_of_grown g3).mono Hb.out.size)); have M3 := Lib.hid (Ho.out.grown g3 (by simp)); have Z3 := Lib.hid (Nat.le_trans Hz.out g3.size)
      clear g3
      go_wp2_with (first | (refine wpList_appw_one rfl _ _ rfl rfl O3.out (gV rootsL j) rfl rfl (by rw [List.length_take]; have : rootsL.length = 8 := rfl; omega) Z3.out ?_; intro v4 w4 o4 b4))
      refine ⟨⟨j + 1, by omega, by go_num, ?_, B3.out.trans (b4.mono (by have := Hob.out; omega)), M3.out.below b4 (by omega), Nat.le_trans Z3.out b4.size⟩, by simp [intOf]; omega⟩
      rw [roots_snoc j hlt]; exact o4
    · obtain rfl : j = 8 := by omega
      have hv := Hv.out
      rw [List.take_of_length_le (by decide)] at hv
      obtain ⟨vg, vc, vR, rfl, hvb, vB, hvc, hvm⟩ := hv.blk (by decide)
      have lR : rootsL.length = 8 := rfl
      rw [lR] at hvc ⊢
      have V7 := Lib.hid vB
      have M7 := Lib.hid Ho.out; have B7 := Lib.hid Hb.out
      have c0 := wR_at vB 0 (by decide)
      have ex := u32_xor_nat (gV rootsL 0) 16842784 (rootsL_ws.get 0) (by omega)
      have Hvc := Lib.hid hvc; have Hvm := Lib.hid hvm; have Hvb := Lib.hid hvb
      clear hv vB hvc hvm Hv Hb Ho Hz O1 B1 S1 hj lR hvb
      go_wp2_with (first | (refine wpList_store_cell rfl 177 _ _ rfl vg 0 rfl (.int .u32 ((gV rootsL 0 ^^^ 16842784 : Nat) : Int)) (by first | rfl | exact congrArg (Value.int .u32) ex) rfl (wCells rootsL ++ vR) 177 V7.out (wR_len _ _ _ (by decide)) (by kernel_rfl) ?_))
      intro w7 g5 s5 b5
      rw [wR_set _ _ _ _ (by decide), start_of] at b5
      have O8 := Lib.hid (OwnW.of_blk (V := startL) Hvb.out b5 Hvc.out Hvm.out)
      have M8 := Lib.hid (M7.out.grown g5 (by have := Hvb.out; simp; omega)); have B8 := Lib.hid (below_row B7.out g5 (by have := Hvb.out; have := Hob.out; omega) V7.out.lt)
      have Z8 := Lib.hid (show ob + 1 ≤ w7.heap.size by have := Hvb.out; have := b5.lt; omega)
      clear g5 s5 b5 V7 M7 B7 c0 ex
      go_wp2_with fail
      go_loopw [3, 5] (fun h i wr => ∃ (p : Nat) (X : List Nat), i = .int .i64 p ∧ OwnW (ob + 1) h X wr ∧ X.length = 8 ∧ Ws X ∧ Below w.heap.size w wr ∧ Blk wr ob ZH 26 ∧ ob + 1 ≤ wr.heap.size ∧ SumSt l X p) (fun _ i _ => l.length + 64 - (intOf i).toNat)
      case atStart => exact ⟨0, startL, rfl, O8.out, rfl, startL_ws, B8.out, M8.out, Z8.out, SumSt.start l H0.out⟩
      case round =>
        obtain ⟨p, X, rfl, hX, lX, xX, hb, ho, hz, hst⟩ := hrel
        obtain ⟨xg, xc, xR, rfl, hxb, xB, hxc, hxm⟩ := hX.blk (by omega)
        rw [lX] at hxc ⊢
        have XB := Lib.hid xB; have Hb := Lib.hid hb; have Ho := Lib.hid ho; have Hz := Lib.hid hz; have Hst := Lib.hid hst; have Hxb := Lib.hid hxb
        clear hX xB hb ho hz hst hxb hxc hxm O8 M8 B8 Z8
        by_cases hp : p < l.length
        · have hE : ∃ E : Nat, (if l.length ≤ p + 64 then l.length else p + 64) = E := ⟨_, rfl⟩
          obtain ⟨E, hE⟩ := hE
          have hE1 : p < E := by split at hE <;> omega
          have hE2 : E ≤ l.length := by split at hE <;> omega
          have hE3 : E ≤ p + 64 := by split at hE <;> omega
          have HE := Lib.hid hE
          have wp : IntKind.i64.wrap ((p : Int) + 64) = (p : Int) + 64 := by simp [IntKind.wrap, IntKind.bits, IntKind.signed]; omega
          clear hE
          go_upto_region 8 with (fail)
          go_cut [32] from 25 to 32 (fun s32 w' => s32 = .bool true ∧ wr = w')
          case first =>
            by_cases hp0 : p = 0
            · subst hp0
              go_wp2_with fail
              go_meet
              case rel => exact ⟨rfl, rfl⟩
            · have d1 : ((p : Int) == 0) = false := by simp; omega
              have d2 : decide ((p : Int) < (l.length : Int)) = true := by simp; omega
              have d3 : decide (p < l.length) = true := by simp; omega
              have d4 : (p == 0) = false := by simp; omega
              go_wp2_with fail
              go_meet
              case rel => exact ⟨rfl, rfl⟩
          case rest =>
            obtain ⟨rfl, rfl⟩ := hcut
            have F0 := Blk.new wr z64 5
            have FG := World.grownBy_alloc wr (.cells z64.toArray 5) none
            go_upto_region 12 with (fail)
            generalize wr.alloc (.cells z64.toArray 5) = wf at F0 FG ⊢
            have XF := Lib.hid (XB.out.grown FG (by simp)); have OF := Lib.hid (Ho.out.grown FG (by simp)); have BF := Lib.hid (Hb.out.trans ((below_of_grown FG).mono Hb.out.size)); have ZF := Lib.hid (Nat.le_trans Hz.out FG.size); have F0 := Lib.hid F0
            have hfz : ob + 1 ≤ wr.heap.size := Hz.out
            have hxf : xg < wr.heap.size := XB.out.lt
            obtain ⟨fb, hfb⟩ : ∃ n, wr.heap.size = n := ⟨_, rfl⟩
            rw [hfb] at F0 hfz hxf ⊢
            clear hfb FG XB Hb Ho Hz
            go_upto_if 41 with (fail)
            go_cut [7] from 42 to 43 (fun s7 w' => s7 = .int .i64 E ∧ wf = w')
            case first =>
              by_cases hq : l.length ≤ p + 64
              · have hEe := HE.out
                rw [if_pos hq] at hEe
                have hqi : (l.length : Int) ≤ (p : Int) + 64 := by omega
                have He := Lib.hid hEe; clear hEe
                go_wp2_with fail
                go_meet
                case rel => exact ⟨by rw [He.out], rfl⟩
              · have hEe := HE.out
                rw [if_neg hq] at hEe
                have d1 : decide ((l.length : Int) ≤ (p : Int) + 64) = false := by simp; omega
                have He := Lib.hid hEe; clear hEe
                go_wp2_with fail
                go_meet
                case rel => exact ⟨by rw [← He.out]; go_num, rfl⟩
            case rest =>
              obtain ⟨rfl, rfl⟩ := hcut
              have hpE : (p : Int) ≤ (E : Int) := by omega
              have hEl : (E : Int) ≤ (l.length : Int) := by omega
              have hEc : (E : Int) ≤ (c : Int) := by omega
              have hsub : ((E : Int) - (p : Int)).toNat = E - p := by omega
              have hcl : ((l.drop p).take 64).length = E - p := by
                have := HE.out
                rw [List.length_take, List.length_drop]
                split at this <;> omega
              have hrow : RowAt wf g (o + p) (Lib.byteCells ((l.drop p).take 64)) := by
                have h1 := ((HR.out.below BF.out (by have := Hob.out; omega)).part p 64)
                rwa [show (((Lib.byteCells l).drop p).take 64) = Lib.byteCells ((l.drop p).take 64) by simp [Lib.byteCells, List.map_take, List.map_drop]] at h1
              have Hcl := Lib.hid hcl; have Hrow := Lib.hid hrow
              clear hcl hrow
              go_wp2_with (first | (refine wpList_copy_part rfl _ _ 27 27 rfl 5 Tryz.underlying27 (by kernel_rfl) fb 0 64 64 g (o + p) (E - p) (c - p) rfl rfl z64 (Lib.byteCells ((l.drop p).take 64)) 5 F0.out ?_ Hrow.out ?_ (Lib.byteCells_one _) ?_))
              · rw [Lib.byteCells_length, Hcl.out]; exact (Nat.min_eq_left (by omega)).symm
              · rw [Lib.byteCells_length, Hcl.out]; have : z64.length = 64 := rfl; omega
              intro w9 g9 s9 b9
              have F9 := Lib.hid (show Blk w9 fb (Lib.byteCells (partL l p)) 5 by rw [← copy_z]; simpa using b9); have X9 := Lib.hid (XF.out.grown g9 (by simp; omega)); have O9 := Lib.hid (OF.out.grown g9 (by simp; omega)); have B9 := Lib.hid (below_row BF.out g9 (by have := Hob.out; omega) F0.out.lt); have Z9 := Lib.hid (Nat.le_trans ZF.out g9.size)
              clear g9 s9 b9 F0 XF OF BF ZF Hrow Hcl
              have wE : IntKind.u64.wrap (E : Int) = (E : Int) := by simp [IntKind.wrap, IntKind.bits, IntKind.signed]; omega
              have C := fun last => rblock_ok X (partL l p) xg 0 xc fb 0 64 E last w9 lX xX (partL_len l p) (by omega) (wR_row X9.out) X9.out.lt F9.out.row F9.out.lt
              have C := Lib.hid C
              have hb : ((E : Int) == (l.length : Int)) = decide (l.length ≤ p + 64) := by
                have := HE.out
                split at this
                · rename_i h; rw [decide_eq_true h]; simp; omega
                · rename_i h; rw [decide_eq_false h]; simp; omega
              have Hb9 := Lib.hid hb
              have hE6 : E < 18446744073709551616 := by omega
              have hnx := Hst.out.next hp
              rw [HE.out] at hnx
              have Hnx := Lib.hid hnx
              clear hb hnx
              go_wp2_with fail
              rw [Hb9.out]
              refine (C.out _).mono ?_
              rintro e w10 ⟨v, rfl, o10, b10⟩
              have B10 := Lib.hid (B9.out.trans (b10.mono (B9.out.size))); have O10 := Lib.hid (O9.out.below b10 (by have := Z9.out; omega)); have Z10 := Lib.hid (Nat.le_trans Z9.out b10.size); have V10 := Lib.hid (o10.mono Z9.out)
              clear o10 b10 F9 X9 O9 B9 Z9 C
              go_wp2
              exact ⟨⟨p + 64, _, by go_num, V10.out, blockL_len _ _ _ _, blockL_ws xX _ _ hE6 _, B10.out, O10.out, Z10.out, Hnx.out⟩, by simp [intOf]; omega⟩
        · have d1 : ((p : Int) == 0) = false := by simp; have := H0.out; omega
          have d2 : decide ((p : Int) < (l.length : Int)) = false := by simp; omega
          have hres : outL X = blake l := by
            rcases Hst.out with ⟨h, _⟩ | ⟨_, _, _, h⟩
            · omega
            · exact h
          have d4 : (p == 0) = false := by simp; have := H0.out; omega
          have d5 : decide (p < l.length) = false := by simp; omega
          have Hres := Lib.hid hres
          clear hres hlt
          go_upto_region 16 with (fail)
          go_wp2_with (refine wpList_alloc_as rfl 26 rfl ZH ZH_info ?_)
          intro w7 k1 k2 k3
          have O7 := Lib.hid (Ho.out.grown k2 (by simp)); have X7 := Lib.hid (XB.out.grown k2 (by simp)); have B7 := Lib.hid (Hb.out.trans ((below_of_grown k2).mono Hb.out.size))
          have hlt6 := XB.out.lt
          have hz6 := Hz.out
          obtain ⟨hb2, hxb2⟩ : ∃ m, wr.heap.size = m := ⟨_, rfl⟩
          rw [hxb2] at k1 hlt6 hz6 ⊢
          have L7 := Lib.hid k1
          clear k1 k2 k3 hxb2 XB Ho Hb Hz d1 d2 d4 d5
          go_wp2_with fail
          go_loopw [9] (fun i wr => ∃ j : Nat, j ≤ 32 ∧ i = .int .i64 j ∧ Blk wr hb2 (Lib.byteCells ((outL X).take j ++ List.replicate (32 - j) 0)) 26 ∧ w7.grownBy wr (some hb2)) (fun i _ => 32 - (intOf i).toNat)
          case atStart => exact ⟨0, Nat.zero_le _, rfl, L7.out, ⟨rfl, rfl, rfl, Nat.le_refl _, fun _ _ _ => rfl⟩⟩
          case round =>
            obtain ⟨j, hj, rfl, hl, hg⟩ := hrel
            have holen : (outL X).length = 32 := by simp [outL]
            by_cases hj32 : j < 32
            · have hji : (j : Int) < 32 := by omega
              obtain ⟨q, hq⟩ : ∃ q, j / 4 = q := ⟨_, rfl⟩
              have hqi : (q : Int) < 8 := by omega
              have eq4 : IntKind.i64.wrap ((j : Int) / 4) = (q : Int) := by simp [IntKind.wrap, IntKind.bits, IntKind.signed]; omega
              obtain ⟨r, hr⟩ : ∃ r, j % 4 = r := ⟨_, rfl⟩
              have er : ((j : Int)).tmod 4 = (r : Int) := by rw [Int.tmod_eq_emod_of_nonneg (by omega)]; omega
              obtain ⟨sf, hsf⟩ : ∃ s, r * 8 = s := ⟨_, rfl⟩
              have hsf32 : (sf : Int) ≤ 32 := by omega
              have es : IntKind.i64.wrap (8 * (r : Int)) = (sf : Int) := by simp [IntKind.wrap, IntKind.bits, IntKind.signed]; omega
              have es2 : 8 * (r : Int) = (sf : Int) := by omega
              have es3 : IntKind.u64.wrap (sf : Int) = (sf : Int) := by simp [IntKind.wrap, IntKind.bits, IntKind.signed]; omega
              obtain ⟨y, hy⟩ : ∃ y, gV X q / 2 ^ sf = y := ⟨_, rfl⟩
              have ey : (gV X q : Int) / 2 ^ sf = (y : Int) := by rw [← hy]; simp
              obtain ⟨z, hz⟩ : ∃ z, y % 256 = z := ⟨_, rfl⟩
              have ez : IntKind.u8.wrap (y : Int) = (z : Int) := by simp [IntKind.wrap, IntKind.bits, IntKind.signed]; omega
              have cx := wR_at (X7.out.grown hg (by simp; omega)) q (by omega)
              have hjl : j < (outL X).length := by rw [holen]; exact hj32
              have hout : ((outL X)[j]'hjl).toNat = z := by rw [outL_get X j hj32, hq, hr, hsf, hy, hz]
              have hlen : ((outL X).take j ++ List.replicate (32 - j) (0 : UInt8)).length = 32 := by rw [List.length_append, List.length_take, List.length_replicate]; omega
              have Hl := Lib.hid hl; have Hg := Lib.hid hg; have Ho := Lib.hid hout
              have Hl' := hl
              clear hl hg hout hq hr hsf hy hz
              go_wp2_with (first | (refine wpList_store_cell rfl 5 _ _ rfl hb2 j rfl (.int .u8 (z : Int)) rfl rfl (Lib.byteCells ((outL X).take j ++ List.replicate (32 - j) 0)) 26 Hl' (by rw [Lib.byteCells_length, hlen]; exact hj32) (by kernel_rfl) ?_))
              intro w8 g8 s8 b8
              have e : (Lib.byteCells ((outL X).take j ++ List.replicate (32 - j) 0)).set j (.int .u8 (z : Int)) = Lib.byteCells ((outL X).take (j + 1) ++ List.replicate (32 - (j + 1)) 0) := by
                rw [← Ho.out]
                have h1 : (Lib.byteCells ((outL X).take j ++ List.replicate (32 - j) 0)).set j (.int .u8 (((outL X)[j]'hjl).toNat : Int)) = Lib.byteCells (((outL X).take j ++ List.replicate (32 - j) 0).set j ((outL X)[j]'hjl)) := by simp [Lib.byteCells, List.map_set]
                rw [h1, List.set_append_right _ _ (by rw [List.length_take]; omega), List.length_take, Nat.min_eq_left (by omega), Nat.sub_self, List.take_succ_eq_append_getElem hjl, show 32 - j = (32 - (j + 1)) + 1 by omega, List.replicate_succ, List.set_cons_zero, List.append_assoc]
                rfl
              rw [e] at b8
              have B8 := Lib.hid b8; have G8 := Lib.hid (Lib.grownBy_trans Hg.out g8)
              clear b8 g8 s8 e Hl'
              go_wp2
              exact ⟨⟨j + 1, by omega, by go_num, B8.out, G8.out⟩, by simp [intOf]; omega⟩
            · have ej : j = 32 := by omega
              rw [ej, List.take_of_length_le (by omega), Nat.sub_self, List.replicate_zero, List.append_nil] at hl
              have Hl := Lib.hid hl; have O8 := Lib.hid (O7.out.grown hg (by simp; omega)); have B8 := Lib.hid (below_row B7.out hg (by have := Hob.out; omega) L7.out.lt)
              have hxl : (Lib.byteCells (outL X)).length = 32 := by rw [Lib.byteCells_length]; exact holen
              clear hl hg O7 X7 B7
              go_wp2_with (first | (refine wpList_load_part rfl 26 _ rfl hb2 0 rfl (Lib.byteCells (outL X)) _ Hl.out.row Tryz.underlying26 rfl (sizeH _ hxl) ?_) | (refine wpList_store_whole rfl 26 _ _ rfl ob rfl (Lib.byteCells (outL X)) ZH 26 rfl O8.out (by rw [hxl]; rfl) (Lib.byteCells_one _) (sizeH _ hxl) ?_))
              intro w9 g9 s9 b9
              have B9 := Lib.hid b9; have G9 := Lib.hid (below_grown (below_row B8.out g9 (by have := Hob.out; omega) O8.out.lt))
              clear b9 g9 s9
              go_wp2
              refine bodyPost_ret (results_cell_one rfl _ _ ⟨ob, 0, none⟩ _ rfl (run_loadVar_part _ _ _ 26 (Lib.byteCells (outL X)) _ B9.out.row Tryz.underlying26 rfl (sizeH _ hxl))) rfl ?_
              rw [Hres.out]
              exact ⟨rfl, G9.out⟩

set_option maxHeartbeats 1600000 in
theorem rjoin_one (tag : UInt8) (l : List UInt8) (v : Value) (w : World) (hv : RdB w v l) (hlen : l.length ≤ 140737488355000) :
    Calls Tryz.prog 53 #[.int .u8 (tag.toNat : Int), .slice (some ⟨w.heap.size, 0, none⟩) 1 1] (w.alloc (.cells #[v] 27)) fun e w' => e = .returned (.agg (Lib.byteCells (blake (tag :: l))).toArray) ∧ w.grownBy w' none := by
  obtain ⟨W, hW⟩ : ∃ W, w.alloc (.cells #[v] 27) = W := ⟨_, rfl⟩
  have hP : Blk W w.heap.size [v] 27 := hW ▸ Blk.new w [v] _
  have hg : Below w.heap.size w W := hW ▸ below_box w _
  have hs : W.heap.size = w.heap.size + 1 := by rw [← hW]; simp
  rw [hW]
  obtain ⟨pb, hpb⟩ : ∃ n, w.heap.size = n := ⟨_, rfl⟩
  have HV := Lib.hid (show ∀ wx, Below pb w wx → RdB wx v l from fun wx hb => hv.grown (below_grown (hpb ▸ hb)))
  rw [hpb] at hP hs hg ⊢
  have HP := Lib.hid hP; have Hg := Lib.hid hg; have HS := Lib.hid hs; have Hpb := Lib.hid hpb
  clear hW hP hg hv hpb hs
  go_enter Tryz.func53, Tryz.ntmps53
  go_wp2_with (refine wpList_alloc_as rfl 26 rfl ZH ZH_info ?_)
  intro w1 k1 k2 k3
  rw [HS.out] at k1 k3 ⊢
  have ga := World.grownBy_alloc w1 (.cells #[.int .u8 (tag.toNat : Int)] 5) none
  have P2 := Lib.hid ((HP.out.grown k2 (by simp)).grown ga (by simp)); have O2 := Lib.hid (k1.grown ga (by simp))
  have B2 := Lib.hid (Hg.out.trans (((below_of_grown k2).mono (by rw [HS.out]; omega)).trans ((below_of_grown ga).mono (by rw [k3]; omega))))
  have own1 : OwnB w1.heap.size (.slice (some ⟨w1.heap.size, 0, none⟩) 1 1) [tag] (w1.alloc (.cells #[.int .u8 (tag.toNat : Int)] 5)) :=
    World.ownsRow_lit (base := w1.heap.size) (e := 5) (size := 1) w1 _ 1 (Nat.le_refl _) (by unfold maxLen; omega) rfl
  have Z2 := Lib.hid (show pb + 2 ≤ (w1.alloc (.cells #[.int .u8 (tag.toNat : Int)] 5)).heap.size by simp; omega)
  rw [k3] at own1
  have Ow := Lib.hid own1; have K3 := Lib.hid k3
  clear own1 k1 k2 k3 ga HP Hg HS
  go_wp2_with fail
  rw [K3.out]
  generalize (w1.alloc (.cells #[.int .u8 (tag.toNat : Int)] 5)) = w2 at P2 O2 B2 Z2 Ow ⊢
  go_loopw [5, 6] (fun a i wr => ∃ j : Nat, j ≤ 1 ∧ i = .int .i64 j ∧ OwnB (pb + 2) a (if j = 0 then [tag] else tag :: l) wr ∧ Blk wr pb [v] 27 ∧ Blk wr (pb + 1) ZH 26 ∧ Below pb w wr ∧ pb + 2 ≤ wr.heap.size) (fun _ i _ => 1 - (intOf i).toNat)
  case atStart => exact ⟨0, Nat.zero_le _, rfl, Ow.out, P2.out, O2.out, B2.out, Z2.out⟩
  case round =>
    obtain ⟨j, hj, rfl, ho, hp, hh, hg, hz⟩ := hrel
    have Ho := Lib.hid ho; have Hp := Lib.hid hp; have Hh := Lib.hid hh; have Hg := Lib.hid hg; have Hz := Lib.hid hz
    by_cases hj0 : j = 0
    · subst hj0
      rw [if_pos rfl] at Ho
      have c0 := hp.row 0 _ rfl
      rw [Nat.zero_add] at c0
      clear ho hp hh hg hz
      go_wp2_with (first | (refine wpList_app rfl _ _ rfl rfl Ho.out rfl (HV.out _ Hg.out) ?_ Hz.out ?_; (simp only [List.length_singleton]; omega); intro a' n' c' w' ho' hb'))
      exact ⟨⟨1, Nat.le_refl _, rfl, ho', Hp.out.below hb' (by omega), Hh.out.below hb' (by omega), Hg.out.trans (hb'.mono (by omega)), Nat.le_trans Hz.out hb'.size⟩, by simp [intOf]⟩
    · obtain rfl : j = 1 := by omega
      rw [if_neg (by omega)] at ho
      obtain ⟨ao, c, rfl, h1, h2, h3⟩ := ho.rd
      obtain ⟨g, o, rfl, hgl, hr⟩ : ∃ g o, ao = some ⟨g, o, none⟩ ∧ g < wr.heap.size ∧ RowAt wr g o (Lib.byteCells (tag :: l)) := by
        rcases h3 with ⟨_, h, _⟩ | h
        · cases h
        · exact h
      have C := Lib.hid (rsum_ok (tag :: l) g o c wr (by simp) h1 h2 hr hgl (by rw [List.length_cons]; omega))
      clear ho hp hh hg hz h1 h2 h3 hr hgl Ho Hp Ow P2 O2 B2 Z2
      go_wp2_with fail
      refine C.out.mono ?_
      rintro e w5 ⟨rfl, g5⟩
      have O5 := Lib.hid (Hh.out.grown g5 (by simp)); have B5 := Lib.hid (Hg.out.trans ((below_of_grown g5).mono (by have := Hz.out; omega)))
      have hbl := blake_len (tag :: l)
      obtain ⟨X, hX⟩ : ∃ X, blake (tag :: l) = X := ⟨_, rfl⟩
      rw [hX] at hbl ⊢
      have hxl : (Lib.byteCells X).length = 32 := by rw [Lib.byteCells_length]; exact hbl
      have HX := Lib.hid hX
      clear g5 hX C Hh Hg Hz
      go_wp2_with (first | (refine wpList_store_whole rfl 26 _ _ rfl (pb + 1) rfl (Lib.byteCells X) ZH 26 rfl O5.out (by rw [hxl]; rfl) (Lib.byteCells_one _) (sizeH _ hxl) ?_))
      intro w9 g9 s9 b9
      have B9 := Lib.hid b9; have G9 := Lib.hid (below_row B5.out g9 (by omega) O5.out.lt)
      clear b9 g9 s9
      go_wp2
      refine bodyPost_ret (results_cell_one rfl _ _ ⟨pb + 1, 0, none⟩ _ rfl (run_loadVar_part _ _ _ 26 (Lib.byteCells X) _ B9.out.row Tryz.underlying26 rfl (sizeH _ hxl))) rfl ?_
      rw [HX.out]
      exact ⟨rfl, below_grown (Hpb.out ▸ G9.out)⟩


theorem bSig0 : Tryz.prog.built 38 [] = some ([.int .u64 0, .int .u64 0] : List Value).toArray := by kernel_rfl
theorem sizeSig2 : (Tryz.prog.info? 38).map (·.size) = some ([.int .u64 0, .int .u64 0] : List Value).length := by kernel_rfl
theorem bare_cells (v : VoteD) (h : v.wf) : (v.cells.set 36 (Value.int .u64 0)).take 37 ++ ([.int .u64 0, .int .u64 0] : List Value) ++ (v.cells.set 36 (Value.int .u64 0)).drop (37 + 2) = v.bare.cells := by
  unfold VoteD.cells VoteD.bare
  generalize hp : [Value.string v.chain, .int .i64 v.height, .int .i64 v.round, .int .i64 v.type] ++ Lib.byteCells v.block = p
  have hlen : p.length = 36 := by rw [← hp]; simp [Lib.byteCells_length, h.block]
  rw [List.set_append_right _ _ (by omega), hlen]
  show (p ++ ([.int .u64 0, .int .u64 v.r, .int .u64 v.s] : List Value)).take 37 ++ ([.int .u64 0, .int .u64 0] : List Value) ++ (p ++ ([.int .u64 0, .int .u64 v.r, .int .u64 v.s] : List Value)).drop 39 = _
  rw [List.take_append, List.take_of_length_le (by omega), hlen, List.drop_eq_nil_of_le (by simp [hlen])]
  simp

set_option maxHeartbeats 800000 in
theorem RSign (v : VoteD) (w : World) (hv : v.wf) (hc : v.chain.size ≤ 140737488351232) :
    Calls Tryz.prog 86 #[.agg v.cells.toArray] w (BytesOk (encVote v.bare) (okVote v) w) := by
  have Hv := Lib.hid hv; have Hc := Lib.hid hc
  have hl := v.cells_length hv
  clear hv hc
  go_enter Tryz.func86, Tryz.ntmps86
  go_wp2_with (refine wpList_box_as rfl 40 _ rfl v.cells rfl ?_)
  intro w1 b1 g1 s1
  have B1 := Lib.hid b1; have G1 := Lib.hid (below_of_grown g1)
  clear b1 g1 s1
  go_wp2_with (first | (refine wpList_store_cell rfl 22 _ _ rfl w.heap.size 36 rfl (.int .u64 0) rfl rfl v.cells 40 B1.out (by omega) (by kernel_rfl) ?_))
  intro w2 g2 s2 b2
  have B2 := Lib.hid b2; have G2 := Lib.hid (below_row G1.out g2 (Nat.le_refl _) B1.out.lt)
  clear b2 g2 s2 B1 G1
  go_wp2_with (first | (refine wpList_build_eq rfl 38 _ rfl [] (by kernel_rfl) [.int .u64 0, .int .u64 0] bSig0 ?_) | (refine wpList_store_part rfl 38 _ _ rfl w.heap.size 37 rfl [.int .u64 0, .int .u64 0] (v.cells.set 36 (.int .u64 0)) 40 rfl B2.out (by rw [List.length_set, hl]; decide) (by intro u hu; simp at hu; subst hu; rfl) sizeSig2 ?_))
  intro w3 g3 s3 b3
  have B3 := Lib.hid (show Blk w3 w.heap.size v.bare.cells 40 by rw [← bare_cells v Hv.out]; simpa using b3); have G3 := Lib.hid (below_row G2.out g3 (Nat.le_refl _) B2.out.lt)
  clear b3 g3 s3 B2 G2
  go_wp2_with (refine wpList_load_part rfl 40 _ rfl w.heap.size 0 rfl v.bare.cells _ B3.out.row Tryz.underlying40 rfl (v.bare.size (VoteD.bare_wf Hv.out)) ?_)
  refine (show Calls Tryz.prog 84 #[.agg v.bare.cells.toArray] w3 _ from RVote v.bare w3 (VoteD.bare_wf Hv.out) Hc.out).mono ?_
  rintro e w4 ⟨a, n, c, rfl, o4, b4⟩
  have O4 := Lib.hid (o4.mono G3.out.size); have G4 := Lib.hid (G3.out.trans (b4.mono G3.out.size))
  clear o4 b4 B3 G3
  go_wp2_with fail
  go_ret2
  exact ⟨a, n, c, rfl, O4.out, G4.out⟩

/-- what the document's hashing answers -/
def RHashes (tag : UInt8) (ok : Bool) (l : List UInt8) (w : World) (e : Ending) (w' : World) : Prop :=
  e = .returned (.tuple #[.agg (Lib.byteCells (blake (tag :: l))).toArray, .bool ok]) ∧ w.grownBy w' none
end Go.Proofs.YtcbkehnlgpcelaaGreatDoor
