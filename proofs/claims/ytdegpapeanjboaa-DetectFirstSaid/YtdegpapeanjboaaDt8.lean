/- Walk: detect.Classify at the three plain blocks. -/
import Derived.Test.YtdegpapeanjboaaDt7
import Derived.Test.YtdegpapeanjboaaRg
import Derived.Deep.RegionLaw
import Derived.Deep.RegionHeld3
import Derived.Deep.Cut
import Derived.Deep.CutRange
namespace Go.Proofs.Ytdegpapeanjboaa
open Go.RowKit
set_option maxRecDepth 100000

def ltAt (h t : Int) : LtR := { zLt with header := { zLt.header with height := h, time := t } }
theorem ltAt_wf (h t : Int) (hh : i64R h) (ht : i64R t) : (ltAt h t).wf := ⟨⟨zLt_wf.header.chain, hh, ht, rfl, rfl, rfl, rfl, rfl⟩, rfl, Nat.zero_le _, Nat.zero_le _, Nat.zero_le _⟩
def evN : ByteArray := ⟨#[101, 113, 117, 105, 118, 111, 99, 97, 116, 105, 111, 110]⟩
def evC (k : ByteArray) (n : Int) (l : LtR) (ks : Value) : List Value := [.string k, .int .i64 n] ++ l.cells ++ [ks]
def zH : List Value := zLt.header.cells
theorem zH_info : (Try.prog.info? 32).map (fun i => i.zero.map (fun v => v.cells)) = some (some zH.toArray) := by kernel_rfl
theorem zEv_info : (Try.prog.info? 42).map (fun i => i.zero.map (fun v => v.cells)) = some (some (evC ⟨#[]⟩ 0 zLt (.slice none 0 0)).toArray) := by kernel_rfl
theorem sizeHd (d : HeaderD) (h : d.wf) : (Try.prog.info? 32).map (·.size) = some d.cells.length := d.size h
theorem HeaderD.one (d : HeaderD) : ∀ x ∈ d.cells, x.oneCell' = true := by
  have hb := fun (l : List UInt8) x (h : x ∈ Lib.byteCells l) => Lib.byteCells_one l x h
  intro x hx
  simp only [HeaderD.cells, List.mem_append, List.mem_cons, List.not_mem_nil, or_false] at hx
  grind [Value.oneCell']

/-- two headers, each in a variable of its own -/
def HdR (n0 : Nat) (lb lc : LtR) (w4 : World) (s8 s9 : Value) (w' : World) : Prop := ∃ h8 h9, s8 = .pointer (some ⟨h8, 0, none⟩) ∧ s9 = .pointer (some ⟨h9, 0, none⟩) ∧ n0 + 4 ≤ h8 ∧ n0 + 4 ≤ h9 ∧
  Blk w' h8 lb.header.cells 32 ∧ Blk w' h9 lc.header.cells 32 ∧ w4.grownBy w' none

def z32c : List Value := Lib.byteCells (List.replicate 32 0)
def kHsh : List Value := List.replicate 32 (.int .u8 0)
theorem hsh_flat : flat Try.prog 20 30 = some kHsh := by kernel_rfl
theorem z32_fit : Fits kHsh z32c = true := by kernel_rfl
theorem z32_size : (Try.prog.info? 30).map (·.size) = some z32c.length := by kernel_rfl
theorem z32_eq : VEq z32c z32c = true := by kernel_rfl
theorem part_eq {w : World} {g k n : Nat} {cs vs : List Value} (h : RowAt w g 0 cs) (e : (cs.drop k).take n = vs) : RowAt w g k vs := by
  have := h.part k n
  rw [e, Nat.zero_add] at this
  exact this
theorem evC_set (l : LtR) : (evC ⟨#[]⟩ 1 l (.slice none 0 0)).set 0 (.string evN) = evC evN 1 l (.slice none 0 0) := rfl
theorem evC_len (k : ByteArray) (n : Int) (l : LtR) (v : Value) (h : l.wf) : (evC k n l v).length = 203 := by
  simp [evC, l.cells_length h]
theorem evC_one (k : ByteArray) (n : Int) (l : LtR) : ∀ x ∈ evC k n l (.slice none 0 0), x.oneCell' = true := by
  intro x hx
  simp only [evC, List.mem_append, List.mem_cons, List.not_mem_nil, or_false] at hx
  rcases hx with ((rfl | rfl) | h) | rfl
  · rfl
  · rfl
  · exact l.one x h
  · rfl
theorem sizeEv {cs : List Value} (h : cs.length = 203) : (Try.prog.info? 42).map (·.size) = some cs.length := by rw [h]; kernel_rfl
theorem size_str : (Try.prog.info? 9).map (·.size) = some 1 := by kernel_rfl
theorem size_keys : (Try.prog.info? 40).map (·.size) = some 1 := by kernel_rfl
theorem size_cm {cs : List Value} (h : cs.length = 35) : (Try.prog.info? 35).map (·.size) = some cs.length := by rw [h]; kernel_rfl

set_option maxHeartbeats 4000000 in
theorem Classify_plain (w : World) : Calls Try.prog 10 #[.agg (ltAt 1 0).cells.toArray, .agg (ltAt 2 0).cells.toArray, .agg (ltAt 2 1).cells.toArray] w fun e w' =>
    e = .returned (.tuple #[.agg (evC evN 1 (ltAt 2 0) (.slice none 0 0)).toArray, .int .i64 0]) ∧ w.grownBy w' none := by
  have xa := ltAt_wf 1 0 (by unfold i64R; decide) (by unfold i64R; decide)
  have xb := ltAt_wf 2 0 (by unfold i64R; decide) (by unfold i64R; decide)
  have xc := ltAt_wf 2 1 (by unfold i64R; decide) (by unfold i64R; decide)
  obtain ⟨la, hla⟩ : ∃ l, ltAt 1 0 = l := ⟨_, rfl⟩
  obtain ⟨lb, hlb⟩ : ∃ l, ltAt 2 0 = l := ⟨_, rfl⟩
  obtain ⟨lc, hlc⟩ : ∃ l, ltAt 2 1 = l := ⟨_, rfl⟩
  rw [hla] at xa; rw [hlb] at xb; rw [hlc] at xc
  rw [hla, hlb, hlc]
  have XA := Lib.hid xa; have XB := Lib.hid xb; have XC := Lib.hid xc
  have HA := Lib.hid hla; have HB := Lib.hid hlb; have HC := Lib.hid hlc
  clear xa xb xc hla hlb hlc
  go_enter Try.func10, Try.ntmps10
  go_wp2_with (refine wpList_box_as rfl 38 _ rfl la.cells rfl ?_)
  intro w1 b1 g1 s1
  obtain ⟨n0, hn0⟩ : ∃ n, w.heap.size = n := ⟨_, rfl⟩
  rw [hn0] at b1 s1 ⊢
  have H0 := Lib.hid hn0
  have BA := Lib.hid b1; have G1 := Lib.hid g1
  clear b1 g1 hn0
  go_wp2_with (refine wpList_box_as rfl 38 _ rfl lb.cells rfl ?_)
  intro w2 b2 g2 s2
  replace s2 : w2.heap.size = n0 + 2 := by omega
  have BB := Lib.hid b2; replace BA := Lib.hid (BA.out.grown g2 (by simp)); have G2 := Lib.hid (Lib.grownBy_trans G1.out g2)
  clear b2 g2 s1 G1
  go_wp2_with (refine wpList_box_as rfl 38 _ rfl lc.cells rfl ?_)
  intro w3 b3 g3 s3
  replace s3 : w3.heap.size = n0 + 3 := by omega
  have BC := Lib.hid b3; replace BA := Lib.hid (BA.out.grown g3 (by simp)); replace BB := Lib.hid (BB.out.grown g3 (by simp)); have G3 := Lib.hid (Lib.grownBy_trans G2.out g3)
  clear b3 g3 s2 G2
  go_wp2_with (refine wpList_alloc_as rfl 42 rfl _ zEv_info ?_)
  intro w4 b4 g4 s4
  replace s4 : w4.heap.size = n0 + 4 := by omega
  have BO := Lib.hid b4; replace BA := Lib.hid (BA.out.grown g4 (by simp)); replace BB := Lib.hid (BB.out.grown g4 (by simp)); replace BC := Lib.hid (BC.out.grown g4 (by simp)); have G4 := Lib.hid (Lib.grownBy_trans G3.out g4)
  have S4 := Lib.hid s4
  clear b4 g4 s3 s4 G3
  go_upto_region 1 with (fail)
  have RB := Lib.hid (show ∀ W, w4.grownBy W none → RowAt W (n0 + 1) 0 lb.header.cells from fun W g => LtR.header_at (BB.out.grown g (by simp)).row XB.out)
  have RC := Lib.hid (show ∀ W, w4.grownBy W none → RowAt W (n0 + 2) 0 lc.header.cells from fun W g => LtR.header_at (BC.out.grown g (by simp)).row XC.out)
  have hg0 : w4.grownBy w4.drew none := ⟨rfl, rfl, rfl, Nat.le_refl _, fun _ _ _ => rfl⟩
  go_cut [8, 9] from 11 (fun s8 s9 w' => HdR n0 lb lc w4 s8 s9 w')
  case first =>
    refine wp_region_held_drew (S := fun W => RowAt W (n0 + 1) 0 lb.header.cells ∧ RowAt W (n0 + 2) 0 lc.header.cells) (by kernel_rfl) ⟨RB.out _ hg0, RC.out _ hg0⟩ (fun hH => ?_)
    refine wpAnyH_take (i := 0) (v := .pointer (some ⟨n0 + 1, 0, none⟩)) rfl (by kernel_rfl) (by kernel_rfl) (by kernel_rfl) (fun _ _ _ h => h) (Or.inl ⟨by rfl, fun W _ => by go_simp⟩) hH ?_
    simp only [Act.put, List.getElem_toArray, List.getElem_cons_succ, List.getElem_cons_zero, List.setIfInBounds_toArray, List.set_cons_zero, List.set_cons_succ]
    refine wpAnyH_take (i := 1) (v := .agg lb.header.cells.toArray) rfl (by kernel_rfl) (by kernel_rfl) (by kernel_rfl) (fun _ _ _ h => h) (yieldsIf_load_mid (by rfl) 32 _ rfl (n0 + 1) 0 rfl lb.header.cells _ (fun W h => h.1) Try.underlying32 rfl (sizeHd lb.header XB.out.header)) hH ?_
    simp only [Act.put, List.getElem_toArray, List.getElem_cons_succ, List.getElem_cons_zero, List.setIfInBounds_toArray, List.set_cons_zero, List.set_cons_succ]
    refine wpAnyH_take (i := 2) (v := .pointer (some ⟨n0 + 2, 0, none⟩)) rfl (by kernel_rfl) (by kernel_rfl) (by kernel_rfl) (fun _ _ _ h => h) (Or.inl ⟨by rfl, fun W _ => by go_simp⟩) hH ?_
    simp only [Act.put, List.getElem_toArray, List.getElem_cons_succ, List.getElem_cons_zero, List.setIfInBounds_toArray, List.set_cons_zero, List.set_cons_succ]
    refine wpAnyH_take (i := 3) (v := .agg lc.header.cells.toArray) rfl (by kernel_rfl) (by kernel_rfl) (by kernel_rfl) (fun _ _ _ h => h) (yieldsIf_load_mid (by rfl) 32 _ rfl (n0 + 2) 0 rfl lc.header.cells _ (fun W h => h.2) Try.underlying32 rfl (sizeHd lc.header XC.out.header)) hH ?_
    simp only [Act.put, List.getElem_toArray, List.getElem_cons_succ, List.getElem_cons_zero, List.setIfInBounds_toArray, List.set_cons_zero, List.set_cons_succ]
    refine wpAnyH_ready (rs := [4, 5]) (by kernel_rfl) (by simp) ?_
    refine AllReadyH.cons rfl (fun K hK => ?_) (AllReadyH.cons rfl (fun K hK => ?_) AllReadyH.nil)
    · refine step_wanted (by rfl) (wp_alloc_as 32 (by rfl) zH zH_info ?_)
      intro w5 b5 g5 s5
      have k5 : w4.grownBy w5 none := Lib.grownBy_trans hg0 g5
      rw [show w4.drew.heap.size = n0 + 4 from S4.out] at b5 s5 ⊢
      simp only [Act.put, List.getElem_toArray, List.getElem_cons_succ, List.getElem_cons_zero, List.setIfInBounds_toArray, List.set_cons_zero, List.set_cons_succ]
      refine hK.out _ _ ⟨RB.out _ k5, RC.out _ k5⟩ (fun hH => ?_)
      clear hK K
      refine wpAnyH_ready (rs := [5]) (by kernel_rfl) (by simp) ?_
      refine AllReadyH.cons rfl (fun K hK => ?_) AllReadyH.nil
      refine step_wanted (by rfl) (wp_alloc_as 32 (by rfl) zH zH_info ?_)
      intro w6 b6 g6 s6
      have k6 : w4.grownBy w6 none := Lib.grownBy_trans k5 g6
      rw [s5] at b6 s6 ⊢
      replace b5 := b5.grown g6 (by simp)
      simp only [Act.put, List.getElem_toArray, List.getElem_cons_succ, List.getElem_cons_zero, List.setIfInBounds_toArray, List.set_cons_zero, List.set_cons_succ]
      refine hK.out _ _ ⟨RB.out _ k6, RC.out _ k6⟩ (fun hH => ?_)
      clear hK K
      refine wpAnyH_ready (rs := [6]) (by kernel_rfl) (by simp) ?_
      refine AllReadyH.cons rfl (fun K hK => ?_) AllReadyH.nil
      rw [if_pos (by rfl)]
      refine (wp_store_whole 32 _ _ (by rfl) (n0 + 4) (by rfl) lb.header.cells zH 32 (by rfl) b5 (by rw [lb.header.cells_length XB.out.header]; rfl) lb.header.one (sizeHd lb.header XB.out.header) ?_)
      intro w7 g7 s7 b7
      have k7 : w4.grownBy w7 none := grown_new k6 g7 (by rw [S4.out]; omega)
      replace b6 := b6.grown g7 (by simp)
      simp only [Act.put, List.getElem_toArray, List.getElem_cons_succ, List.getElem_cons_zero, List.setIfInBounds_toArray, List.set_cons_zero, List.set_cons_succ]
      refine hK.out _ _ ⟨RB.out _ k7, RC.out _ k7⟩ (fun hH => ?_)
      clear hK K
      refine wpAnyH_ready (rs := [7]) (by kernel_rfl) (by simp) ?_
      refine AllReadyH.cons rfl (fun K hK => ?_) AllReadyH.nil
      rw [if_pos (by rfl)]
      refine (wp_store_whole 32 _ _ (by rfl) (n0 + 5) (by rfl) lc.header.cells zH 32 (by rfl) b6 (by rw [lc.header.cells_length XC.out.header]; rfl) lc.header.one (sizeHd lc.header XC.out.header) ?_)
      intro w8 g8 s8 b8
      have k8 : w4.grownBy w8 none := grown_new k7 g8 (by rw [S4.out]; omega)
      replace b7 := b7.grown g8 (by simp)
      simp only [Act.put, List.getElem_toArray, List.getElem_cons_succ, List.getElem_cons_zero, List.setIfInBounds_toArray, List.set_cons_zero, List.set_cons_succ]
      refine hK.out _ _ ⟨RB.out _ k8, RC.out _ k8⟩ (fun hH => ?_)
      clear hK K
      refine wpAnyH_done (by kernel_rfl) ?_ _
      go_wp2
      go_meet
      case rel => exact ⟨n0 + 4, n0 + 5, rfl, rfl, by omega, by omega, b7, b8, k8⟩
    · refine step_wanted (by rfl) (wp_alloc_as 32 (by rfl) zH zH_info ?_)
      intro w5 b5 g5 s5
      have k5 : w4.grownBy w5 none := Lib.grownBy_trans hg0 g5
      rw [show w4.drew.heap.size = n0 + 4 from S4.out] at b5 s5 ⊢
      simp only [Act.put, List.getElem_toArray, List.getElem_cons_succ, List.getElem_cons_zero, List.setIfInBounds_toArray, List.set_cons_zero, List.set_cons_succ]
      refine hK.out _ _ ⟨RB.out _ k5, RC.out _ k5⟩ (fun hH => ?_)
      clear hK K
      refine wpAnyH_ready (rs := [4]) (by kernel_rfl) (by simp) ?_
      refine AllReadyH.cons rfl (fun K hK => ?_) AllReadyH.nil
      refine step_wanted (by rfl) (wp_alloc_as 32 (by rfl) zH zH_info ?_)
      intro w6 b6 g6 s6
      have k6 : w4.grownBy w6 none := Lib.grownBy_trans k5 g6
      rw [s5] at b6 s6 ⊢
      replace b5 := b5.grown g6 (by simp)
      simp only [Act.put, List.getElem_toArray, List.getElem_cons_succ, List.getElem_cons_zero, List.setIfInBounds_toArray, List.set_cons_zero, List.set_cons_succ]
      refine hK.out _ _ ⟨RB.out _ k6, RC.out _ k6⟩ (fun hH => ?_)
      clear hK K
      refine wpAnyH_ready (rs := [6]) (by kernel_rfl) (by simp) ?_
      refine AllReadyH.cons rfl (fun K hK => ?_) AllReadyH.nil
      rw [if_pos (by rfl)]
      refine (wp_store_whole 32 _ _ (by rfl) (n0 + 5) (by rfl) lb.header.cells zH 32 (by rfl) b6 (by rw [lb.header.cells_length XB.out.header]; rfl) lb.header.one (sizeHd lb.header XB.out.header) ?_)
      intro w7 g7 s7 b7
      have k7 : w4.grownBy w7 none := grown_new k6 g7 (by rw [S4.out]; omega)
      replace b5 := b5.grown g7 (by simp)
      simp only [Act.put, List.getElem_toArray, List.getElem_cons_succ, List.getElem_cons_zero, List.setIfInBounds_toArray, List.set_cons_zero, List.set_cons_succ]
      refine hK.out _ _ ⟨RB.out _ k7, RC.out _ k7⟩ (fun hH => ?_)
      clear hK K
      refine wpAnyH_ready (rs := [7]) (by kernel_rfl) (by simp) ?_
      refine AllReadyH.cons rfl (fun K hK => ?_) AllReadyH.nil
      rw [if_pos (by rfl)]
      refine (wp_store_whole 32 _ _ (by rfl) (n0 + 4) (by rfl) lc.header.cells zH 32 (by rfl) b5 (by rw [lc.header.cells_length XC.out.header]; rfl) lc.header.one (sizeHd lc.header XC.out.header) ?_)
      intro w8 g8 s8 b8
      have k8 : w4.grownBy w8 none := grown_new k7 g8 (by rw [S4.out]; omega)
      replace b7 := b7.grown g8 (by simp)
      simp only [Act.put, List.getElem_toArray, List.getElem_cons_succ, List.getElem_cons_zero, List.setIfInBounds_toArray, List.set_cons_zero, List.set_cons_succ]
      refine hK.out _ _ ⟨RB.out _ k8, RC.out _ k8⟩ (fun hH => ?_)
      clear hK K
      refine wpAnyH_done (by kernel_rfl) ?_ _
      go_wp2
      go_meet
      case rel => exact ⟨n0 + 5, n0 + 4, rfl, rfl, by omega, by omega, b7, b8, k8⟩
  case rest =>
    obtain ⟨h8, h9, rfl, rfl, n8, n9, d8, d9, k⟩ := hcut
    have D8 := Lib.hid d8; have D9 := Lib.hid d9; have G5 := Lib.hid (Lib.grownBy_trans G4.out k)
    replace BA := Lib.hid (BA.out.grown k (by simp)); replace BB := Lib.hid (BB.out.grown k (by simp)); replace BC := Lib.hid (BC.out.grown k (by simp)); replace BO := Lib.hid (BO.out.grown k (by simp))
    have q81 : wc.cell? ⟨h8, 1, none⟩ = some (.int .i64 2) := by have := d8.row 1 _ rfl; rw [Nat.zero_add] at this; rw [this, ← HB.out]; rfl
    have q91 : wc.cell? ⟨h9, 1, none⟩ = some (.int .i64 2) := by have := d9.row 1 _ rfl; rw [Nat.zero_add] at this; rw [this, ← HC.out]; rfl
    have qa1 : wc.cell? ⟨n0, 1, none⟩ = some (.int .i64 1) := by have := LtR.height_at BA.out.row; rw [Nat.zero_add] at this; rw [this, ← HA.out]; rfl
    have ve : VEq lb.header.cells lc.header.cells = false := by rw [← HB.out, ← HC.out]; kernel_rfl
    have N8 := Lib.hid n8; have N9 := Lib.hid n9
    clear d8 d9 k n8 n9 RB RC hg0
    have bl : Try.prog.built 42 [(1, .int .i64 1), (2, .agg lb.cells.toArray)] = some (evC ⟨#[]⟩ 1 lb (.slice none 0 0)).toArray := by rw [← HB.out]; kernel_rfl
    have Bl := Lib.hid bl
    have VE := Lib.hid ve
    clear bl ve
    go_wp2_with (first | (refine wpList_load_part rfl 32 _ rfl h8 0 rfl lb.header.cells _ D8.out.row Try.underlying32 rfl (sizeHd lb.header XB.out.header) ?_) | (refine wpList_load_part rfl 32 _ rfl h9 0 rfl lc.header.cells _ D9.out.row Try.underlying32 rfl (sizeHd lc.header XC.out.header) ?_) | (refine wpList_eql_flat rfl 32 _ _ _ rfl lb.header.cells lc.header.cells kHead rfl rfl head_flat (lb.header.fit XB.out.header) (lc.header.fit XC.out.header) rfl (by kernel_rfl) ?_; rw [VE.out]) | (refine wpList_load_part rfl 38 _ rfl (n0 + 1) 0 rfl lb.cells _ BB.out.row Try.underlying38 rfl (sizeLt lb XB.out) ?_) | (refine wpList_build_eq rfl 42 _ rfl [(1, .int .i64 1), (2, .agg lb.cells.toArray)] (by kernel_rfl) _ Bl.out ?_) | (refine wpList_alloc_as rfl 42 rfl _ zEv_info ?_))
    intro w5 b5 g5 s5
    obtain ⟨e5, he5⟩ : ∃ n, wc.heap.size = n := ⟨_, rfl⟩
    have N5 := Lib.hid (show w.heap.size ≤ e5 by rw [← he5]; exact G5.out.size)
    rw [he5] at b5 ⊢
    have BE := Lib.hid b5
    have h8l := D8.out.lt; have h9l := D9.out.lt; have hbl := BB.out.lt; have hcl := BC.out.lt; have hol := BO.out.lt; have hal := BA.out.lt
    rw [he5] at h8l h9l hbl hcl hol hal
    replace BA := Lib.hid (BA.out.grown g5 (by simp)); replace BB := Lib.hid (BB.out.grown g5 (by simp)); replace BC := Lib.hid (BC.out.grown g5 (by simp)); replace BO := Lib.hid (BO.out.grown g5 (by simp)); replace D8 := Lib.hid (D8.out.grown g5 (by simp)); replace D9 := Lib.hid (D9.out.grown g5 (by simp))
    have G6 := Lib.hid (Lib.grownBy_trans G5.out g5)
    have L8 := Lib.hid h8l; have L9 := Lib.hid h9l; have LB := Lib.hid hbl; have LC := Lib.hid hcl; have LO := Lib.hid hol; have LA := Lib.hid hal
    clear q81 q91 b5 g5 s5 he5 h8l h9l hbl hcl hol hal qa1
    go_wp2_with (refine wpList_store_whole rfl 42 _ _ rfl e5 rfl (evC ⟨#[]⟩ 1 lb (.slice none 0 0)) (evC ⟨#[]⟩ 0 zLt (.slice none 0 0)) 42 rfl BE.out (by rw [evC_len _ _ _ _ XB.out, evC_len _ _ _ _ zLt_wf]) (evC_one _ _ _) (sizeEv (evC_len _ _ _ _ XB.out)) ?_)
    intro w6 g6 s6 b6
    have BE := Lib.hid b6
    replace BB := Lib.hid (BB.out.grown g6 (by have := LB.out; simp; omega)); replace BC := Lib.hid (BC.out.grown g6 (by have := LC.out; simp; omega)); replace BO := Lib.hid (BO.out.grown g6 (by have := LO.out; simp; omega)); replace D8 := Lib.hid (D8.out.grown g6 (by have := L8.out; simp; omega)); replace D9 := Lib.hid (D9.out.grown g6 (by have := L9.out; simp; omega))
    have G7 := Lib.hid (grown_new G6.out g6 N5.out)
    clear b6 g6 s6 G6 BA
    have r1 := Lib.hid (part_eq (k := 35) (n := 32) (vs := z32c) D8.out.row (by rw [← HB.out]; kernel_rfl)); have r2 := Lib.hid (part_eq (k := 35) (n := 32) (vs := z32c) D9.out.row (by rw [← HC.out]; kernel_rfl))
    have r3 := Lib.hid (part_eq (k := 67) (n := 32) (vs := z32c) D8.out.row (by rw [← HB.out]; kernel_rfl)); have r4 := Lib.hid (part_eq (k := 67) (n := 32) (vs := z32c) D9.out.row (by rw [← HC.out]; kernel_rfl))
    have r5 := Lib.hid (part_eq (k := 131) (n := 32) (vs := z32c) D8.out.row (by rw [← HB.out]; kernel_rfl)); have r6 := Lib.hid (part_eq (k := 131) (n := 32) (vs := z32c) D9.out.row (by rw [← HC.out]; kernel_rfl))
    have q1 : w6.cell? ⟨n0 + 1, 164, none⟩ = some (.int .i64 0) := by have := BB.out.row 164 (.int .i64 0) (by rw [← HB.out]; kernel_rfl); rwa [Nat.zero_add] at this
    have q2 : w6.cell? ⟨n0 + 2, 164, none⟩ = some (.int .i64 0) := by have := BC.out.row 164 (.int .i64 0) (by rw [← HC.out]; kernel_rfl); rwa [Nat.zero_add] at this
    go_wp2_with (first | (refine wpList_load_part rfl 30 _ rfl h8 35 rfl z32c _ r1.out Try.underlying30 rfl z32_size ?_) | (refine wpList_load_part rfl 30 _ rfl h9 35 rfl z32c _ r2.out Try.underlying30 rfl z32_size ?_) | (refine wpList_load_part rfl 30 _ rfl h8 67 rfl z32c _ r3.out Try.underlying30 rfl z32_size ?_) | (refine wpList_load_part rfl 30 _ rfl h9 67 rfl z32c _ r4.out Try.underlying30 rfl z32_size ?_) | (refine wpList_load_part rfl 30 _ rfl h8 131 rfl z32c _ r5.out Try.underlying30 rfl z32_size ?_) | (refine wpList_load_part rfl 30 _ rfl h9 131 rfl z32c _ r6.out Try.underlying30 rfl z32_size ?_) | (refine wpList_neq_flat rfl 30 _ _ _ rfl z32c z32c kHsh rfl rfl hsh_flat z32_fit z32_fit rfl (by kernel_rfl) ?_; rw [z32_eq, Bool.not_true]) | (refine wpList_store_cell rfl 9 _ _ rfl e5 0 rfl (.string evN) rfl rfl _ _ BE.out (by rw [evC_len _ _ _ _ XB.out]; omega) size_str ?_))
    intro w7 g7 s7 b7
    rw [evC_set] at b7
    have BE := Lib.hid b7
    replace BB := Lib.hid (BB.out.grown g7 (by have := LB.out; simp; omega)); replace BO := Lib.hid (BO.out.grown g7 (by have := LO.out; simp; omega))
    have G8 := Lib.hid (grown_new G7.out g7 N5.out)
    clear b7 g7 s7 G7 D8 D9 r1 r2 r3 r4 r5 r6 q1 q2
    have hmf : ∀ (fn : Fn) (first cap : Array Value) (w : World), (Instr.makeFunc fn first cap).run Try.prog w = .ok (.func fn first cap) w := fun _ _ _ _ => rfl
    have rc := Lib.hid (part_eq (k := 163) (n := 35) (vs := cmCells) BB.out.row (by rw [← HB.out]; kernel_rfl))
    go_wp2_with (refine wpList_load_part rfl 35 _ rfl (n0 + 1) 163 rfl cmCells _ rc.out Try.underlying35 rfl (size_cm rfl) ?_)
    refine (keys_nil _ w7).mono ?_
    rintro e w8 ⟨rfl, g8⟩
    replace BE := Lib.hid (BE.out.grown g8 (by simp)); replace BO := Lib.hid (BO.out.grown g8 (by simp))
    have G9 := Lib.hid (Lib.grownBy_trans G8.out g8)
    have es := Lib.hid (show (evC evN 1 lb (.slice none 0 0)).set 202 (.slice none 0 0) = evC evN 1 lb (.slice none 0 0) by rw [← HB.out]; kernel_rfl)
    clear g8 G8 rc hmf BB
    go_wp2_with (refine wpList_store_cell rfl 40 _ _ rfl e5 202 rfl (.slice none 0 0) rfl rfl _ _ BE.out (by rw [evC_len _ _ _ _ XB.out]; omega) size_keys ?_)
    intro w9 g9 s9 b9
    rw [es.out] at b9
    have BE := Lib.hid b9
    replace BO := Lib.hid (BO.out.grown g9 (by have := LO.out; simp; omega))
    have G10 := Lib.hid (grown_new G9.out g9 N5.out)
    clear b9 g9 s9 G9
    go_wp2_with (first | (refine wpList_load_part rfl 42 _ rfl e5 0 rfl (evC evN 1 lb (.slice none 0 0)) _ BE.out.row Try.underlying42 rfl (sizeEv (evC_len _ _ _ _ XB.out)) ?_) | (refine wpList_store_whole rfl 42 _ _ rfl (n0 + 3) rfl (evC evN 1 lb (.slice none 0 0)) (evC ⟨#[]⟩ 0 zLt (.slice none 0 0)) 42 rfl BO.out (by rw [evC_len _ _ _ _ XB.out, evC_len _ _ _ _ zLt_wf]) (evC_one _ _ _) (sizeEv (evC_len _ _ _ _ XB.out)) ?_))
    intro w10 g10 s10 b10
    have B10 := Lib.hid b10
    have G11 := Lib.hid (grown_new G10.out g10 (by have := H0.out; omega))
    clear b10 g10 s10
    go_wp2_with fail
    refine bodyPost_ret (results_cell_tmp rfl _ _ ⟨n0 + 3, 0, none⟩ _ _ rfl rfl (run_loadVar_part _ _ _ 42 (evC evN 1 lb (.slice none 0 0)) _ B10.out.row Try.underlying42 rfl (sizeEv (evC_len _ _ _ _ XB.out)))) rfl ?_
    exact ⟨rfl, G11.out⟩

end Go.Proofs.Ytdegpapeanjboaa
