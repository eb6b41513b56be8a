/- Walks: nunciolaw17.alive, DetectParts. -/
import Derived.Test.YtdegpapeanjboaaDt8
import Derived.Test.YtdegpapeanjboaaLaw
namespace Go.Proofs.Ytdegpapeanjboaa
open Go.RowKit
set_option maxRecDepth 100000

theorem LtR.cells_size (l : LtR) (h : l.wf) : (Value.agg l.cells.toArray).cells.size = 200 := by
  show l.cells.toArray.size = 200
  rw [List.size_toArray, l.cells_length h]
theorem light_info : (Try.prog.info? 38).map (fun i => (i.zero, i.size)) = some (some (.agg zLt.cells.toArray), 200) := by kernel_rfl
theorem flat_two (a b : List Value) : flatCells [.agg a.toArray, .agg b.toArray] = a ++ b := by simp [flatCells, Value.cells]
theorem two_size {la lb : LtR} (ha : la.wf) (hb : lb.wf) : ∀ v ∈ ([.agg la.cells.toArray, .agg lb.cells.toArray] : List Value), v.cells.size = 200 := by
  intro v hv
  simp only [List.mem_cons, List.not_mem_nil, or_false] at hv
  rcases hv with rfl | rfl
  · exact la.cells_size ha
  · exact lb.cells_size hb
theorem rds_two {w : World} {g : Nat} {la lb : LtR} {T : TypeId} (ha : la.wf) (hb : lb.wf) (h : Blk w g (la.cells ++ lb.cells) T) : RdS w.heap.size w (.slice (some ⟨g, 0, none⟩) 2 2) 2 200 (ltsCells [la, lb]) := by
  have e : ltsCells [la, lb] = la.cells ++ lb.cells := by simp [ltsCells]
  refine ⟨_, 2, rfl, Nat.le_refl _, by unfold maxLen; omega, ?_, Or.inr ⟨g, 0, rfl, h.lt, by rw [e]; exact h.row⟩⟩
  rw [e, List.length_append, la.cells_length ha, lb.cells_length hb]

theorem evN_is : (evN.toList == [101, 113, 117, 105, 118, 111, 99, 97, 116, 105, 111, 110]) = true := by decide +kernel
set_option maxHeartbeats 4000000 in
theorem alive17_ok (w : World) : Calls Try.prog 7 #[] w fun e w' => e = .returned (.bool true) ∧ w.grownBy w' none := by
  have xa := ltAt_wf 1 0 (by unfold i64R; decide) (by unfold i64R; decide)
  have xb := ltAt_wf 2 0 (by unfold i64R; decide) (by unfold i64R; decide)
  have xc := ltAt_wf 2 1 (by unfold i64R; decide) (by unfold i64R; decide)
  have CL := Lib.hid Classify_plain
  have h1 : Try.prog.built 32 [(1, .int .i64 1)] = some (ltAt 1 0).header.cells.toArray := by kernel_rfl
  have h2 : Try.prog.built 32 [(1, .int .i64 2)] = some (ltAt 2 0).header.cells.toArray := by kernel_rfl
  have h3 : Try.prog.built 32 [(1, .int .i64 2), (2, .int .i64 1)] = some (ltAt 2 1).header.cells.toArray := by kernel_rfl
  have k1 : Try.prog.built 38 [(0, .agg (ltAt 1 0).header.cells.toArray)] = some (ltAt 1 0).cells.toArray := by kernel_rfl
  have k2 : Try.prog.built 38 [(0, .agg (ltAt 2 0).header.cells.toArray)] = some (ltAt 2 0).cells.toArray := by kernel_rfl
  have k3 : Try.prog.built 38 [(0, .agg (ltAt 2 1).header.cells.toArray)] = some (ltAt 2 1).cells.toArray := by kernel_rfl
  have hd : divL [ltAt 1 0, ltAt 2 0] [ltAt 1 0, ltAt 2 1] = (1, 0) := by decide +kernel
  obtain ⟨la, hla⟩ : ∃ l, ltAt 1 0 = l := ⟨_, rfl⟩
  obtain ⟨lb, hlb⟩ : ∃ l, ltAt 2 0 = l := ⟨_, rfl⟩
  obtain ⟨lc, hlc⟩ : ∃ l, ltAt 2 1 = l := ⟨_, rfl⟩
  rw [hla] at xa h1 k1; rw [hlb] at xb h2 k2; rw [hlc] at xc h3 k3
  rw [hla, hlb, hlc] at CL hd
  have XA := Lib.hid xa; have XB := Lib.hid xb; have XC := Lib.hid xc
  have H1 := Lib.hid h1; have H2 := Lib.hid h2; have H3 := Lib.hid h3; have K1 := Lib.hid k1; have K2 := Lib.hid k2; have K3 := Lib.hid k3; have HD := Lib.hid hd
  clear xa xb xc hla hlb hlc h1 h2 h3 k1 k2 k3 hd
  go_enter Try.func7, Try.ntmps7
  obtain ⟨n0, hn0⟩ : ∃ n, w.heap.size = n := ⟨_, rfl⟩
  have H0 := Lib.hid hn0
  go_wp2_with (first | (refine wpList_build_eq rfl 32 _ rfl [(1, .int .i64 1)] (by kernel_rfl) _ H1.out ?_) | (refine wpList_build_eq rfl 38 _ rfl [(0, .agg la.header.cells.toArray)] (by kernel_rfl) _ K1.out ?_) | (refine wpList_alloc_as rfl 38 rfl zLt.cells zLt_info ?_))
  intro w1 b1 g1 s1
  clear hn0
  have BA := Lib.hid b1; have G1 := Lib.hid g1; have S1 := Lib.hid s1
  clear b1 g1 s1
  go_wp2_with (refine wpList_store_whole rfl 38 _ _ rfl n0 rfl la.cells zLt.cells 38 rfl BA.out (by rw [la.cells_length XA.out]; rfl) la.one (sizeLt la XA.out) ?_)
  intro w2 g2 s2 b2
  have BA := Lib.hid b2; have G2 := Lib.hid (grown_new G1.out g2 (by rw [H0.out]; exact Nat.le_refl _)); have S2 := Lib.hid (s2.trans S1.out)
  clear b2 g2 s2
  go_wp2_with (first | (refine wpList_build_eq rfl 32 _ rfl [(1, .int .i64 2)] (by kernel_rfl) _ H2.out ?_) | (refine wpList_build_eq rfl 38 _ rfl [(0, .agg lb.header.cells.toArray)] (by kernel_rfl) _ K2.out ?_) | (refine wpList_alloc_as rfl 38 rfl zLt.cells zLt_info ?_))
  intro w3 b3 g3 s3
  rw [S2.out] at b3 s3 ⊢
  have BB := Lib.hid b3; have G3 := Lib.hid (Lib.grownBy_trans G2.out g3); have S3 := Lib.hid s3
  replace BA := Lib.hid (BA.out.grown g3 (by simp))
  clear b3 g3 s3 G1 G2 S1 S2
  go_wp2_with (refine wpList_store_whole rfl 38 _ _ rfl (n0 + 1) rfl lb.cells zLt.cells 38 rfl BB.out (by rw [lb.cells_length XB.out]; rfl) lb.one (sizeLt lb XB.out) ?_)
  intro w4 g4 s4 b4
  have BB := Lib.hid b4; have G4 := Lib.hid (grown_new G3.out g4 (by rw [H0.out]; omega)); have S4 := Lib.hid (s4.trans S3.out)
  replace BA := Lib.hid (BA.out.grown g4 (by simp))
  clear b4 g4 s4
  go_wp2_with (first | (refine wpList_build_eq rfl 32 _ rfl [(1, .int .i64 2), (2, .int .i64 1)] (by kernel_rfl) _ H3.out ?_) | (refine wpList_build_eq rfl 38 _ rfl [(0, .agg lc.header.cells.toArray)] (by kernel_rfl) _ K3.out ?_) | (refine wpList_alloc_as rfl 38 rfl zLt.cells zLt_info ?_))
  intro w5 b5 g5 s5
  rw [S4.out] at b5 s5 ⊢
  have BC := Lib.hid b5; have G5 := Lib.hid (Lib.grownBy_trans G4.out g5); have S5 := Lib.hid s5
  replace BA := Lib.hid (BA.out.grown g5 (by simp)); replace BB := Lib.hid (BB.out.grown g5 (by simp))
  clear b5 g5 s5 G3 G4 S3 S4
  go_wp2_with (refine wpList_store_whole rfl 38 _ _ rfl (n0 + 1 + 1) rfl lc.cells zLt.cells 38 rfl BC.out (by rw [lc.cells_length XC.out]; rfl) lc.one (sizeLt lc XC.out) ?_)
  intro w6 g6 s6 b6
  have BC := Lib.hid b6; have G6 := Lib.hid (grown_new G5.out g6 (by rw [H0.out]; omega)); have S6 := Lib.hid (s6.trans S5.out)
  replace BA := Lib.hid (BA.out.grown g6 (by simp <;> omega)); replace BB := Lib.hid (BB.out.grown g6 (by simp))
  clear b6 g6 s6 G5 S5
  go_wp2_with (first | (refine wpList_load_part rfl 38 _ rfl n0 0 rfl la.cells _ BA.out.row Try.underlying38 rfl (sizeLt la XA.out) ?_) | (refine wpList_load_part rfl 38 _ rfl (n0 + 1) 0 rfl lb.cells _ BB.out.row Try.underlying38 rfl (sizeLt lb XB.out) ?_) | (refine wpList_buildSlice_all rfl 22 2 _ rfl [.agg la.cells.toArray, .agg lb.cells.toArray] (by kernel_rfl) rfl (la.cells ++ lb.cells) (flat_two _ _) 38 _ 200 Try.underlying22 light_info (two_size XA.out XB.out) (show 2 * 200 ≤ 16777216 by decide) ?_))
  intro w7 b7 g7 s7
  rw [S6.out] at b7 s7 ⊢
  have B7 := Lib.hid b7; have G7 := Lib.hid (Lib.grownBy_trans G6.out g7); have S7 := Lib.hid s7
  replace BA := Lib.hid (BA.out.grown g7 (by simp)); replace BB := Lib.hid (BB.out.grown g7 (by simp)); replace BC := Lib.hid (BC.out.grown g7 (by simp))
  clear b7 g7 s7 G6 S6
  go_wp2_with (first | (refine wpList_load_part rfl 38 _ rfl n0 0 rfl la.cells _ BA.out.row Try.underlying38 rfl (sizeLt la XA.out) ?_) | (refine wpList_load_part rfl 38 _ rfl (n0 + 1 + 1) 0 rfl lc.cells _ BC.out.row Try.underlying38 rfl (sizeLt lc XC.out) ?_) | (refine wpList_buildSlice_all rfl 22 2 _ rfl [.agg la.cells.toArray, .agg lc.cells.toArray] (by kernel_rfl) rfl (la.cells ++ lc.cells) (flat_two _ _) 38 _ 200 Try.underlying22 light_info (two_size XA.out XC.out) (show 2 * 200 ≤ 16777216 by decide) ?_))
  intro w8 b8 g8 s8
  rw [S7.out] at b8 s8 ⊢
  have B8 := Lib.hid b8; have G8 := Lib.hid (Lib.grownBy_trans G7.out g8); have S8 := Lib.hid s8
  replace BA := Lib.hid (BA.out.grown g8 (by simp)); replace BB := Lib.hid (BB.out.grown g8 (by simp)); replace BC := Lib.hid (BC.out.grown g8 (by simp)); replace B7 := Lib.hid (B7.out.grown g8 (by simp))
  clear b8 g8 s8 G7 S7
  go_wp2_with fail
  have D := Diverge_ok (B := w8.heap.size) _ _ [la, lb] [la, lc] w8 (rds_two XA.out XB.out B7.out) (rds_two XA.out XC.out B8.out) (Nat.le_refl _) (by intro d hd; simp only [List.mem_cons, List.not_mem_nil, or_false] at hd; rcases hd with rfl | rfl; exact XA.out; exact XB.out) (by intro d hd; simp only [List.mem_cons, List.not_mem_nil, or_false] at hd; rcases hd with rfl | rfl; exact XA.out; exact XC.out)
  refine D.mono ?_
  intro e w9 hr
  unfold DivR at hr
  rw [HD.out] at hr
  obtain ⟨rfl, g9⟩ := hr
  replace BA := Lib.hid (BA.out.grown g9 (by simp)); replace BB := Lib.hid (BB.out.grown g9 (by simp)); replace BC := Lib.hid (BC.out.grown g9 (by simp))
  have G9 := Lib.hid (Lib.grownBy_trans G8.out g9)
  clear D g9 B7 B8 G8 S8
  go_wp2_with (first | (refine wpList_load_part rfl 38 _ rfl n0 0 rfl la.cells _ BA.out.row Try.underlying38 rfl (sizeLt la XA.out) ?_) | (refine wpList_load_part rfl 38 _ rfl (n0 + 1) 0 rfl lb.cells _ BB.out.row Try.underlying38 rfl (sizeLt lb XB.out) ?_) | (refine wpList_load_part rfl 38 _ rfl (n0 + 1 + 1) 0 rfl lc.cells _ BC.out.row Try.underlying38 rfl (sizeLt lc XC.out) ?_))
  refine (CL.out w9).mono ?_
  rintro e w10 ⟨rfl, g10⟩
  have G10 := Lib.hid (Lib.grownBy_trans G9.out g10)
  clear g10 G9
  go_wp2_with (refine wpList_alloc_as rfl 42 rfl _ zEv_info ?_)
  intro w11 b11 g11 s11
  obtain ⟨e0, he0⟩ : ∃ n, w10.heap.size = n := ⟨_, rfl⟩
  rw [he0] at b11 ⊢
  have BE := Lib.hid b11; have G11 := Lib.hid (Lib.grownBy_trans G10.out g11); have NE := Lib.hid (show w.heap.size ≤ e0 by rw [← he0]; exact G10.out.size)
  clear b11 g11 s11 he0 G10
  go_wp2_with (refine wpList_store_whole rfl 42 _ _ rfl e0 rfl (evC evN 1 lb (.slice none 0 0)) (evC ⟨#[]⟩ 0 zLt (.slice none 0 0)) 42 rfl BE.out (by rw [evC_len _ _ _ _ XB.out, evC_len _ _ _ _ zLt_wf]) (evC_one _ _ _) (sizeEv (evC_len _ _ _ _ XB.out)) ?_)
  intro w12 g12 s12 b12
  have q0 : w12.cell? ⟨e0, 0, none⟩ = some (.string evN) := by have := b12.row 0 _ rfl; rwa [Nat.zero_add] at this
  have G12 := Lib.hid (grown_new G11.out g12 NE.out)
  clear b12 g12 s12 G11
  go_wp2_with fail
  go_ret
  rw [evN_is]
  exact ⟨rfl, G12.out⟩

theorem below_of_grown' {w w' : World} (h : w.grownBy w' none) : Below w.heap.size w w' := ⟨h.os, h.tape, h.output, h.size, fun k hk => h.block k hk (by simp)⟩

set_option maxHeartbeats 2000000 in
theorem DetectParts_any (va vb : Value) (tr wit : List LtR) (w : World) (wa : ∀ d ∈ tr, d.wf) (wb : ∀ d ∈ wit, d.wf) (ha : RdS w.heap.size w va tr.length 200 (ltsCells tr)) (hb : RdS w.heap.size w vb wit.length 200 (ltsCells wit)) :
    Calls Try.prog 3 #[va, vb] w (LawTrue w) := by
  have HA := Lib.hid ha; have HB := Lib.hid hb; have WA := Lib.hid wa; have WB := Lib.hid wb
  clear ha hb wa wb
  go_enter Try.func3, Try.ntmps3
  go_wp2_with fail
  refine (few_ok va tr w HA.out (Nat.le_refl _) WA.out).mono ?_
  rintro e w1 ⟨rfl, g1⟩
  have G1 := Lib.hid g1
  clear g1
  cases h1 : fewL tr with
  | false =>
    go_wp2_with fail
    refine (few_ok vb wit w1 (HB.out.grown G1.out) G1.out.size WB.out).mono ?_
    rintro e w2 ⟨rfl, g2⟩
    have G2 := Lib.hid (Lib.grownBy_trans G1.out g2)
    clear g2
    go_wp2_with fail
    refine (alive17_ok w2).mono ?_
    rintro e w3 ⟨rfl, g3⟩
    have G3 := Lib.hid (Lib.grownBy_trans G2.out g3)
    clear g3
    go_wp2_with fail
    go_ret
    exact ⟨rfl, below_of_grown' G3.out⟩
  | true =>
    go_wp2_with fail
    refine (few_ok vb wit w1 (HB.out.grown G1.out) G1.out.size WB.out).mono ?_
    rintro e w2 ⟨rfl, g2⟩
    have G2 := Lib.hid (Lib.grownBy_trans G1.out g2)
    clear g2
    cases h2 : fewL wit with
    | false =>
      go_wp2_with fail
      refine (alive17_ok w2).mono ?_
      rintro e w3 ⟨rfl, g3⟩
      have G3 := Lib.hid (Lib.grownBy_trans G2.out g3)
      clear g3
      go_wp2_with fail
      go_ret
      exact ⟨rfl, below_of_grown' G3.out⟩
    | true =>
      go_wp2_with fail
      refine (Diverge_ok va vb tr wit w2 (HA.out.grown G2.out) (HB.out.grown G2.out) G2.out.size WA.out WB.out).mono ?_
      rintro e w3 ⟨rfl, g3⟩
      have G3 := Lib.hid (Lib.grownBy_trans G2.out g3)
      obtain ⟨n, hn⟩ : ∃ n, (divL tr wit).1 = n := ⟨_, rfl⟩
      obtain ⟨c, hc⟩ : ∃ n, (divL tr wit).2 = n := ⟨_, rfl⟩
      rw [hn, hc]
      have HN := Lib.hid hn; have HC := Lib.hid hc
      clear g3 hn hc
      go_wp2_with fail
      have R := RDiverge_ok va vb tr wit w3 (HA.out.grown G3.out) (HB.out.grown G3.out) G3.out.size WA.out WB.out
      unfold DivR at R
      rw [HN.out, HC.out] at R
      refine R.mono ?_
      rintro e w4 ⟨rfl, g4⟩
      have G4 := Lib.hid (Lib.grownBy_trans G3.out g4)
      clear g4 R
      go_wp2_with fail
      refine (alive17_ok w4).mono ?_
      rintro e w5 ⟨rfl, g5⟩
      have G5 := Lib.hid (Lib.grownBy_trans G4.out g5)
      clear g5
      go_wp2_with fail
      go_ret
      exact ⟨rfl, below_of_grown' G5.out⟩

end Go.Proofs.Ytdegpapeanjboaa
