/- Walk: detect.Diverge. -/
import Derived.Test.YtdegpapeanjboaaDt4
namespace Go.Proofs.Ytdegpapeanjboaa
open Go.RowKit
set_option maxRecDepth 100000

set_option maxHeartbeats 4000000 in
theorem Diverge_ok {B : Nat} (va vb : Value) (tr wit : List LtR) (w : World) (ha : RdS B w va tr.length 200 (ltsCells tr)) (hb : RdS B w vb wit.length 200 (ltsCells wit)) (hB : B ≤ w.heap.size) (wa : ∀ d ∈ tr, d.wf) (wb : ∀ d ∈ wit, d.wf) :
    Calls Try.prog 8 #[va, vb] w (DivR tr wit w) := by
  have hla := ha.le; have hlb := hb.le
  obtain ⟨aa, ca, rfl⟩ := ha.shape
  obtain ⟨ab, cb, rfl⟩ := hb.shape
  have HA := Lib.hid ha; have HBb := Lib.hid hb; have HB := Lib.hid hB; have WA := Lib.hid wa; have WB := Lib.hid wb
  unfold maxLen at hla hlb
  clear ha hb hB wa wb
  by_cases h0 : tr.length = 0
  · have E := Lib.hid (show divL tr wit = (0, 1) by
      have : tr = [] := List.length_eq_zero_iff.1 h0
      rw [this]; rfl)
    rw [h0]
    clear HA hla
    go_enter Try.func8, Try.ntmps8
    go_wp2
    go_ret2
    exact DivR.of E.out (World.grownBy.refl _ _)
  have hpos : 0 < tr.length := by omega
  have d0 : ((tr.length : Int) == 0) = false := by simpa using h0
  clear h0
  go_enter Try.func8, Try.ntmps8
  go_wp2
  go_loopw [6, 7, 8, 9, 10, 16] (fun _ _ _ _ _ i wr => ∃ k : Nat, k ≤ tr.length ∧ i = .int .i64 k ∧ (k ≠ 0 → divL tr wit = restL wit (tr.drop k) k) ∧ w.grownBy wr none) (fun _ _ _ _ _ i _ => tr.length - (intOf i).toNat)
  case atStart => exact ⟨0, Nat.zero_le _, rfl, fun h => absurd rfl h, World.grownBy.refl _ _⟩
  case round =>
    obtain ⟨k, hk, rfl, he, hg⟩ := hrel
    have He := Lib.hid he; have Hg := Lib.hid hg; clear he hg
    by_cases hlt : k < tr.length
    · obtain ⟨g1, o1, c1, e, _, _, hg1, hr1⟩ := HA.out.at_ hpos
      injection e with e1 e2 e3
      subst e1
      have R0 := Lib.hid (LtR.elem (hr1.grown Hg.out (by simp)) WA.out k hlt)
      have Hx := Lib.hid (WA.out tr[k] (List.getElem_mem hlt))
      have HT := Lib.hid (rest_head (wit := wit) k hlt)
      have HT0 := Lib.hid (show k = 0 → divL tr wit = if likesO (atL wit tr[k].header.height) tr[k] = true then restL wit (tr.drop 1) 1 else (0, 191) by rintro rfl; exact div_head hpos)
      obtain ⟨x, hx⟩ : ∃ z, tr[k] = z := ⟨_, rfl⟩
      rw [hx] at HT HT0 R0 Hx
      clear hr1 hx e3
      go_wp2_with (first | (refine wpList_load_part rfl 38 _ rfl g1 (o1 + k * 200) rfl x.cells _ R0.out Try.underlying38 rfl (sizeLt x Hx.out) ?_) | (refine wpList_alloc_as rfl 38 rfl zLt.cells zLt_info ?_))
      intro w1 b1 g s1
      have B1 := Lib.hid b1; have G1 := Lib.hid (Lib.grownBy_trans Hg.out g)
      obtain ⟨xb, hxb⟩ : ∃ n, wr.heap.size = n := ⟨_, rfl⟩
      have Hxb := Lib.hid (show w.heap.size ≤ xb by rw [← hxb]; exact Hg.out.size)
      rw [hxb] at B1 ⊢
      clear b1 g s1 hxb
      go_wp2_with (refine wpList_store_whole rfl 38 _ _ rfl xb rfl x.cells zLt.cells 38 rfl B1.out (by rw [x.cells_length Hx.out]; rfl) x.one (sizeLt x Hx.out) ?_)
      intro w2 g s2 b2
      have B2 := Lib.hid b2; have G2 := Lib.hid (grown_new G1.out g Hxb.out)
      have a1 := LtR.height_at b2.row
      rw [Nat.zero_add] at a1
      clear b2 g s2 B1 G1 R0
      cases ho : atL wit x.header.height with
      | none =>
        have hcall : Calls Try.prog 13 #[.slice ab wit.length cb, .int .i64 x.header.height] w2 (fun e w' => e = .returned (.tuple #[.agg zLt.cells.toArray, .bool false]) ∧ w2.grownBy w' none) := by
          have := at_ok _ wit x.header.height w2 (HBb.out.grown G2.out) (Nat.le_trans HB.out G2.out.size) WB.out
          rw [ho] at this
          exact this
        rw [ho] at HT HT0
        have HC := Lib.hid hcall
        clear hcall ho
        go_wp2_with fail
        refine HC.out.mono ?_
        rintro e w3 ⟨rfl, g3⟩
        have B3 := Lib.hid (B2.out.grown g3 (by simp)); have G3 := Lib.hid (Lib.grownBy_trans G2.out g3)
        have Hxl := Lib.hid B3.out.lt
        clear g3 a1 B2 G2 HC
        go_wp2_with (refine wpList_alloc_as rfl 38 rfl zLt.cells zLt_info ?_)
        intro w4 b4 g4 s4
        have B4 := Lib.hid (B3.out.grown g4 (by simp)); have G4 := Lib.hid (Lib.grownBy_trans G3.out g4); have Y4 := Lib.hid b4
        obtain ⟨yb, hyb⟩ : ∃ n, w3.heap.size = n := ⟨_, rfl⟩
        have Hyb := Lib.hid (show w.heap.size ≤ yb by rw [← hyb]; exact G3.out.size)
        have Hne := Lib.hid (show xb < yb by rw [← hyb]; exact Hxl.out)
        rw [hyb] at Y4 ⊢
        clear b4 g4 s4 hyb B3 G3 Hxl
        go_wp2_with (refine wpList_store_whole rfl 38 _ _ rfl yb rfl zLt.cells zLt.cells 38 rfl Y4.out rfl zLt.one (sizeLt zLt zLt_wf) ?_)
        intro w5 g5 s5 b5
        have G5 := Lib.hid (grown_new G4.out g5 Hyb.out)
        clear b5 g5 s5 Y4 B4 G4
        by_cases h0 : k = 0
        · subst h0
          have E := Lib.hid (show divL tr wit = (0, 191) from HT0.out rfl)
          go_wp2_with fail
          go_ret2
          exact DivR.of E.out G5.out
        · have E := Lib.hid (show divL tr wit = restL wit (tr.drop (k + 1)) (k + 1) by rw [He.out h0, HT.out]; rfl)
          have q1 : ((k : Int) == 0) = false := by simpa using h0
          have q2 : (0 : Int) < (k : Int) := by omega
          clear h0
          go_wp2
          exact ⟨⟨k + 1, by omega, by go_num, fun _ => E.out, G5.out⟩, by simp [intOf]; omega⟩
      | some y =>
        have hcall : Calls Try.prog 13 #[.slice ab wit.length cb, .int .i64 x.header.height] w2 (fun e w' => e = .returned (.tuple #[.agg y.cells.toArray, .bool true]) ∧ w2.grownBy w' none) := by
          have := at_ok _ wit x.header.height w2 (HBb.out.grown G2.out) (Nat.le_trans HB.out G2.out.size) WB.out
          rw [ho] at this
          exact this
        have Hy := Lib.hid (WB.out y (atL_some ho).1)
        rw [ho] at HT HT0
        have HC := Lib.hid hcall
        clear hcall ho
        go_wp2_with fail
        refine HC.out.mono ?_
        rintro e w3 ⟨rfl, g3⟩
        have B3 := Lib.hid (B2.out.grown g3 (by simp)); have G3 := Lib.hid (Lib.grownBy_trans G2.out g3)
        have Hxl := Lib.hid B3.out.lt
        clear g3 a1 B2 G2 HC
        go_wp2_with (refine wpList_alloc_as rfl 38 rfl zLt.cells zLt_info ?_)
        intro w4 b4 g4 s4
        have B4 := Lib.hid (B3.out.grown g4 (by simp)); have G4 := Lib.hid (Lib.grownBy_trans G3.out g4); have Y4 := Lib.hid b4
        obtain ⟨yb, hyb⟩ : ∃ n, w3.heap.size = n := ⟨_, rfl⟩
        have Hyb := Lib.hid (show w.heap.size ≤ yb by rw [← hyb]; exact G3.out.size)
        have Hne := Lib.hid (show xb < yb by rw [← hyb]; exact Hxl.out)
        rw [hyb] at Y4 ⊢
        clear b4 g4 s4 hyb B3 G3 Hxl
        go_wp2_with (refine wpList_store_whole rfl 38 _ _ rfl yb rfl y.cells zLt.cells 38 rfl Y4.out (by rw [y.cells_length Hy.out]; rfl) y.one (sizeLt y Hy.out) ?_)
        intro w5 g5 s5 b5
        have G5 := Lib.hid (grown_new G4.out g5 Hyb.out)
        have X5 := Lib.hid (LtR.header_at (B4.out.grown g5 (by simp; have := Hne.out; omega)).row Hx.out)
        have Y5 := Lib.hid (LtR.header_at b5.row Hy.out)
        clear b5 g5 s5 Y4 B4 G4
        cases hv : VEq y.header.cells x.header.cells with
        | true =>
          have E := Lib.hid (show divL tr wit = restL wit (tr.drop (k + 1)) (k + 1) by
            by_cases h0 : k = 0
            · subst h0; rw [HT0.out rfl]; show (if VEq y.header.cells x.header.cells = true then _ else _) = _; rw [hv]; rfl
            · rw [He.out h0, HT.out]; show (if (!VEq y.header.cells x.header.cells) = true then _ else _) = _; rw [hv]; rfl)
          have Hv := Lib.hid hv
          clear hv
          by_cases h0 : k = 0
          · subst h0
            go_wp2_with (first | (refine wpList_load_part rfl 32 _ rfl yb 0 rfl y.header.cells _ Y5.out Try.underlying32 rfl (y.header.size Hy.out.header) ?_) | (refine wpList_load_part rfl 32 _ rfl xb 0 rfl x.header.cells _ X5.out Try.underlying32 rfl (x.header.size Hx.out.header) ?_) | (refine wpList_eql_flat rfl 32 _ _ _ rfl y.header.cells x.header.cells kHead rfl rfl head_flat (y.header.fit Hy.out.header) (x.header.fit Hx.out.header) rfl (by kernel_rfl) ?_; rw [Hv.out]))
            exact ⟨⟨0 + 1, by omega, by go_num, fun _ => E.out, G5.out⟩, by simp [intOf]; omega⟩
          · have q1 : ((k : Int) == 0) = false := by simpa using h0
            have q2 : (0 : Int) < (k : Int) := by omega
            clear h0
            go_wp2_with (first | (refine wpList_load_part rfl 32 _ rfl yb 0 rfl y.header.cells _ Y5.out Try.underlying32 rfl (y.header.size Hy.out.header) ?_) | (refine wpList_load_part rfl 32 _ rfl xb 0 rfl x.header.cells _ X5.out Try.underlying32 rfl (x.header.size Hx.out.header) ?_) | (refine wpList_eql_flat rfl 32 _ _ _ rfl y.header.cells x.header.cells kHead rfl rfl head_flat (y.header.fit Hy.out.header) (x.header.fit Hx.out.header) rfl (by kernel_rfl) ?_; rw [Hv.out]))
            exact ⟨⟨k + 1, by omega, by go_num, fun _ => E.out, G5.out⟩, by simp [intOf]; omega⟩
        | false =>
          have Hv := Lib.hid hv
          by_cases h0 : k = 0
          · subst h0
            have E := Lib.hid (show divL tr wit = (0, 191) by rw [HT0.out rfl]; show (if VEq y.header.cells x.header.cells = true then _ else _) = _; rw [hv]; rfl)
            clear hv
            go_wp2_with (first | (refine wpList_load_part rfl 32 _ rfl yb 0 rfl y.header.cells _ Y5.out Try.underlying32 rfl (y.header.size Hy.out.header) ?_) | (refine wpList_load_part rfl 32 _ rfl xb 0 rfl x.header.cells _ X5.out Try.underlying32 rfl (x.header.size Hx.out.header) ?_) | (refine wpList_eql_flat rfl 32 _ _ _ rfl y.header.cells x.header.cells kHead rfl rfl head_flat (y.header.fit Hy.out.header) (x.header.fit Hx.out.header) rfl (by kernel_rfl) ?_; rw [Hv.out]))
            go_ret2
            exact DivR.of E.out G5.out
          · have E := Lib.hid (show divL tr wit = (k, 0) by rw [He.out h0, HT.out]; show (if (!VEq y.header.cells x.header.cells) = true then _ else _) = _; rw [hv]; rfl)
            have q1 : ((k : Int) == 0) = false := by simpa using h0
            have q2 : (0 : Int) < (k : Int) := by omega
            clear h0 hv
            go_wp2_with (first | (refine wpList_load_part rfl 32 _ rfl yb 0 rfl y.header.cells _ Y5.out Try.underlying32 rfl (y.header.size Hy.out.header) ?_) | (refine wpList_load_part rfl 32 _ rfl xb 0 rfl x.header.cells _ X5.out Try.underlying32 rfl (x.header.size Hx.out.header) ?_) | (refine wpList_eql_flat rfl 32 _ _ _ rfl y.header.cells x.header.cells kHead rfl rfl head_flat (y.header.fit Hy.out.header) (x.header.fit Hx.out.header) rfl (by kernel_rfl) ?_; rw [Hv.out]))
            go_ret2
            exact DivR.of E.out G5.out
    · have E := Lib.hid (show divL tr wit = (0, 171) by rw [He.out (by omega)]; exact rest_end k (by omega))
      go_wp2
      go_ret2
      exact DivR.of E.out Hg.out

end Go.Proofs.Ytdegpapeanjboaa
