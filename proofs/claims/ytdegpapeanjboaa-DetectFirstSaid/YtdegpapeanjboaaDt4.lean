/- Walks: detect.Diverge, nuncioref17.Diverge. -/
import Derived.Test.YtdegpapeanjboaaDt3
namespace Go.Proofs.Ytdegpapeanjboaa
open Go.RowKit
set_option maxRecDepth 100000

/-- what both answer -/
def DivR (tr wit : List LtR) (w : World) (e : Ending) (w' : World) : Prop := e = .returned (.tuple #[.int .i64 ((divL tr wit).1 : Int), .int .i64 (divL tr wit).2]) ∧ w.grownBy w' none
theorem DivR.of {tr wit : List LtR} {w w' : World} {n : Nat} {e : Int} (h : divL tr wit = (n, e)) (g : w.grownBy w' none) : DivR tr wit w (.returned (.tuple #[.int .i64 (n : Int), .int .i64 e])) w' := by
  unfold DivR; rw [h]; exact ⟨rfl, g⟩
theorem div_head {tr wit : List LtR} (h : 0 < tr.length) : divL tr wit = if likesO (atL wit tr[0].header.height) tr[0] = true then restL wit (tr.drop 1) 1 else (0, 191) := by
  cases tr with
  | nil => simp at h
  | cons x xs => rfl
theorem rest_head {tr wit : List LtR} (k : Nat) (h : k < tr.length) : restL wit (tr.drop k) k = if partsO (atL wit tr[k].header.height) tr[k] = true then (k, 0) else restL wit (tr.drop (k + 1)) (k + 1) := by
  rw [List.drop_eq_getElem_cons h]; rfl
theorem rest_end {tr wit : List LtR} (k : Nat) (h : tr.length ≤ k) : restL wit (tr.drop k) k = (0, 171) := by
  rw [List.drop_eq_nil_of_le h]; rfl

theorem grown_draw {w w' : World} {row : Option Nat} (h : w.grownBy w' row) (n : Nat) : w.grownBy (w'.drewN n) row := ⟨h.os, h.tape, h.output, h.size, h.block⟩

set_option maxHeartbeats 2000000 in
theorem RDiverge_ok {B : Nat} (va vb : Value) (tr wit : List LtR) (w : World) (ha : RdS B w va tr.length 200 (ltsCells tr)) (hb : RdS B w vb wit.length 200 (ltsCells wit)) (hB : B ≤ w.heap.size) (wa : ∀ d ∈ tr, d.wf) (wb : ∀ d ∈ wit, d.wf) :
    Calls Try.prog 9 #[va, vb] w (DivR tr wit w) := by
  have hla := ha.le; have hlb := hb.le
  obtain ⟨aa, ca, rfl⟩ := ha.shape
  obtain ⟨ab, cb, rfl⟩ := hb.shape
  have HA := Lib.hid ha; have HBb := Lib.hid hb; have HB := Lib.hid hB; have WA := Lib.hid wa; have WB := Lib.hid wb
  unfold maxLen at hla hlb
  clear ha hb hB wa wb
  by_cases h0 : tr.length = 0
  · have E := Lib.hid (show divL tr wit = (0, 1) by
      have : tr = [] := List.length_eq_zero_iff.1 h0
      rw [this]; rfl)
    rw [h0]
    clear HA hla
    go_enter Try.func9, Try.ntmps9
    go_wp2
    go_ret2
    exact DivR.of E.out (World.grownBy.refl _ _)
  have hpos : 0 < tr.length := by omega
  have d0 : ((tr.length : Int) == 0) = false := by simpa using h0
  obtain ⟨g1, o1, c1, e, _, _, hg1, hr1⟩ := HA.out.at_ hpos
  injection e with e1 e2 e3
  subst e1
  have HT := Lib.hid (div_head (wit := wit) hpos)
  have R0 := Lib.hid (LtR.elem hr1 WA.out 0 hpos)
  have Hx := Lib.hid (WA.out tr[0] (List.getElem_mem hpos))
  obtain ⟨x, hx⟩ : ∃ x, tr[0] = x := ⟨_, rfl⟩
  rw [hx] at HT R0 Hx
  have a1 := LtR.height_at R0.out
  have HR1 := Lib.hid hr1
  rw [Nat.zero_mul, Nat.add_zero] at a1 R0
  clear hr1 hx e3 h0
  go_enter Try.func9, Try.ntmps9
  go_wp2_with fail
  refine (of_ok _ wit x.header.height w HBb.out HB.out WB.out).mono ?_
  rintro e w1 ⟨rfl, rfl⟩
  rcases idxL_cases wit x.header.height with ⟨k, hk, f1, f2⟩ | ⟨f1, f2⟩
  case inr =>
    rw [f1]
    have E := Lib.hid (show divL tr wit = (0, 191) by rw [HT.out, f2]; rfl)
    clear f1 f2
    go_wp2_with fail
    go_quiet (fail)
    go_wp2_with fail
    go_ret2
    exact DivR.of E.out (drewN_grown _ _)
  rw [f1]
  obtain ⟨g2, o2, c2, e, _, _, hg2, hr2⟩ := HBb.out.at_ (by omega)
  injection e with e1 e2 e3
  subst e1
  have HR2 := Lib.hid hr2
  have R2 := Lib.hid (LtR.header_at (LtR.elem hr2 WB.out k hk) (WB.out _ (List.getElem_mem hk)))
  have Hy := Lib.hid (WB.out wit[k] (List.getElem_mem hk)).header
  have R1 := Lib.hid (LtR.header_at R0.out Hx.out)
  have F2 := Lib.hid f2
  obtain ⟨y, hy⟩ : ∃ y, wit[k] = y := ⟨_, rfl⟩
  rw [hy] at R2 Hy F2
  have dk : decide ((k : Int) < 0) = false := by simp
  clear hr2 hy e3 f1 f2
  go_wp2_with fail
  refine wp_region_quiet_lit (by kernel_rfl) (by kernel_rfl) ?_
  iterate 7 (quiet_step (fail))
  refine q_load_part rfl 32 _ rfl g2 (o2 + k * 200) rfl y.header.cells _ R2.out Try.underlying32 rfl (y.header.size Hy.out) ?_
  iterate 3 (quiet_step (fail))
  refine q_load_part rfl 32 _ rfl g1 o1 rfl x.header.cells _ R1.out Try.underlying32 rfl (x.header.size Hx.out.header) ?_
  refine q_neq_flat rfl 32 _ _ _ rfl y.header.cells x.header.cells kHead rfl rfl head_flat (y.header.fit Hy.out) (x.header.fit Hx.out.header) rfl (by kernel_rfl) ?_
  quiet_step (fail)
  refine wpQuiet_nil ?_
  intro _ hw'
  obtain ⟨nq, hw''⟩ := hw'
  subst hw''
  try rw [dk]
  cases hv : VEq y.header.cells x.header.cells with
  | false =>
    have E := Lib.hid (show divL tr wit = (0, 191) by rw [HT.out, F2.out]; show (if VEq y.header.cells x.header.cells = true then _ else _) = _; rw [hv]; rfl)
    clear hv
    go_wp2_with fail
    go_ret2
    exact DivR.of E.out (drewN_grown _ _)
  | true =>
    have E := Lib.hid (show divL tr wit = restL wit (tr.drop 1) 1 by rw [HT.out, F2.out]; show (if VEq y.header.cells x.header.cells = true then _ else _) = _; rw [hv]; rfl)
    clear hv
    have G0 := Lib.hid (drewN_grown w1 nq)
    obtain ⟨W, hW⟩ : ∃ W, w1.drewN nq = W := ⟨_, rfl⟩
    rw [hW] at G0 ⊢
    clear hW a1 d0 R0 R1 R2 Hy F2 HT Hx
    simp only [dk, Bool.not_true, Bool.or_false]
    clear dk
    go_wp2_with fail

    go_loopw [6, 7] (fun _ i wr => ∃ k : Nat, k ≤ tr.length ∧ 1 ≤ k ∧ i = .int .i64 k ∧ divL tr wit = restL wit (tr.drop k) k ∧ w1.grownBy wr none) (fun _ i _ => tr.length - (intOf i).toNat)
    case atStart => exact ⟨1, hpos, Nat.le_refl _, rfl, E.out, G0.out⟩
    case round =>
      obtain ⟨i, hi, hi1, rfl, he, hg⟩ := hrel
      have He := Lib.hid he; have Hg := Lib.hid hg; clear he hg E G0
      by_cases hlt : i < tr.length
      · have R0 := Lib.hid (LtR.elem (HR1.out.grown Hg.out (by simp)) WA.out i hlt)
        have Hx := Lib.hid (WA.out tr[i] (List.getElem_mem hlt))
        have HT := Lib.hid (rest_head (wit := wit) i hlt)
        obtain ⟨z, hz⟩ : ∃ z, tr[i] = z := ⟨_, rfl⟩
        rw [hz] at HT R0 Hx
        have a1 := LtR.height_at R0.out
        clear hz
        go_wp2_with fail
        refine (of_ok _ wit z.header.height _ (HBb.out.grown Hg.out) (Nat.le_trans HB.out Hg.out.size) WB.out).mono ?_
        rintro e w3 ⟨rfl, rfl⟩
        rcases idxL_cases wit z.header.height with ⟨j, hj, f1, f2⟩ | ⟨f1, f2⟩
        · rw [f1]
          have R2 := Lib.hid (LtR.header_at (LtR.elem (HR2.out.grown Hg.out (by simp)) WB.out j hj) (WB.out _ (List.getElem_mem hj)))
          have Hy := Lib.hid (WB.out wit[j] (List.getElem_mem hj)).header
          have R1 := Lib.hid (LtR.header_at R0.out Hx.out)
          have F2 := Lib.hid f2
          obtain ⟨y, hy⟩ : ∃ y, wit[j] = y := ⟨_, rfl⟩
          rw [hy] at R2 Hy F2
          have dk : decide ((0 : Int) ≤ (j : Int)) = true := by simp
          clear hy f1 f2 a1
          go_wp2_with fail
          refine wp_region_quiet_lit (by kernel_rfl) (by kernel_rfl) ?_
          iterate 7 (quiet_step (fail))
          refine q_load_part rfl 32 _ rfl g2 (o2 + j * 200) rfl y.header.cells _ R2.out Try.underlying32 rfl (y.header.size Hy.out) ?_
          iterate 4 (quiet_step (fail))
          refine q_load_part rfl 32 _ rfl g1 (o1 + i * 200) rfl z.header.cells _ R1.out Try.underlying32 rfl (z.header.size Hx.out.header) ?_
          refine q_neq_flat rfl 32 _ _ _ rfl y.header.cells z.header.cells kHead rfl rfl head_flat (y.header.fit Hy.out) (z.header.fit Hx.out.header) rfl (by kernel_rfl) ?_
          quiet_step (fail)
          refine wpQuiet_nil ?_
          intro _ hw'
          obtain ⟨nq, hw''⟩ := hw'
          subst hw''
          try rw [dk]
          have G2 := Lib.hid (grown_draw Hg.out nq)
          cases hv : VEq y.header.cells z.header.cells with
          | false =>
            have E := Lib.hid (show divL tr wit = (i, 0) by rw [He.out, HT.out, F2.out]; show (if (!VEq y.header.cells z.header.cells) = true then _ else _) = _; rw [hv]; rfl)
            clear hv
            go_wp2_with fail
            go_ret2
            exact DivR.of E.out G2.out
          | true =>
            have E := Lib.hid (show divL tr wit = restL wit (tr.drop (i + 1)) (i + 1) by rw [He.out, HT.out, F2.out]; show (if (!VEq y.header.cells z.header.cells) = true then _ else _) = _; rw [hv]; rfl)
            clear hv
            go_wp2
            exact ⟨⟨i + 1, by omega, by omega, by go_num, E.out, G2.out⟩, by simp [intOf]; omega⟩
        · rw [f1]
          have E := Lib.hid (show divL tr wit = restL wit (tr.drop (i + 1)) (i + 1) by rw [He.out, HT.out, f2]; rfl)
          clear f1 f2
          go_wp2_with fail
          go_quiet (fail)
          go_wp2
          exact ⟨⟨i + 1, by omega, by omega, by go_num, E.out, grown_draw Hg.out _⟩, by simp [intOf]; omega⟩
      · have E := Lib.hid (show divL tr wit = (0, 171) by rw [He.out]; exact rest_end i (by omega))
        go_wp2_with fail
        go_ret2
        exact DivR.of E.out Hg.out

end Go.Proofs.Ytdegpapeanjboaa
