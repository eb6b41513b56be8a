/- Walk: DetectFirst. -/
import Derived.Test.YtdegpapeanjboaaDt9
namespace Go.Proofs.Ytdegpapeanjboaa
open Go.RowKit
set_option maxRecDepth 100000

def hgt (tr : List LtR) (i : Nat) : Int := (tr.getD i zLt).header.height
def riseK (tr : List LtR) (k : Nat) : Bool := (List.range (k - 1)).all fun i => decide (hgt tr i < hgt tr (i + 1))
theorem hgt_at (tr : List LtR) (i : Nat) (h : i < tr.length) : hgt tr i = tr[i].header.height := by simp [hgt, List.getD, List.getElem?_eq_getElem h]
theorem riseK_succ (tr : List LtR) (j : Nat) : riseK tr (j + 1 + 1) = (riseK tr (j + 1) && decide (hgt tr j < hgt tr (j + 1))) := by
  unfold riseK
  rw [show j + 1 + 1 - 1 = j + 1 from rfl, show j + 1 - 1 = j from rfl, List.range_succ, List.all_append]
  simp
theorem riseK_rise {tr : List LtR} (h : riseK tr tr.length = true) : Rise tr := by
  intro i hi
  unfold riseK at h
  rw [List.all_eq_true] at h
  have := h i (List.mem_range.2 (by omega))
  rw [hgt_at _ _ (by omega), hgt_at _ _ hi] at this
  simpa using this
def thereK (wit : List LtR) (x : LtR) (k : Nat) : Bool := (wit.take k).any fun y => decide (y.header.height = x.header.height) && !VEq y.header.cells x.header.cells
theorem thereK_succ (wit : List LtR) (x : LtR) (k : Nat) (h : k < wit.length) : thereK wit x (k + 1) = (thereK wit x k || (decide (wit[k].header.height = x.header.height) && !VEq wit[k].header.cells x.header.cells)) := by
  unfold thereK
  rw [List.take_succ_eq_append_getElem h, List.any_append]
  simp
theorem thereK_all {wit : List LtR} {x : LtR} (i : Nat) (hi : i < wit.length) (h1 : wit[i].header.height = x.header.height) (h2 : VEq wit[i].header.cells x.header.cells = false) : thereK wit x wit.length = true := by
  unfold thereK
  rw [List.take_length, List.any_eq_true]
  exact ⟨wit[i], List.getElem_mem hi, by simp [h1, h2]⟩
theorem rds_take {B : Nat} {w : World} {ao : Option Addr} {n c k : Nat} {ds : List LtR} (h : RdS B w (.slice ao n c) n 200 (ltsCells ds)) (hn : n = ds.length) (hw : ∀ d ∈ ds, d.wf) (hk : k ≤ n) : RdS B w (.slice ao k c) (ds.take k).length 200 (ltsCells (ds.take k)) := by
  obtain ⟨ao', c', e, h1, h2, h3, h4⟩ := h
  injection e with e1 e2 e3
  subst e1 e3 hn
  have hl : (ds.take k).length = k := by rw [List.length_take]; omega
  have hc : (ltsCells (ds.take k)).length = k * 200 := by
    have := flat_length LtR.cells 200 (ds.take k) (fun d hd => d.cells_length (hw d (List.mem_of_mem_take hd)))
    rw [hl] at this
    exact this
  rw [hl]
  refine ⟨ao, c, rfl, by omega, h2, hc, ?_⟩
  rcases h4 with ⟨a1, a2, a3⟩ | ⟨g, o, a1, a2, a3⟩
  · exact Or.inl ⟨a1, by omega, a3⟩
  · refine Or.inr ⟨g, o, a1, a2, ?_⟩
    have e : ltsCells ds = ltsCells (ds.take k) ++ ltsCells (ds.drop k) := by
      unfold ltsCells
      rw [← List.flatMap_append, List.take_append_drop]
    rw [e] at a3
    intro j v hj
    exact a3 j v (by rw [List.getElem?_append_left (List.getElem?_eq_some_iff.1 hj).1]; exact hj)

set_option maxHeartbeats 4000000 in
theorem DetectFirst_any (va vb : Value) (tr wit : List LtR) (w : World) (wa : ∀ d ∈ tr, d.wf) (wb : ∀ d ∈ wit, d.wf) (ha : RdS w.heap.size w va tr.length 200 (ltsCells tr)) (hb : RdS w.heap.size w vb wit.length 200 (ltsCells wit)) :
    Calls Try.prog 4 #[va, vb] w (LawTrue w) := by
  have hla := ha.le; have hlb := hb.le
  obtain ⟨aa, ca, rfl⟩ := ha.shape
  obtain ⟨ab, cb, rfl⟩ := hb.shape
  have HA := Lib.hid ha; have HB := Lib.hid hb; have WA := Lib.hid wa; have WB := Lib.hid wb
  unfold maxLen at hla hlb
  clear ha hb wa wb
  go_enter Try.func4, Try.ntmps4
  go_wp2_with fail
  refine (few_ok _ tr w HA.out (Nat.le_refl _) WA.out).mono ?_
  rintro e w1 ⟨rfl, g1⟩
  have G1 := Lib.hid g1
  clear g1
  go_wp2_with fail
  refine (few_ok _ wit w1 (HB.out.grown G1.out) G1.out.size WB.out).mono ?_
  rintro e w2 ⟨rfl, g2⟩
  have G2 := Lib.hid (Lib.grownBy_trans G1.out g2)
  clear g2
  by_cases hc : fewL tr = true ∧ fewL wit = true ∧ tr.length ≠ 0
  · obtain ⟨h1, h2, h3⟩ := hc
    have hpos : 0 < tr.length := by omega
    have q0 : ((tr.length : Int) == 0) = false := by rw [beq_eq_false_iff_ne]; omega
    rw [h1, h2]
    clear h1 h2 h3
    go_wp2_with fail
    go_loopw [7, 8] (fun h i wr => ∃ k : Nat, 1 ≤ k ∧ k ≤ tr.length ∧ i = .int .i64 k ∧ h = .bool (riseK tr k) ∧ w.grownBy wr none) (fun _ i _ => tr.length - (intOf i).toNat)
    case atStart => exact ⟨1, Nat.le_refl _, hpos, rfl, rfl, G2.out⟩
    case round =>
      obtain ⟨k, hk1, hk, rfl, rfl, hg⟩ := hrel
      have Hg := Lib.hid hg
      by_cases hlt : k < tr.length
      · obtain ⟨j, hj⟩ : ∃ j, k = j + 1 := ⟨k - 1, by omega⟩
        have hs := riseK_succ tr j
        rw [← hj] at hs
        cases hb : riseK tr k with
        | false =>
          rw [hb, Bool.false_and] at hs
          have Hs := Lib.hid hs
          clear hg hs hj hb
          go_wp2_with fail
          go_quiet (fail)
          go_wp2_with fail
          exact ⟨⟨k + 1, by omega, by omega, by go_num, by rw [Hs.out], grown_draw Hg.out _⟩, by simp [intOf]; omega⟩
        | true =>
          rw [hb, Bool.true_and, hgt_at _ _ hlt, hgt_at _ _ (show j < tr.length by omega)] at hs
          obtain ⟨g, o, c, e, _, _, hgB, hr⟩ := HA.out.at_ hpos
          injection e with e1 e2 e3
          subst e1
          have a1 := LtR.height_at (LtR.elem (hr.grown hg (by simp)) WA.out k hlt)
          have a2 := LtR.height_at (LtR.elem (hr.grown hg (by simp)) WA.out j (by omega))
          obtain ⟨x, hx⟩ : ∃ x, tr[k].header.height = x := ⟨_, rfl⟩
          obtain ⟨y, hy⟩ : ∃ y, (tr[j]'(by omega)).header.height = y := ⟨_, rfl⟩
          rw [hx] at a1 hs; rw [hy] at a2 hs
          have ej : (k : Int) - 1 = (j : Int) := by omega
          have jl : (j : Int) < (tr.length : Int) := by omega
          have Hs := Lib.hid hs; have J0 := Lib.hid hj
          cases q : decide (y < x) with
          | true =>
            rw [q] at Hs
            clear hg hs hj hb hr hx hy e3
            go_wp2_with fail
            go_quiet (fail)
            go_wp2_with fail
            exact ⟨⟨k + 1, by omega, by omega, by go_num, by rw [Hs.out], grown_draw Hg.out _⟩, by simp [intOf]; omega⟩
          | false =>
            rw [q] at Hs
            clear hg hs hj hb hr hx hy e3
            go_wp2_with fail
            go_quiet (fail)
            go_wp2_with fail
            exact ⟨⟨k + 1, by omega, by omega, by go_num, by rw [Hs.out], grown_draw Hg.out _⟩, by simp [intOf]; omega⟩
      · obtain rfl : k = tr.length := by omega
        clear hg
        cases hb : riseK tr tr.length with
        | true =>
          have D := Diverge_ok (B := w.heap.size) _ _ tr tr wr (HA.out.grown Hg.out) (HA.out.grown Hg.out) Hg.out.size WA.out WA.out
          have hd := div_self tr (riseK_rise hb) (by intro h; rw [h] at hpos; simp at hpos)
          have hd1 := div_not tr tr (by rw [hd]; decide)
          unfold DivR at D
          rw [hd, hd1] at D
          have HD := Lib.hid D
          clear D hd hd1 hb
          go_wp2_with fail
          refine HD.out.mono ?_
          rintro e w3 ⟨rfl, g3⟩
          have G3 := Lib.hid (Lib.grownBy_trans Hg.out g3)
          clear g3 HD
          go_wp2_with fail
          have D := Diverge_ok (B := w.heap.size) _ _ tr wit w3 (HA.out.grown G3.out) (HB.out.grown G3.out) G3.out.size WA.out WB.out
          unfold DivR at D
          by_cases hc0 : (divL tr wit).2 = 0
          · obtain ⟨d1, dn, d2, d3, i0, hi0, d4, d5⟩ := div_ok tr wit hc0
            rw [hc0] at D
            obtain ⟨n, hn⟩ : ∃ n, (divL tr wit).1 = n := ⟨_, rfl⟩
            have hx0 : ∀ (h : n < tr.length), wit[i0].header.height = tr[n].header.height ∧ VEq wit[i0].header.cells tr[n].header.cells = false := by
              subst hn; exact fun _ => ⟨d4, d5⟩
            rw [hn] at D d1 dn d2 d3
            obtain ⟨e4, e5⟩ := hx0 dn
            have HD := Lib.hid D
            have HT1 := Lib.hid (rds_take HA.out rfl WA.out (show n ≤ tr.length by omega)); have HT2 := Lib.hid (rds_take HA.out rfl WA.out (show n + 1 ≤ tr.length by omega))
            have WT1 := Lib.hid (show ∀ d ∈ tr.take n, d.wf from fun d hd => WA.out d (List.mem_of_mem_take hd)); have WT2 := Lib.hid (show ∀ d ∈ tr.take (n + 1), d.wf from fun d hd => WA.out d (List.mem_of_mem_take hd))
            obtain ⟨g, o, c, e, hca, hcm, hgB, hr⟩ := HA.out.at_ hpos
            injection e with e1 e2 e3
            subst e1 e3
            have Hr := Lib.hid hr; have Dn := Lib.hid dn; have D1 := Lib.hid d1; have HP := Lib.hid hpos
            have xw := WA.out tr[n] (List.getElem_mem dn)
            have RX := Lib.hid (show ∀ W, w.grownBy W none → RowAt W g (o + n * 200) tr[n].cells from fun W gg => LtR.elem (hr.grown gg (by simp)) WA.out n dn)
            have TH := Lib.hid (thereK_all (wit := wit) (x := tr[n]) i0 hi0 e4 e5)
            obtain ⟨x, hx⟩ : ∃ x, tr[n] = x := ⟨_, rfl⟩
            rw [hx] at RX TH xw
            have Hxw := Lib.hid xw
            obtain ⟨m1, hm1⟩ : ∃ m, (divL (tr.take n) wit).1 = m := ⟨_, rfl⟩
            obtain ⟨m2, hm2⟩ : ∃ m, (divL (tr.take (n + 1)) wit).1 = m := ⟨_, rfl⟩
            have K1 := Lib.hid hm1; have K2 := Lib.hid hm2; have K3 := Lib.hid d2; have K4 := Lib.hid d3
            unfold maxLen at hcm
            have t1 : decide ((n : Int) < 1) = false := by simp; omega
            have t2 : decide (tr.length ≤ n) = false := by simp; omega
            have t3 : (n : Int) ≤ (ca : Int) := by omega
            have t4 : (n : Int) + 1 ≤ (ca : Int) := by omega
            have t5 : n ≤ ca := by omega
            have t6 : n + 1 ≤ ca := by omega
            clear D hc0 d1 dn d2 d3 hi0 d4 d5 e4 e5 hn hx0 hr hx xw hm1 hm2
            refine HD.out.mono ?_
            rintro e w4 ⟨rfl, g4⟩
            have G4 := Lib.hid (Lib.grownBy_trans G3.out g4)
            clear g4 HD G3
            go_wp2_with fail
            have P1 := Diverge_ok (B := w.heap.size) _ _ (tr.take n) wit w4 (HT1.out.grown G4.out) (HB.out.grown G4.out) G4.out.size WT1.out WB.out
            unfold DivR at P1
            rw [K1.out, K3.out] at P1
            refine P1.mono ?_
            rintro e w5 ⟨rfl, g5⟩
            have G5 := Lib.hid (Lib.grownBy_trans G4.out g5)
            clear g5 P1 G4
            go_wp2_with fail
            have P2 := Diverge_ok (B := w.heap.size) _ _ (tr.take (n + 1)) wit w5 (HT2.out.grown G5.out) (HB.out.grown G5.out) G5.out.size WT2.out WB.out
            unfold DivR at P2
            rw [K2.out, K4.out] at P2
            refine P2.mono ?_
            rintro e w6 ⟨rfl, g6⟩
            have G6 := Lib.hid (Lib.grownBy_trans G5.out g6)
            clear g6 P2 G5 t1 t2 t3 t4 t5 t6
            go_wp2_with fail
            go_loopw [17, 18] (fun h i wr => ∃ k : Nat, k ≤ wit.length ∧ i = .int .i64 k ∧ h = .bool (thereK wit x k) ∧ w.grownBy wr none) (fun _ i _ => wit.length - (intOf i).toNat)
            case atStart => exact ⟨0, Nat.zero_le _, rfl, by simp [thereK], G6.out⟩
            case round =>
              obtain ⟨k, hk, rfl, rfl, hg2⟩ := hrel
              have Hg2 := Lib.hid hg2
              by_cases hlt : k < wit.length
              · have hs := thereK_succ wit x k hlt
                cases hb : thereK wit x k with
                | true =>
                  rw [hb, Bool.true_or] at hs
                  have Hs := Lib.hid hs
                  clear hg2 hs hb
                  go_wp2_with fail
                  go_quiet (fail)
                  go_wp2_with fail
                  exact ⟨⟨k + 1, by omega, by go_num, by rw [Hs.out], grown_draw Hg2.out _⟩, by simp [intOf]; omega⟩
                | false =>
                  rw [hb, Bool.false_or] at hs
                  obtain ⟨gw, ow, cw, e, _, _, hgw, hrw⟩ := HB.out.at_ (by omega)
                  injection e with e1 e2 e3
                  subst e1 e3
                  have ry := LtR.elem (hrw.grown hg2 (by simp)) WB.out k hlt
                  have yw := WB.out wit[k] (List.getElem_mem hlt)
                  have rx := RX.out _ hg2
                  obtain ⟨y, hy⟩ : ∃ y, wit[k] = y := ⟨_, rfl⟩
                  rw [hy] at ry yw hs
                  have a1 := LtR.height_at ry; have a2 := LtR.height_at rx
                  have nl : (n : Int) < (tr.length : Int) := by have := Dn.out; omega
                  have kl : (k : Int) < (wit.length : Int) := by omega
                  have Hs := Lib.hid hs; have Hyw := Lib.hid yw
                  have RY := Lib.hid (LtR.header_at ry yw); have RXX := Lib.hid (LtR.header_at rx Hxw.out)
                  cases q : (y.header.height == x.header.height) with
                  | false =>
                    have E := Lib.hid (show thereK wit x (k + 1) = false by
                      rw [Hs.out, show decide (y.header.height = x.header.height) = false by simpa using q]; rfl)
                    clear hg2 hs hb hrw ry yw rx hy
                    go_wp2_with fail
                    go_quiet (fail)
                    go_wp2_with fail
                    exact ⟨⟨k + 1, by omega, by go_num, by rw [E.out], grown_draw Hg2.out _⟩, by simp [intOf]; omega⟩
                  | true =>
                    have E := Lib.hid (show thereK wit x (k + 1) = !VEq y.header.cells x.header.cells by
                      rw [Hs.out, show decide (y.header.height = x.header.height) = true by simpa using q]; rfl)
                    clear hg2 hs hb hrw ry yw rx hy
                    go_wp2_with fail
                    refine wp_region_quiet_lit (by kernel_rfl) (by kernel_rfl) ?_
                    iterate 20 (quiet_step (fail))
                    refine q_load_part rfl 32 _ rfl gw (ow + k * 200) rfl y.header.cells _ RY.out Try.underlying32 rfl (y.header.size Hyw.out.header) ?_
                    iterate 4 (quiet_step (fail))
                    refine q_load_part rfl 32 _ rfl g (o + n * 200) rfl x.header.cells _ RXX.out Try.underlying32 rfl (x.header.size Hxw.out.header) ?_
                    refine q_neq_flat rfl 32 _ _ _ rfl y.header.cells x.header.cells kHead rfl rfl head_flat (y.header.fit Hyw.out.header) (x.header.fit Hxw.out.header) rfl (by kernel_rfl) ?_
                    iterate 3 (quiet_step (fail))
                    refine wpQuiet_nil ?_
                    intro _ hw'
                    obtain ⟨nq, hw''⟩ := hw'
                    subst hw''
                    go_wp2_with fail
                    exact ⟨⟨k + 1, by omega, by go_num, by rw [E.out], grown_draw Hg2.out _⟩, by simp [intOf]; omega⟩
              · obtain rfl : k = wit.length := by omega
                rw [TH.out]
                clear hg2
                go_wp2_with fail
                refine (alive17_ok _).mono ?_
                rintro e w8 ⟨rfl, g8⟩
                have G8 := Lib.hid (Lib.grownBy_trans Hg2.out g8)
                clear g8
                go_wp2_with fail
                go_ret
                exact ⟨rfl, below_of_grown' G8.out⟩
          · have hn := div_not tr wit hc0
            rw [hn] at D
            obtain ⟨c, hc⟩ : ∃ c, (divL tr wit).2 = c := ⟨_, rfl⟩
            rw [hc] at D hc0
            have HD := Lib.hid D
            have t1 : (c == 0) = false := by simpa using hc0
            have t2 : (c != 0) = true := by simpa using hc0
            clear D hn hc
            refine HD.out.mono ?_
            rintro e w4 ⟨rfl, g4⟩
            have G4 := Lib.hid (Lib.grownBy_trans G3.out g4)
            clear g4 HD
            go_wp2_with fail
            refine (alive17_ok _).mono ?_
            rintro e w8 ⟨rfl, g8⟩
            have G8 := Lib.hid (Lib.grownBy_trans G4.out g8)
            clear g8
            go_wp2_with fail
            go_ret
            exact ⟨rfl, below_of_grown' G8.out⟩
        | false =>
          have G3 := Lib.hid Hg.out
          clear hb
          obtain ⟨w3, hw3⟩ : ∃ w3, wr = w3 := ⟨_, rfl⟩
          subst hw3
          go_wp2_with fail
          have D := Diverge_ok (B := w.heap.size) _ _ tr wit wr (HA.out.grown G3.out) (HB.out.grown G3.out) G3.out.size WA.out WB.out
          unfold DivR at D
          by_cases hc0 : (divL tr wit).2 = 0
          · obtain ⟨d1, dn, d2, d3, i0, hi0, d4, d5⟩ := div_ok tr wit hc0
            rw [hc0] at D
            obtain ⟨n, hn⟩ : ∃ n, (divL tr wit).1 = n := ⟨_, rfl⟩
            have hx0 : ∀ (h : n < tr.length), wit[i0].header.height = tr[n].header.height ∧ VEq wit[i0].header.cells tr[n].header.cells = false := by
              subst hn; exact fun _ => ⟨d4, d5⟩
            rw [hn] at D d1 dn d2 d3
            obtain ⟨e4, e5⟩ := hx0 dn
            have HD := Lib.hid D
            have HT1 := Lib.hid (rds_take HA.out rfl WA.out (show n ≤ tr.length by omega)); have HT2 := Lib.hid (rds_take HA.out rfl WA.out (show n + 1 ≤ tr.length by omega))
            have WT1 := Lib.hid (show ∀ d ∈ tr.take n, d.wf from fun d hd => WA.out d (List.mem_of_mem_take hd)); have WT2 := Lib.hid (show ∀ d ∈ tr.take (n + 1), d.wf from fun d hd => WA.out d (List.mem_of_mem_take hd))
            obtain ⟨g, o, c, e, hca, hcm, hgB, hr⟩ := HA.out.at_ hpos
            injection e with e1 e2 e3
            subst e1 e3
            have Hr := Lib.hid hr; have Dn := Lib.hid dn; have D1 := Lib.hid d1; have HP := Lib.hid hpos
            have xw := WA.out tr[n] (List.getElem_mem dn)
            have RX := Lib.hid (show ∀ W, w.grownBy W none → RowAt W g (o + n * 200) tr[n].cells from fun W gg => LtR.elem (hr.grown gg (by simp)) WA.out n dn)
            have TH := Lib.hid (thereK_all (wit := wit) (x := tr[n]) i0 hi0 e4 e5)
            obtain ⟨x, hx⟩ : ∃ x, tr[n] = x := ⟨_, rfl⟩
            rw [hx] at RX TH xw
            have Hxw := Lib.hid xw
            obtain ⟨m1, hm1⟩ : ∃ m, (divL (tr.take n) wit).1 = m := ⟨_, rfl⟩
            obtain ⟨m2, hm2⟩ : ∃ m, (divL (tr.take (n + 1)) wit).1 = m := ⟨_, rfl⟩
            have K1 := Lib.hid hm1; have K2 := Lib.hid hm2; have K3 := Lib.hid d2; have K4 := Lib.hid d3
            unfold maxLen at hcm
            have t1 : decide ((n : Int) < 1) = false := by simp; omega
            have t2 : decide (tr.length ≤ n) = false := by simp; omega
            have t3 : (n : Int) ≤ (ca : Int) := by omega
            have t4 : (n : Int) + 1 ≤ (ca : Int) := by omega
            have t5 : n ≤ ca := by omega
            have t6 : n + 1 ≤ ca := by omega
            clear D hc0 d1 dn d2 d3 hi0 d4 d5 e4 e5 hn hx0 hr hx xw hm1 hm2
            refine HD.out.mono ?_
            rintro e w4 ⟨rfl, g4⟩
            have G4 := Lib.hid (Lib.grownBy_trans G3.out g4)
            clear g4 HD G3
            go_wp2_with fail
            have P1 := Diverge_ok (B := w.heap.size) _ _ (tr.take n) wit w4 (HT1.out.grown G4.out) (HB.out.grown G4.out) G4.out.size WT1.out WB.out
            unfold DivR at P1
            rw [K1.out, K3.out] at P1
            refine P1.mono ?_
            rintro e w5 ⟨rfl, g5⟩
            have G5 := Lib.hid (Lib.grownBy_trans G4.out g5)
            clear g5 P1 G4
            go_wp2_with fail
            have P2 := Diverge_ok (B := w.heap.size) _ _ (tr.take (n + 1)) wit w5 (HT2.out.grown G5.out) (HB.out.grown G5.out) G5.out.size WT2.out WB.out
            unfold DivR at P2
            rw [K2.out, K4.out] at P2
            refine P2.mono ?_
            rintro e w6 ⟨rfl, g6⟩
            have G6 := Lib.hid (Lib.grownBy_trans G5.out g6)
            clear g6 P2 G5 t1 t2 t3 t4 t5 t6
            go_wp2_with fail
            go_loopw [17, 18] (fun h i wr => ∃ k : Nat, k ≤ wit.length ∧ i = .int .i64 k ∧ h = .bool (thereK wit x k) ∧ w.grownBy wr none) (fun _ i _ => wit.length - (intOf i).toNat)
            case atStart => exact ⟨0, Nat.zero_le _, rfl, by simp [thereK], G6.out⟩
            case round =>
              obtain ⟨k, hk, rfl, rfl, hg2⟩ := hrel
              have Hg2 := Lib.hid hg2
              by_cases hlt : k < wit.length
              · have hs := thereK_succ wit x k hlt
                cases hb : thereK wit x k with
                | true =>
                  rw [hb, Bool.true_or] at hs
                  have Hs := Lib.hid hs
                  clear hg2 hs hb
                  go_wp2_with fail
                  go_quiet (fail)
                  go_wp2_with fail
                  exact ⟨⟨k + 1, by omega, by go_num, by rw [Hs.out], grown_draw Hg2.out _⟩, by simp [intOf]; omega⟩
                | false =>
                  rw [hb, Bool.false_or] at hs
                  obtain ⟨gw, ow, cw, e, _, _, hgw, hrw⟩ := HB.out.at_ (by omega)
                  injection e with e1 e2 e3
                  subst e1 e3
                  have ry := LtR.elem (hrw.grown hg2 (by simp)) WB.out k hlt
                  have yw := WB.out wit[k] (List.getElem_mem hlt)
                  have rx := RX.out _ hg2
                  obtain ⟨y, hy⟩ : ∃ y, wit[k] = y := ⟨_, rfl⟩
                  rw [hy] at ry yw hs
                  have a1 := LtR.height_at ry; have a2 := LtR.height_at rx
                  have nl : (n : Int) < (tr.length : Int) := by have := Dn.out; omega
                  have kl : (k : Int) < (wit.length : Int) := by omega
                  have Hs := Lib.hid hs; have Hyw := Lib.hid yw
                  have RY := Lib.hid (LtR.header_at ry yw); have RXX := Lib.hid (LtR.header_at rx Hxw.out)
                  cases q : (y.header.height == x.header.height) with
                  | false =>
                    have E := Lib.hid (show thereK wit x (k + 1) = false by
                      rw [Hs.out, show decide (y.header.height = x.header.height) = false by simpa using q]; rfl)
                    clear hg2 hs hb hrw ry yw rx hy
                    go_wp2_with fail
                    go_quiet (fail)
                    go_wp2_with fail
                    exact ⟨⟨k + 1, by omega, by go_num, by rw [E.out], grown_draw Hg2.out _⟩, by simp [intOf]; omega⟩
                  | true =>
                    have E := Lib.hid (show thereK wit x (k + 1) = !VEq y.header.cells x.header.cells by
                      rw [Hs.out, show decide (y.header.height = x.header.height) = true by simpa using q]; rfl)
                    clear hg2 hs hb hrw ry yw rx hy
                    go_wp2_with fail
                    refine wp_region_quiet_lit (by kernel_rfl) (by kernel_rfl) ?_
                    iterate 20 (quiet_step (fail))
                    refine q_load_part rfl 32 _ rfl gw (ow + k * 200) rfl y.header.cells _ RY.out Try.underlying32 rfl (y.header.size Hyw.out.header) ?_
                    iterate 4 (quiet_step (fail))
                    refine q_load_part rfl 32 _ rfl g (o + n * 200) rfl x.header.cells _ RXX.out Try.underlying32 rfl (x.header.size Hxw.out.header) ?_
                    refine q_neq_flat rfl 32 _ _ _ rfl y.header.cells x.header.cells kHead rfl rfl head_flat (y.header.fit Hyw.out.header) (x.header.fit Hxw.out.header) rfl (by kernel_rfl) ?_
                    iterate 3 (quiet_step (fail))
                    refine wpQuiet_nil ?_
                    intro _ hw'
                    obtain ⟨nq, hw''⟩ := hw'
                    subst hw''
                    go_wp2_with fail
                    exact ⟨⟨k + 1, by omega, by go_num, by rw [E.out], grown_draw Hg2.out _⟩, by simp [intOf]; omega⟩
              · obtain rfl : k = wit.length := by omega
                rw [TH.out]
                clear hg2
                go_wp2_with fail
                refine (alive17_ok _).mono ?_
                rintro e w8 ⟨rfl, g8⟩
                have G8 := Lib.hid (Lib.grownBy_trans Hg2.out g8)
                clear g8
                go_wp2_with fail
                go_ret
                exact ⟨rfl, below_of_grown' G8.out⟩
          · have hn := div_not tr wit hc0
            rw [hn] at D
            obtain ⟨c, hc⟩ : ∃ c, (divL tr wit).2 = c := ⟨_, rfl⟩
            rw [hc] at D hc0
            have HD := Lib.hid D
            have t1 : (c == 0) = false := by simpa using hc0
            have t2 : (c != 0) = true := by simpa using hc0
            clear D hn hc
            refine HD.out.mono ?_
            rintro e w4 ⟨rfl, g4⟩
            have G4 := Lib.hid (Lib.grownBy_trans G3.out g4)
            clear g4 HD
            go_wp2_with fail
            refine (alive17_ok _).mono ?_
            rintro e w8 ⟨rfl, g8⟩
            have G8 := Lib.hid (Lib.grownBy_trans G4.out g8)
            clear g8
            go_wp2_with fail
            go_ret
            exact ⟨rfl, below_of_grown' G8.out⟩
  · cases h1 : fewL tr with
    | false =>
      clear hc
      go_wp2_with fail
      refine (alive17_ok _).mono ?_
      rintro e w8 ⟨rfl, g8⟩
      have G8 := Lib.hid (Lib.grownBy_trans G2.out g8)
      clear g8
      go_wp2_with fail
      go_ret
      exact ⟨rfl, below_of_grown' G8.out⟩
    | true =>
      cases h2 : fewL wit with
      | false =>
        clear hc
        go_wp2_with fail
        refine (alive17_ok _).mono ?_
        rintro e w8 ⟨rfl, g8⟩
        have G8 := Lib.hid (Lib.grownBy_trans G2.out g8)
        clear g8
        go_wp2_with fail
        go_ret
        exact ⟨rfl, below_of_grown' G8.out⟩
      | true =>
        have h3 : tr.length = 0 := by
          rcases Nat.eq_zero_or_pos tr.length with h | h
          · exact h
          · exact absurd ⟨h1, h2, by omega⟩ hc
        have q0 : ((tr.length : Int) == 0) = true := by rw [beq_iff_eq]; omega
        clear hc h3
        go_wp2_with fail
        refine (alive17_ok _).mono ?_
        rintro e w8 ⟨rfl, g8⟩
        have G8 := Lib.hid (Lib.grownBy_trans G2.out g8)
        clear g8
        go_wp2_with fail
        go_ret
        exact ⟨rfl, below_of_grown' G8.out⟩

end Go.Proofs.Ytdegpapeanjboaa
