/- Walk: nunciolaw16.BisectChain. -/
import Derived.Test.YtdhchehagfmjcaaGreatDoorBq
namespace Go.Proofs.YtdhchehagfmjcaaGreatDoor
open Go.RowKit
set_option maxRecDepth 100000

/-- what a round of the law shows -/
theorem chain_step {now : Nat} {c : BcD} {l : LightD} (hs : c.store ≠ []) (ho : c.o = opt16) (j : Nat) (h1 : c.store.length ≤ j) (h2 : j < (c.give l now).1.store.length) :
    ∃ h3 : j - 1 < (c.give l now).1.store.length, vstepL ((c.give l now).1.store[j - 1]) ((c.give l now).1.store[j]) now opt16 = 0 ∧ ¬ ((c.give l now).1.store[j]).header.height ≤ ((c.give l now).1.store[j - 1]).header.height := by
  have hp := List.length_pos_iff.2 hs
  obtain ⟨_, _, st⟩ := give_keeps hs l now
  have h := st j h1 (by omega) h2
  rw [ho] at h
  have k := (step_0 h).1
  unfold hL at k
  exact ⟨by omega, h, by omega⟩
set_option maxHeartbeats 4000000 in
theorem BisectChain_any (v : Value) (xs : List LtR) (sv : Value) (s : List ActD) (w0 : World) (hx : Came w0 v xs) (hs : RdS w0.heap.size w0 sv s.length 4 (actsCells s)) (hsw : ∀ a ∈ s, a.wf) (hR : RowAt w0 1 0 (wCells rootsL)) :
    Calls Tryz.prog 9 #[v, sv] w0 fun e w' => e = .returned (.bool true) ∧ w0.grownBy w' none := by
  have O := OwF.start (fun _ => False) w0
  have CA := Lib.hid (fun w (g : w0.grownBy w none) => alive16_ok w (hR.grown g (by simp)))
  have HXA := Lib.hid (fun k hk => lts_at hx.row hx.wf k hk)
  have HX := Lib.hid hx; have HR := Lib.hid hR
  have CG := Lib.hid (fun (a : ActD) (ha : a.wf) (z : Int) w (g : w0.grownBy w none) => given_ok a v xs z w (hx.row.grown g) hx.wf ha)
  have HSA := Lib.hid (fun k hk => acts_at hs k hk)
  have HSW := Lib.hid hsw
  have CF := few_ok v xs w0 hx.row hx.wf
  have COP := Lib.hid (fun w => options_ok w)
  obtain ⟨ao, cp, rfl, hle, hcm, _, _⟩ := hx.row
  unfold maxLen at hcm
  obtain ⟨N, hN⟩ : ∃ n, xs.length = n := ⟨_, rfl⟩
  rw [hN] at hle CG
  rw [hN]
  have HN := Lib.hid hN
  obtain ⟨bo, dp, rfl, hle2, hcm2, _, _⟩ := hs
  unfold maxLen at hcm2
  obtain ⟨M, hM⟩ : ∃ n, s.length = n := ⟨_, rfl⟩
  rw [hM] at hle2
  rw [hM]
  have HM := Lib.hid hM
  obtain ⟨q, hq⟩ : ∃ q, (decide (xs.length ≤ 14) && xs.all fewLt) = q := ⟨_, rfl⟩
  rw [hq] at CF
  have HFIT : Hid (q = true → ∀ x ∈ xs, ∃ l, x.of w0.heap.size w0 l ∧ l.fit) := Lib.hid (fun h => by
    rw [h, Bool.and_eq_true] at hq
    exact HX.out.fit hq.2)
  replace CF := Lib.hid CF
  rw [hN] at CF
  clear hx hsw hR hN hM hq
  go_enter Tryz.func9, Tryz.ntmps9
  go_wp2_with fail
  refine CF.out.mono ?_
  rintro e w ⟨rfl, g⟩
  replace O := O.call g
  clear g
  cases q with
  | false =>
    go_wp2_with fail
    refine (CA.out _ (O.tch.grown (fun _ h => h.elim))).mono ?_
    rintro e w ⟨rfl, g⟩
    replace O := O.call g
    clear g
    go_wp2_with fail
    go_ret
    exact ⟨rfl, O.tch.grown (fun _ h => h.elim)⟩
  | true =>
  replace HFIT := Lib.hid (HFIT.out (by trivial))
  rcases Nat.eq_zero_or_pos N with hN0 | hN0
  · subst hN0
    go_wp2_with fail
    refine (CA.out _ (O.tch.grown (fun _ h => h.elim))).mono ?_
    rintro e w ⟨rfl, g⟩
    replace O := O.call g
    clear g
    go_wp2_with fail
    go_ret
    exact ⟨rfl, O.tch.grown (fun _ h => h.elim)⟩
  rcases Nat.eq_zero_or_pos M with hM0 | hM0
  · subst hM0
    have hN1 : ¬ (N : Int) = 0 := by omega
    have hN2 : ¬ N = 0 := by omega
    have hN3 : ((N : Int) == 0) = false := by simpa using hN2
    clear hN0
    go_wp2_with fail
    refine (CA.out _ (O.tch.grown (fun _ h => h.elim))).mono ?_
    rintro e w ⟨rfl, g⟩
    replace O := O.call g
    clear g
    go_wp2_with fail
    go_ret
    exact ⟨rfl, O.tch.grown (fun _ h => h.elim)⟩
  have hN1 : ¬ (N : Int) = 0 := by omega
  have hN2 : ¬ N = 0 := by omega
  have hM1 : ¬ (M : Int) = 0 := by omega
  have hM2 : ¬ M = 0 := by omega
  have hN3 : ((N : Int) == 0) = false := by simpa using hN2
  have hM3 : ((M : Int) == 0) = false := by simpa using hM2
  have hkx : 0 < xs.length := by rw [HN.out]; exact hN0
  obtain ⟨g, o, c, hv, hgB, hrow⟩ := HXA.out 0 hkx
  have e1 := (Value.slice.inj hv).1
  subst e1
  rw [Nat.zero_mul, Nat.add_zero] at hrow
  obtain ⟨x, hx0⟩ : ∃ x, xs[0] = x := ⟨_, rfl⟩
  rw [hx0] at hrow
  obtain ⟨l0, hof, hfit⟩ := HFIT.out x (hx0 ▸ List.getElem_mem hkx)
  have XW := Lib.hid (hof.wf hfit.wf)
  have FX := Lib.hid hrow
  have hks : 0 < s.length := by rw [HM.out]; exact hM0
  obtain ⟨g2, o2, c2, hv2, hgB2, hrow2⟩ := HSA.out 0 hks
  have e2 := (Value.slice.inj hv2).1
  subst e2
  rw [Nat.zero_mul, Nat.add_zero] at hrow2
  obtain ⟨a0, ha0⟩ : ∃ x, s[0] = x := ⟨_, rfl⟩
  rw [ha0] at hrow2
  have ha0w : a0.wf := HSW.out a0 (ha0 ▸ List.getElem_mem hks)
  have F0 := Lib.hid (RowAt.one (hrow2 3 _ rfl))
  have CN := fun bq => Lib.hid (fun w (O : OwF (fun _ => False) w0 w [(bq, opt16.cells, 35)]) => kNew x l0 a0.now opt16 hof hfit ha0w.now opt16_wf HR.out O)
  have HS0 := Lib.hid (show (BcD.new l0 opt16).store.length + (BcD.new l0 opt16).pend.length ≤ 1 from Nat.le_refl _)
  obtain ⟨V, hV⟩ : ∃ z, bnewE l0 a0.now opt16 = z := ⟨_, rfl⟩
  rw [hV] at CN
  have hix : ¬ ((N : Int) ≤ 0) := by omega
  have hix2 : ¬ ((M : Int) ≤ 0) := by omega
  clear hrow hrow2 hof hfit ha0w hx0 ha0 hv hv2 hkx hks hV
  go_wp2_with fail
  refine (COP.out _).mono ?_
  rintro e w ⟨rfl, g⟩
  replace O := O.call g
  clear g
  go_upto_region 5 with (first | ((with_reducible refine @wpList_at _ _ _ _ _ _ _ (.alloc 35) rfl ?_); refine @wpList_of_alloc _ _ _ _ _ _ _ _ _ _ 35 rfl ZOpt ZOpt_info O rfl ?_; clear O; intro bq w O) | ((with_reducible refine @wpList_at _ _ _ _ _ _ _ (.store 35 (.tmp 6) (.tmp 31)) rfl ?_); refine @wpList_of_store _ _ _ _ _ _ _ _ _ _ 35 (.tmp 6) (.tmp 31) rfl O 0 bq rfl opt16.cells ZOpt _ rfl rfl rfl opt_one sizeOpt rfl ?_; clear O; intro w O; simp only [List.set_cons_zero] at O))
  replace CN := CN bq
  replace O := O.drew
  refine wp_region_J (rdf [(2, g, o, x.cells), (6, g2, (o2 + 3), [(.float .f64 a0.now)]), (7, bq, 0, opt16.cells)]) [8] (by kernel_rfl) (RdA.cons (FX.out.grown (O.tch.grown (fun _ h => h.elim)) (by simp)) (RdA.cons (F0.out.grown (O.tch.grown (fun _ h => h.elim)) (by simp)) (RdA.cons (O.row_of (g := bq) (T := 35) (by simp)) RdA.nil))) (fun hH => ?_)
  refine jp 0 ((.slice (some ⟨g, o, none⟩) N cp)) (Still.all hH) ?_
  simp only [Act.put, jq1, jq3, jq4, jq5, jq6]
  refine jp 1 ((.pointer (some ⟨g, o, none⟩))) (Still.all hH) ?_
  simp only [Act.put, jq1, jq2, jq3, jq4, jq5, jq6]
  refine jr 0 2 ((.agg (x.cells).toArray)) rfl rfl (yieldsIf_load_mid (by rfl) 31 _ rfl g o rfl x.cells _ (fun W h => h) Tryz.underlying31 rfl (sizeLt _ XW.out)) (Still.all hH) ?_
  simp only [Act.put, jq1, jq2, jq3, jq4, jq5, jq6]
  refine jp 3 ((.slice (some ⟨g2, o2, none⟩) M dp)) (Still.all hH) ?_
  simp only [Act.put, jq1, jq2, jq3, jq4, jq5, jq6]
  refine jp 4 ((.pointer (some ⟨g2, o2, none⟩))) (Still.all hH) ?_
  simp only [Act.put, jq1, jq2, jq3, jq4, jq5, jq6]
  refine jp 5 ((.pointer (some ⟨g2, o2 + 3, none⟩))) (Still.all hH) ?_
  simp only [Act.put, jq1, jq2, jq3, jq4, jq5, jq6]
  refine jr 1 6 ((.float .f64 a0.now)) rfl rfl (yields_cell (by rfl) 33 _ rfl g2 (o2 + 3) rfl (.float .f64 a0.now) _ (fun W h => h) Tryz.underlying33 rfl) (Still.all hH) ?_
  simp only [Act.put, jq1, jq2, jq3, jq4, jq5, jq6]
  refine jr 2 7 ((.agg (opt16.cells).toArray)) rfl rfl (yieldsIf_load_mid (by rfl) 35 _ rfl bq 0 rfl opt16.cells _ (fun W h => h) Tryz.underlying35 rfl sizeOpt) (Still.all hH) ?_
  simp only [Act.put, jq1, jq2, jq3, jq4, jq5, jq6]
  refine wpAnyJ_ready (rs := [8]) (by kernel_rfl) (by simp) ?_
  refine AllJ.turn rfl (by rfl) (by rfl) (fun K hK => ?_) (AllJ.nil)
  refine wp_call 35 _ _ (by rfl) (enters Tryz.func35 (by kernel_rfl) rfl) (by rfl) (CN.out _ O) ?_
  rintro e u ⟨P, rfl, g1, hN⟩
  refine ⟨_, rfl, ?_⟩
  have HK := Lib.hid hN
  clear hN
  replace O := O.call g1
  clear g1
  simp only [Act.put, jq1, jq2, jq3, jq4, jq5, jq6]
  refine hK.out _ _ (waits_all (by kernel_rfl)) ?_
  clear hK K hH
  refine jp 9 ((.tuple #[P, .int .i64 V])) (Still.none (by kernel_rfl)) ?_
  simp only [Act.put, jq1, jq2, jq3, jq4, jq5, jq6]
  refine jp 10 (P) (Still.none (by kernel_rfl)) ?_
  simp only [Act.put, jq1, jq2, jq3, jq4, jq5, jq6]
  refine jp 11 ((.int .i64 V)) (Still.none (by kernel_rfl)) ?_
  simp only [Act.put, jq1, jq2, jq3, jq4, jq5, jq6]
  refine jp 12 (P) (Still.none (by kernel_rfl)) ?_
  simp only [Act.put, jq1, jq2, jq3, jq4, jq5, jq6]
  refine jp 13 ((.int .i64 V)) (Still.none (by kernel_rfl)) ?_
  simp only [Act.put, jq1, jq2, jq3, jq4, jq5, jq6]
  refine wpAnyJ_done (by kernel_rfl) ?_ _
  clear hix hix2
  rcases HK.out with ⟨h1, rfl⟩ | ⟨h1, p, rfl, H⟩
  · have d1 : (V != 0) = true := by simpa using h1
    clear h1
    go_wp2_with fail
    refine (CA.out _ (O.tch.grown (fun _ h => h.elim))).mono ?_
    rintro e w ⟨rfl, g⟩
    replace O := O.call g
    clear g
    go_wp2_with fail
    go_ret
    exact ⟨rfl, O.tch.grown (fun _ h => h.elim)⟩
  subst h1
  clear O HK CN
  replace H := Lib.hid H
  go_wp2_with fail
  go_loopw [9] (fun i wr => ∃ (k : Nat) (c : BcD), 1 ≤ k ∧ k ≤ 40 ∧ k ≤ M ∧ i = .int .i64 k ∧ Kept16 125 w0 wr [(bq, opt16.cells, 35)] [] p c ∧ c.store.length + c.pend.length ≤ k ∧ c.o = opt16) (fun i _ => 41 - (intOf i).toNat)
  case atStart => exact ⟨1, _, Nat.le_refl _, by omega, hM0, rfl, H.out, HS0.out, rfl⟩
  case round =>
    clear H HS0
    obtain ⟨k, c0, hk1, hk40, hkM, rfl, hH, htot, hopt⟩ := hrel
    have H := Lib.hid hH; have HT := Lib.hid htot; have HOP := Lib.hid hopt
    clear hH htot hopt
    by_cases hlt : k < M
    case neg =>
      obtain rfl : k = M := by omega
      go_wp2_with fail
      refine (CA.out _ H.out.g).mono ?_
      rintro e w ⟨rfl, g⟩
      replace H := Lib.hid (H.out.grown g)
      clear g
      go_wp2_with fail
      go_ret
      exact ⟨rfl, H.out.g⟩
    by_cases h40 : k < 40
    case neg =>
      obtain rfl : k = 40 := by omega
      go_wp2_with fail
      refine (CA.out _ H.out.g).mono ?_
      rintro e w ⟨rfl, g⟩
      replace H := Lib.hid (H.out.grown g)
      clear g
      go_wp2_with fail
      go_ret
      exact ⟨rfl, H.out.g⟩
    have hks : k < s.length := by rw [HM.out]; exact hlt
    obtain ⟨g3, o3, c3, hv2, hgB2, hrow2⟩ := HSA.out k hks
    have e2 := (Value.slice.inj hv2).1
    injection e2 with e2
    injection e2 with e2a e2b _
    subst e2a e2b
    obtain ⟨a, ha⟩ : ∃ x, s[k] = x := ⟨_, rfl⟩
    rw [ha] at hrow2
    have HAW := Lib.hid (show a.wf from HSW.out a (ha ▸ List.getElem_mem hks))
    have FA := Lib.hid (hrow2.grown H.out.g (by simp))
    have CGa := Lib.hid (CG.out a HAW.out)
    have hix : ¬ ((M : Int) ≤ (k : Int)) := by omega
    clear hrow2 ha hv2 hks
    have O := H.out.O
    have FA := Lib.hid (fun u (t : Tch (fun b => ∃ e ∈ [(bq, opt16.cells, 35)], e.1 = b) wr u) => t.row FA.out (fun h => by obtain ⟨e, he, e1⟩ := h; have h1 := H.out.new e he; rw [e1] at h1; omega))
    go_wp2_with (first | ((with_reducible refine @wpList_at _ _ _ _ _ _ _ (.load 78 (.tmp 71)) rfl ?_); refine wpList_load_part rfl 78 _ rfl g2 ((o2 + k * 4)) rfl a.cells _ (FA.out _ O.tch) Tryz.underlying78 rfl (sizeAct a) ?_) | ((with_reducible refine @wpList_at _ _ _ _ _ _ _ (.alloc 78) rfl ?_); refine @wpList_of_alloc _ _ _ _ _ _ _ _ _ _ 78 rfl ZAct ZAct_info O rfl ?_; clear O; intro ba w O) | ((with_reducible refine @wpList_at _ _ _ _ _ _ _ (.store 78 (.tmp 10) (.tmp 72)) rfl ?_); refine @wpList_of_store _ _ _ _ _ _ _ _ _ _ 78 (.tmp 10) (.tmp 72) rfl O 0 ba rfl a.cells ZAct _ rfl rfl rfl (ActD_one a) (sizeAct a) rfl ?_; clear O; intro w O; simp only [List.set_cons_zero] at O))
    replace H := Lib.hid (H.out.move O)
    clear O
    have CS := Lib.hid (kStore H.out)
    clear H
    refine CS.out.mono ?_
    rintro e w1 ⟨a1, n1, k1, rfl, hn1, H1⟩
    have HN1 := Lib.hid hn1
    have H := Lib.hid H1
    have O := H1.O
    clear CS hn1 H1
    by_cases c1 : a.kind = 1
    · have d1 : (a.kind == 1) = true := by simpa using c1
      have CGo := Lib.hid (kGoal H.out a.n)
      have HG := Lib.hid (goal_total c0 a.n)
      have HGO := Lib.hid (goal_keeps c0 a.n).1
      clear H
      go_wp2_with (first | ((with_reducible refine @wpList_at _ _ _ _ _ _ _ (.load 3 (.tmp 75)) rfl ?_); refine @wpList_of_cell _ _ _ _ _ _ _ _ _ _ 3 (.tmp 75) rfl O 0 ba 0 rfl _ _ rfl _ rfl _ Tryz.underlying3 rfl rfl ?_) | ((with_reducible refine @wpList_at _ _ _ _ _ _ _ (.load 3 (.tmp 79)) rfl ?_); refine @wpList_of_cell _ _ _ _ _ _ _ _ _ _ 3 (.tmp 79) rfl O 0 ba 1 rfl _ _ rfl _ rfl _ Tryz.underlying3 rfl rfl ?_))
      refine CGo.out.mono ?_
      rintro e w ⟨rfl, H2⟩
      have H := Lib.hid H2
      clear H2 CGo
      go_wp2_with fail
      exact ⟨⟨k + 1, _, by omega, by omega, by omega, by go_num, H.out.rows0.tail, by have := HG.out; have := HT.out; omega, HGO.out.trans HOP.out⟩, by simp [intOf]; omega⟩
    have d1 : (a.kind == 1) = false := by simpa using c1
    go_upto_region 15 with (first | ((with_reducible refine @wpList_at _ _ _ _ _ _ _ (.load 3 (.tmp 75)) rfl ?_); refine @wpList_of_cell _ _ _ _ _ _ _ _ _ _ 3 (.tmp 75) rfl O 0 ba 0 rfl _ _ rfl _ rfl _ Tryz.underlying3 rfl rfl ?_))
    clear O
    have CW := Lib.hid (fun u (gg : w1.grownBy u none) => kWant (H.out.grown gg))
    have CGw := Lib.hid (fun u (gg : w1.grownBy u none) => CGa.out c0.want u (H.out.g.trans gg))
    have BA := Lib.hid (H.out.own _ (List.mem_cons_self)).row
    have O := OwF.start (fun _ => False) w1
    go_cut [12, 13] from 83 to 89 (fun s12 s13 w' => ∃ bx y b, s12 = .pointer (some ⟨bx, 0, none⟩) ∧ s13 = .bool b ∧ y.wf ∧ (b = true → y ∈ xs ∧ (a.kind ≠ 2 → y.header.height = c0.want)) ∧ Kept16 125 w0 w' [(ba, a.cells, 78), (bq, opt16.cells, 35), (bx, y.cells, 31)] [(.slice a1 n1 k1, c0.store)] p c0)
    case first =>
      replace O := O.drew
      refine wp_region_J (rdf [(0, ba, 0, a.cells)]) [3, 4, 8, 9] (by kernel_rfl) (RdA.cons (BA.out.grown (O.tch.grown (fun _ h => h.elim)) (by simp)) RdA.nil) (fun hH => ?_)
      refine jr 0 0 ((.agg (a.cells).toArray)) rfl rfl (yieldsIf_load_mid (by rfl) 78 _ rfl ba 0 rfl a.cells _ (fun W h => h) Tryz.underlying78 rfl (sizeAct a)) (Still.all hH) ?_
      simp only [Act.put, jq1, jq3, jq4, jq5, jq6]
      refine jp 1 ((.slice (some ⟨g, o, none⟩) N cp)) (Still.all hH) ?_
      simp only [Act.put, jq1, jq2, jq3, jq4, jq5, jq6]
      refine jp 2 ((.pointer (some ⟨p, 0, none⟩))) (Still.all hH) ?_
      simp only [Act.put, jq1, jq2, jq3, jq4, jq5, jq6]
      refine wpAnyJ_ready (rs := [3, 8]) (by kernel_rfl) (by simp) ?_
      refine AllJ.keep rfl (by rfl) (by rfl) (fun K hK => ?_) (AllJ.keep rfl (by rfl) (by rfl) (fun K hK => ?_) (AllJ.nil))
      · refine wp_call 39 _ _ (by rfl) (enters Tryz.func39 (by kernel_rfl) rfl) (by rfl) (CW.out _ (O.tch.grown (fun _ h => h.elim))) ?_
        rintro e u ⟨rfl, g1⟩
        refine ⟨_, rfl, ?_⟩
        replace O := O.call g1
        simp only [Act.put, jq1, jq2, jq3, jq4, jq5, jq6]
        refine hK.out _ _ (RdA.grown hH g1) ?_
        replace hH := RdA.grown hH g1
        clear hK K
        clear g1
        refine wpAnyJ_ready (rs := [4, 8]) (by kernel_rfl) (by simp) ?_
        refine AllJ.keep rfl (by rfl) (by rfl) (fun K hK => ?_) (AllJ.keep rfl (by rfl) (by rfl) (fun K hK => ?_) (AllJ.nil))
        · refine wp_call 38 _ _ (by rfl) (enters Tryz.func38 (by kernel_rfl) rfl) (by rfl) (CGw.out _ (O.tch.grown (fun _ h => h.elim))) ?_
          rintro e u ⟨g1, y, b, hyw, rfl, hyb⟩
          refine ⟨_, rfl, ?_⟩
          have YW := Lib.hid hyw; have HYB := Lib.hid hyb
          clear hyw hyb
          replace O := O.call g1
          simp only [Act.put, jq1, jq2, jq3, jq4, jq5, jq6]
          refine hK.out _ _ (RdA.grown hH g1) ?_
          replace hH := RdA.grown hH g1
          clear hK K
          clear g1
          refine jp 5 ((.tuple #[.agg y.cells.toArray, .bool b])) (Still.all hH) ?_
          simp only [Act.put, jq1, jq2, jq3, jq4, jq5, jq6]
          refine jp 6 ((.agg y.cells.toArray)) (Still.all hH) ?_
          simp only [Act.put, jq1, jq2, jq3, jq4, jq5, jq6]
          refine jp 7 ((.bool b)) (Still.all hH) ?_
          simp only [Act.put, jq1, jq2, jq3, jq4, jq5, jq6]
          refine wpAnyJ_ready (rs := [8]) (by kernel_rfl) (by simp) ?_
          refine AllJ.keep rfl (by rfl) (by rfl) (fun K hK => ?_) (AllJ.nil)
          refine wp_of_alloc 31 rfl ZLt0 ZLt0_info O ?_
          clear O
          intro bx u g1 O
          simp only [Act.put, jq1, jq2, jq3, jq4, jq5, jq6]
          refine hK.out _ _ (RdA.grown hH g1) ?_
          replace hH := RdA.grown hH g1
          clear hK K
          clear g1
          refine wpAnyJ_ready (rs := [9]) (by kernel_rfl) (by simp) ?_
          refine AllJ.turn rfl (by rfl) (by rfl) (fun K hK => ?_) (AllJ.nil)
          refine wp_of_store 31 _ _ rfl O 0 bx rfl y.cells ZLt0 _ rfl rfl (LtR.cells_length _ YW.out) (LtR_one _) (sizeLt _ YW.out) ?_
          clear O
          intro u O
          simp only [List.set_cons_zero] at O
          simp only [Act.put, jq1, jq2, jq3]
          refine hK.out _ _ (waits_all (by kernel_rfl)) ?_
          clear hK K hH
          refine jp 10 ((.bool b)) (Still.none (by kernel_rfl)) ?_
          simp only [Act.put, jq1, jq2, jq3, jq4, jq5, jq6]
          refine wpAnyJ_done (by kernel_rfl) ?_ _
          go_wp2
          go_meet
          case rel => exact ⟨bx, y, b, rfl, rfl, YW.out, HYB.out, H.out.joins O⟩
        · refine wp_of_alloc 31 rfl ZLt0 ZLt0_info O ?_
          clear O
          intro bx u g1 O
          simp only [Act.put, jq1, jq2, jq3, jq4, jq5, jq6]
          refine hK.out _ _ (RdA.grown hH g1) ?_
          replace hH := RdA.grown hH g1
          clear hK K
          clear g1
          refine wpAnyJ_ready (rs := [4]) (by kernel_rfl) (by simp) ?_
          refine AllJ.keep rfl (by rfl) (by rfl) (fun K hK => ?_) (AllJ.nil)
          refine wp_call 38 _ _ (by rfl) (enters Tryz.func38 (by kernel_rfl) rfl) (by rfl) (CGw.out _ (O.tch.grown (fun _ h => h.elim))) ?_
          rintro e u ⟨g1, y, b, hyw, rfl, hyb⟩
          refine ⟨_, rfl, ?_⟩
          have YW := Lib.hid hyw; have HYB := Lib.hid hyb
          clear hyw hyb
          replace O := O.call g1
          simp only [Act.put, jq1, jq2, jq3, jq4, jq5, jq6]
          refine hK.out _ _ (RdA.grown hH g1) ?_
          replace hH := RdA.grown hH g1
          clear hK K
          clear g1
          refine jp 5 ((.tuple #[.agg y.cells.toArray, .bool b])) (Still.all hH) ?_
          simp only [Act.put, jq1, jq2, jq3, jq4, jq5, jq6]
          refine jp 6 ((.agg y.cells.toArray)) (Still.all hH) ?_
          simp only [Act.put, jq1, jq2, jq3, jq4, jq5, jq6]
          refine jp 7 ((.bool b)) (Still.all hH) ?_
          simp only [Act.put, jq1, jq2, jq3, jq4, jq5, jq6]
          refine wpAnyJ_ready (rs := [9]) (by kernel_rfl) (by simp) ?_
          refine AllJ.turn rfl (by rfl) (by rfl) (fun K hK => ?_) (AllJ.nil)
          refine wp_of_store 31 _ _ rfl O 0 bx rfl y.cells ZLt0 _ rfl rfl (LtR.cells_length _ YW.out) (LtR_one _) (sizeLt _ YW.out) ?_
          clear O
          intro u O
          simp only [List.set_cons_zero] at O
          simp only [Act.put, jq1, jq2, jq3]
          refine hK.out _ _ (waits_all (by kernel_rfl)) ?_
          clear hK K hH
          refine jp 10 ((.bool b)) (Still.none (by kernel_rfl)) ?_
          simp only [Act.put, jq1, jq2, jq3]
          refine wpAnyJ_done (by kernel_rfl) ?_ _
          go_wp2
          go_meet
          case rel => exact ⟨bx, y, b, rfl, rfl, YW.out, HYB.out, H.out.joins O⟩
      · refine wp_of_alloc 31 rfl ZLt0 ZLt0_info O ?_
        clear O
        intro bx u g1 O
        simp only [Act.put, jq1, jq2, jq3, jq4, jq5, jq6]
        refine hK.out _ _ (RdA.grown hH g1) ?_
        replace hH := RdA.grown hH g1
        clear hK K
        clear g1
        refine wpAnyJ_ready (rs := [3]) (by kernel_rfl) (by simp) ?_
        refine AllJ.keep rfl (by rfl) (by rfl) (fun K hK => ?_) (AllJ.nil)
        refine wp_call 39 _ _ (by rfl) (enters Tryz.func39 (by kernel_rfl) rfl) (by rfl) (CW.out _ (O.tch.grown (fun _ h => h.elim))) ?_
        rintro e u ⟨rfl, g1⟩
        refine ⟨_, rfl, ?_⟩
        replace O := O.call g1
        simp only [Act.put, jq1, jq2, jq3, jq4, jq5, jq6]
        refine hK.out _ _ (RdA.grown hH g1) ?_
        replace hH := RdA.grown hH g1
        clear hK K
        clear g1
        refine wpAnyJ_ready (rs := [4]) (by kernel_rfl) (by simp) ?_
        refine AllJ.keep rfl (by rfl) (by rfl) (fun K hK => ?_) (AllJ.nil)
        refine wp_call 38 _ _ (by rfl) (enters Tryz.func38 (by kernel_rfl) rfl) (by rfl) (CGw.out _ (O.tch.grown (fun _ h => h.elim))) ?_
        rintro e u ⟨g1, y, b, hyw, rfl, hyb⟩
        refine ⟨_, rfl, ?_⟩
        have YW := Lib.hid hyw; have HYB := Lib.hid hyb
        clear hyw hyb
        replace O := O.call g1
        simp only [Act.put, jq1, jq2, jq3, jq4, jq5, jq6]
        refine hK.out _ _ (RdA.grown hH g1) ?_
        replace hH := RdA.grown hH g1
        clear hK K
        clear g1
        refine jp 5 ((.tuple #[.agg y.cells.toArray, .bool b])) (Still.all hH) ?_
        simp only [Act.put, jq1, jq2, jq3, jq4, jq5, jq6]
        refine jp 6 ((.agg y.cells.toArray)) (Still.all hH) ?_
        simp only [Act.put, jq1, jq2, jq3, jq4, jq5, jq6]
        refine jp 7 ((.bool b)) (Still.all hH) ?_
        simp only [Act.put, jq1, jq2, jq3, jq4, jq5, jq6]
        refine wpAnyJ_ready (rs := [9]) (by kernel_rfl) (by simp) ?_
        refine AllJ.turn rfl (by rfl) (by rfl) (fun K hK => ?_) (AllJ.nil)
        refine wp_of_store 31 _ _ rfl O 0 bx rfl y.cells ZLt0 _ rfl rfl (LtR.cells_length _ YW.out) (LtR_one _) (sizeLt _ YW.out) ?_
        clear O
        intro u O
        simp only [List.set_cons_zero] at O
        simp only [Act.put, jq1, jq2, jq3]
        refine hK.out _ _ (waits_all (by kernel_rfl)) ?_
        clear hK K hH
        refine jp 10 ((.bool b)) (Still.none (by kernel_rfl)) ?_
        simp only [Act.put, jq1, jq2, jq3, jq4, jq5, jq6]
        refine wpAnyJ_done (by kernel_rfl) ?_ _
        go_wp2
        go_meet
        case rel => exact ⟨bx, y, b, rfl, rfl, YW.out, HYB.out, H.out.joins O⟩
    clear O H CW CGw BA
    obtain ⟨bx, y, b, rfl, rfl, hyw, hyb, H⟩ := hcut
    have XW := Lib.hid hyw; have HYB := Lib.hid hyb
    have O := H.O
    replace H := Lib.hid H
    clear hyw hyb
    cases b with
    | false =>
      go_wp2_with (fail)
      exact ⟨⟨k + 1, c0, by omega, by omega, by omega, by go_num, H.out.rows0.only (by simp), Nat.le_succ_of_le HT.out, HOP.out⟩, by simp [intOf]; omega⟩
    | true =>
    by_cases c4 : a.kind = 4
    · have d4 : (a.kind == 4) = true := by simpa using c4
      go_wp2_with (first | ((with_reducible refine @wpList_at _ _ _ _ _ _ _ (.load 3 (.tmp 93)) rfl ?_); refine @wpList_of_cell _ _ _ _ _ _ _ _ _ _ 3 (.tmp 93) rfl O 0 ba 0 rfl _ _ rfl _ rfl _ Tryz.underlying3 rfl rfl ?_))
      exact ⟨⟨k + 1, c0, by omega, by omega, by omega, by go_num, H.out.rows0.only (by simp), Nat.le_succ_of_le HT.out, HOP.out⟩, by simp [intOf]; omega⟩
    have d4 : (a.kind == 4) = false := by simpa using c4
    obtain ⟨l, hof, hfit⟩ := HFIT.out y (HYB.out (by trivial)).1
    have CV := Lib.hid (kGive H.out y l hof hfit a.now HAW.out.now HR.out (by have := HT.out; omega))
    have HG := Lib.hid (give_total c0 l a.now)
    have HS := H.out.ok.some
    have HC := Lib.hid (fun j => chain_step (l := l) (now := a.now) HS HOP.out j)
    have HGK := Lib.hid (give_keeps HS l a.now)
    have HS2 := Lib.hid (List.length_pos_iff.2 HS)
    clear hof hfit HS
    go_wp2_with (first | ((with_reducible refine @wpList_at _ _ _ _ _ _ _ (.load 3 (.tmp 93)) rfl ?_); refine @wpList_of_cell _ _ _ _ _ _ _ _ _ _ 3 (.tmp 93) rfl O 0 ba 0 rfl _ _ rfl _ rfl _ Tryz.underlying3 rfl rfl ?_) | ((with_reducible refine @wpList_at _ _ _ _ _ _ _ (.load 31 (.tmp 12)) rfl ?_); refine @wpList_of_whole _ _ _ _ _ _ _ _ _ _ 31 (.tmp 12) rfl O 2 bx rfl y.cells _ rfl _ Tryz.underlying31 rfl (sizeLt _ XW.out) rfl ?_) | ((with_reducible refine @wpList_at _ _ _ _ _ _ _ (.load 33 (.tmp 99)) rfl ?_); refine @wpList_of_cell _ _ _ _ _ _ _ _ _ _ 33 (.tmp 99) rfl O 0 ba 3 rfl _ _ rfl _ rfl _ Tryz.underlying33 rfl rfl ?_))
    refine CV.out.mono ?_
    rintro e w2 ⟨rfl, H2⟩
    clear H O CV
    obtain ⟨c2, hc2⟩ : ∃ c2, (c0.give l a.now).1 = c2 := ⟨_, rfl⟩
    rw [hc2] at H2 HC HG HGK
    have CS2 := Lib.hid (kStore H2)
    clear H2 hc2
    go_wp2_with fail
    refine CS2.out.mono ?_
    rintro e w3 ⟨a2, n2, k2, rfl, hn2, H3⟩
    have H := Lib.hid H3; have HN2 := Lib.hid hn2
    clear H3 hn2 CS2
    obtain ⟨J2, r2⟩ := H.out.row 0 rfl
    obtain ⟨add, hadd⟩ := HGK.out.2.1
    have hlen : n1 ≤ n2 ∧ 1 ≤ n1 := by
      have q1 := HN1.out; have q2 := HN2.out; have q3 := HS2.out
      rw [hadd, List.length_append] at q2
      omega
    have htk : c2.store.take n1 = c0.store := by rw [hadd, HN1.out, List.take_left]
    obtain ⟨g9, o9, c9, y9, hv9, hc9, hcm9, hg9, r9, p9, i9, f9⟩ := r2.get 0 (by have := HN2.out; omega)
    have e9 := (Value.slice.inj hv9).1; have e8 := (Value.slice.inj hv9).2.2
    subst e9 e8
    have hle9 : n2 ≤ k2 := by have := HN2.out; omega
    unfold maxLen at hcm9
    have HTK := Lib.hid htk; have HLE := Lib.hid hle9
    have hn12 := hlen.1
    have hn12b : (n1 : Int) ≤ (n2 : Int) := by omega
    have hn12c : (n1 : Int) ≤ (k2 : Int) := by omega
    have hn12d : n1 ≤ k2 := by omega
    have hnl : ¬ (n2 : Int) < (n1 : Int) := by omega
    have hnl2 : ¬ n2 < n1 := by omega
    have hmax : max (n1 : Int) 1 = (n1 : Int) := by omega
    have CE : ∀ u, w3.grownBy u none → Calls Tryz.prog 41 #[.slice (some ⟨g9, o9, none⟩) n1 k2, .slice a1 n1 k1] u fun e w' => e = .returned (.bool true) ∧ u.grownBy w' none := fun u gg => by
      obtain ⟨J1, r1⟩ := (H.out.grown gg).row 0 rfl
      obtain ⟨J2, r2⟩ := (H.out.grown gg).row 1 rfl
      have hl := HN2.out
      rw [hl] at r1
      have r3 := r1.cut (m := n1) (by rw [← hl]; exact hn12)
      rw [HTK.out] at r3
      exact same_ok _ r3 r2
    have CE2 := Lib.hid (CE _ (gb_refl _))
    have HHN := Lib.hid hlen
    clear CE hv9 r2 r9 p9 i9 f9 y9 hc9 hg9 hlen htk hle9 hadd add
    go_wp2_with fail
    refine CE2.out.mono ?_
    rintro e w5 ⟨rfl, g⟩
    replace H := Lib.hid (H.out.grown g)
    clear g
    go_wp2_with fail
    have HB := Lib.hid H.out
    go_loopw [15] (fun i wr => ∃ (j : Nat), n1 ≤ j ∧ j ≤ n2 ∧ i = .int .i64 j ∧ w5.grownBy wr none) (fun i _ => n2 - (intOf i).toNat)
    case atStart => exact ⟨n1, Nat.le_refl _, hn12, rfl, gb_refl _⟩
    case round =>
      obtain ⟨j, hj1, hj2, rfl, hgj⟩ := hrel
      have H := Lib.hid (HB.out.grown hgj)
      have HWB := Lib.hid hgj
      clear HB hgj
      by_cases hjl : j < n2
      case neg =>
        obtain rfl : j = n2 := by omega
        go_wp2_with fail
        exact ⟨⟨k + 1, c2, by omega, by omega, by omega, by go_num, H.out.rows0.only (by simp), by have := HG.out; have := HT.out; omega, HGK.out.1.trans HOP.out⟩, by simp [intOf]; omega⟩
      obtain ⟨i, rfl⟩ : ∃ i, j = i + 1 := ⟨j - 1, by have := HHN.out; omega⟩
      obtain ⟨h3, hst, hht⟩ := HC.out (i + 1) (by rw [← HN1.out]; exact hj1) (by rw [← HN2.out]; exact hjl)
      obtain ⟨K2, r2⟩ := H.out.row 0 rfl
      have hk1x : i + 1 < c2.store.length := by rw [← HN2.out]; exact hjl
      obtain ⟨g8, o8, c8, x8, hv8, _, hm8, _, hrow8, hof8, _, hfit8⟩ := r2.get (i + 1) hk1x
      obtain ⟨g7, o7, c7, x7, hv7, _, _, _, hrow7, hof7, _, hfit7⟩ := r2.get (i + 1 - 1) h3
      have e8 := (Value.slice.inj hv8).1
      have e7 := (Value.slice.inj hv7).1
      injection e8 with e8; injection e7 with e7
      injection e8 with e8a e8b _; injection e7 with e7a e7b _
      subst e8a e8b e7a e7b
      have hi1 : i + 1 - 1 = i := rfl
      rw [hi1] at hrow7
      have XW := Lib.hid (hof8.wf hfit8.wf); have YW := Lib.hid (hof7.wf hfit7.wf)
      have F8 := Lib.hid hrow8; have F7 := Lib.hid hrow7
      have CP := Lib.hid (fun u (gg : wr.grownBy u none) => Step_ok x7 x8 _ _ a.now opt16 u hfit7.wf hfit8.wf (hof7.up gg (Nat.le_refl _)) (hof8.up gg (Nat.le_refl _)) HAW.out.now opt16_wf (by have := hfit8.seals; omega) (by have := hfit7.chain; unfold maxLen; omega) ((HR.out.grown H.out.g (by simp)).grown gg (by simp)))
      rw [hst] at CP
      have q8 : RowAt wr g9 (o9 + (i + 1) * 200 + 1) [.int .i64 (c2.store[i + 1]).header.height] := RowAt.one (by have := hrow8 1 _ rfl; rw [hof8.header] at this; exact this)
      have q7 : RowAt wr g9 (o9 + i * 200 + 1) [.int .i64 (c2.store[i + 1 - 1]).header.height] := RowAt.one (by have := hrow7 1 _ rfl; rw [hof7.header] at this; exact this)
      obtain ⟨A8, hA8⟩ : ∃ z, (c2.store[i + 1]).header.height = z := ⟨_, rfl⟩
      obtain ⟨A7, hA7⟩ : ∃ z, (c2.store[i + 1 - 1]).header.height = z := ⟨_, rfl⟩
      rw [hA8] at q8 hht; rw [hA7] at q7 hht
      have Q8 := Lib.hid q8; have Q7 := Lib.hid q7
      have BA := Lib.hid (H.out.own (ba, a.cells, 78) (by simp)).row
      have BO := Lib.hid (H.out.own (bq, opt16.cells, 35) (by simp)).row
      have BN := Lib.hid (RowAt.one (BA.out 3 _ rfl))
      have hlek := HLE.out
      have ew := IntWalk.i64_in (i : Int) (by omega)
      have hxan : ¬ n2 ≤ i + 1 := by omega
      have hnn1 : ¬ ((i : Int) + 1 < 0) := by omega
      have hnn2 : ¬ ((i : Int) < 0) := by omega
      have hxbn : ¬ n2 ≤ i := by omega
      have hsub : (((i + 1 : Nat) : Int) - 1) = (i : Int) := by omega
      have hsub2 : ((i : Int) + 1 - 1) = (i : Int) := by omega
      have hxa : ¬ ((n2 : Int) ≤ (i : Int) + 1) := by omega
      have hxb : ¬ ((n2 : Int) ≤ (i : Int)) := by omega
      have hdec : decide (A8 ≤ A7) = false := decide_eq_false (by omega)
      have O := OwF.start (fun _ => False) wr
      clear q8 q7 hA8 hA7 hrow8 hrow7 hof8 hof7 hfit8 hfit7 hv8 hv7 r2 h3 hst hi1 hk1x hm8
      go_upto_region 24 with (fail)
      replace O := O.drew
      refine wp_region_J (rdf [(4, g9, (o9 + i * 200), x7.cells), (8, g9, (o9 + (i + 1) * 200), x8.cells), (10, ba, 3, [(.float .f64 a.now)]), (11, bq, 0, opt16.cells), (20, g9, (o9 + (i + 1) * 200 + 1), [(.int .i64 A8)]), (27, g9, (o9 + i * 200 + 1), [(.int .i64 A7)])]) [12] (by kernel_rfl) (RdA.cons (F7.out.grown (O.tch.grown (fun _ h => h.elim)) (by simp)) (RdA.cons (F8.out.grown (O.tch.grown (fun _ h => h.elim)) (by simp)) (RdA.cons (BN.out.grown (O.tch.grown (fun _ h => h.elim)) (by simp)) (RdA.cons (BO.out.grown (O.tch.grown (fun _ h => h.elim)) (by simp)) (RdA.cons (Q8.out.grown (O.tch.grown (fun _ h => h.elim)) (by simp)) (RdA.cons (Q7.out.grown (O.tch.grown (fun _ h => h.elim)) (by simp)) RdA.nil)))))) (fun hH => ?_)
      refine jp 0 ((.slice (some ⟨g9, o9, none⟩) n2 k2)) (Still.all hH) ?_
      simp only [Act.put, jq1, jq4]
      refine jp 1 ((.int .i64 ((i + 1 : Nat) : Int))) (Still.all hH) ?_
      simp only [Act.put, jq1, jq3, jq4, jq5, jq6]
      refine jp 2 ((.int .i64 (i : Int))) (Still.all hH) ?_
      simp only [Act.put, jq1, jq2, jq3, jq4, jq5, jq6]
      refine jp 3 ((.pointer (some ⟨g9, o9 + i * 200, none⟩))) (Still.all hH) ?_
      simp only [Act.put, jq1, jq2, jq3, jq4, jq5, jq6]
      refine jr 0 4 ((.agg (x7.cells).toArray)) rfl rfl (yieldsIf_load_mid (by rfl) 31 _ rfl g9 (o9 + i * 200) rfl x7.cells _ (fun W h => h) Tryz.underlying31 rfl (sizeLt _ YW.out)) (Still.all hH) ?_
      simp only [Act.put, jq1, jq2, jq3, jq4, jq5, jq6]
      refine jp 5 ((.slice (some ⟨g9, o9, none⟩) n2 k2)) (Still.all hH) ?_
      simp only [Act.put, jq1, jq2, jq3, jq4, jq5, jq6]
      refine jp 6 ((.int .i64 ((i + 1 : Nat) : Int))) (Still.all hH) ?_
      simp only [Act.put, jq1, jq2, jq3, jq4, jq5, jq6]
      refine jp 7 ((.pointer (some ⟨g9, o9 + (i + 1) * 200, none⟩))) (Still.all hH) ?_
      simp only [Act.put, jq1, jq2, jq3, jq4, jq5, jq6]
      refine jr 1 8 ((.agg (x8.cells).toArray)) rfl rfl (yieldsIf_load_mid (by rfl) 31 _ rfl g9 (o9 + (i + 1) * 200) rfl x8.cells _ (fun W h => h) Tryz.underlying31 rfl (sizeLt _ XW.out)) (Still.all hH) ?_
      simp only [Act.put, jq1, jq2, jq3, jq4, jq5, jq6]
      refine jp 9 ((.pointer (some ⟨ba, 3, none⟩))) (Still.all hH) ?_
      simp only [Act.put, jq1, jq2, jq3, jq4, jq5, jq6]
      refine jr 2 10 ((.float .f64 a.now)) rfl rfl (yields_cell (by rfl) 33 _ rfl ba 3 rfl (.float .f64 a.now) _ (fun W h => h) Tryz.underlying33 rfl) (Still.all hH) ?_
      simp only [Act.put, jq1, jq2, jq3, jq4, jq5, jq6]
      refine jr 3 11 ((.agg (opt16.cells).toArray)) rfl rfl (yieldsIf_load_mid (by rfl) 35 _ rfl bq 0 rfl opt16.cells _ (fun W h => h) Tryz.underlying35 rfl sizeOpt) (Still.all hH) ?_
      simp only [Act.put, jq1, jq2, jq3, jq4, jq5, jq6]
      refine wpAnyJ_ready (rs := [12]) (by kernel_rfl) (by simp) ?_
      refine AllJ.keep rfl (by rfl) (by rfl) (fun K hK => ?_) (AllJ.nil)
      refine wp_call 17 _ _ (by rfl) (enters Tryz.func17 (by kernel_rfl) rfl) (by rfl) (CP.out _ (O.tch.grown (fun _ h => h.elim))) ?_
      rintro e u ⟨rfl, g1⟩
      refine ⟨_, rfl, ?_⟩
      replace O := O.call g1
      simp only [Act.put, jq1, jq2, jq3, jq4, jq5, jq6]
      refine hK.out _ _ (RdA.grown hH g1) ?_
      replace hH := RdA.grown hH g1
      clear hK K
      clear g1
      refine jp 13 ((.bool false)) (Still.all hH) ?_
      simp only [Act.put, jq1, jq2, jq3, jq4, jq5, jq6]
      refine jp 14 ((.bool false)) (Still.all hH) ?_
      simp only [Act.put, jq1, jq2, jq3, jq4, jq5, jq6]
      refine jp 15 ((.slice (some ⟨g9, o9, none⟩) n2 k2)) (Still.all hH) ?_
      simp only [Act.put, jq1, jq2, jq3, jq4, jq5, jq6]
      refine jp 16 ((.int .i64 ((i + 1 : Nat) : Int))) (Still.all hH) ?_
      simp only [Act.put, jq1, jq2, jq3, jq4, jq5, jq6]
      refine jp 17 ((.pointer (some ⟨g9, o9 + (i + 1) * 200, none⟩))) (Still.all hH) ?_
      simp only [Act.put, jq1, jq2, jq3, jq4, jq5, jq6]
      refine jp 18 ((.pointer (some ⟨g9, o9 + (i + 1) * 200, none⟩))) (Still.all hH) ?_
      simp only [Act.put, jq1, jq2, jq3, jq4, jq5, jq6]
      refine jp 19 ((.pointer (some ⟨g9, o9 + (i + 1) * 200 + 1, none⟩))) (Still.all hH) ?_
      simp only [Act.put, jq1, jq2, jq3, jq4, jq5, jq6]
      refine jr 4 20 ((.int .i64 A8)) rfl rfl (yields_cell (by rfl) 3 _ rfl g9 (o9 + (i + 1) * 200 + 1) rfl (.int .i64 A8) _ (fun W h => h) Tryz.underlying3 rfl) (Still.all hH) ?_
      simp only [Act.put, jq1, jq2, jq3, jq4, jq5, jq6]
      refine jp 21 ((.slice (some ⟨g9, o9, none⟩) n2 k2)) (Still.all hH) ?_
      simp only [Act.put, jq1, jq2, jq3, jq4, jq5, jq6]
      refine jp 22 ((.int .i64 ((i + 1 : Nat) : Int))) (Still.all hH) ?_
      simp only [Act.put, jq1, jq2, jq3, jq4, jq5, jq6]
      refine jp 23 ((.int .i64 (i : Int))) (Still.all hH) ?_
      simp only [Act.put, jq1, jq2, jq3, jq4, jq5, jq6]
      refine jp 24 ((.pointer (some ⟨g9, o9 + i * 200, none⟩))) (Still.all hH) ?_
      simp only [Act.put, jq1, jq2, jq3, jq4, jq5, jq6]
      refine jp 25 ((.pointer (some ⟨g9, o9 + i * 200, none⟩))) (Still.all hH) ?_
      simp only [Act.put, jq1, jq2, jq3, jq4, jq5, jq6]
      refine jp 26 ((.pointer (some ⟨g9, o9 + i * 200 + 1, none⟩))) (Still.all hH) ?_
      simp only [Act.put, jq1, jq2, jq3, jq4, jq5, jq6]
      refine jr 5 27 ((.int .i64 A7)) rfl rfl (yields_cell (by rfl) 3 _ rfl g9 (o9 + i * 200 + 1) rfl (.int .i64 A7) _ (fun W h => h) Tryz.underlying3 rfl) (Still.all hH) ?_
      simp only [Act.put, jq1, jq2, jq3, jq4, jq5, jq6]
      refine jp 28 ((.bool false)) (Still.all hH) ?_
      simp only [Act.put, jq1, jq2, jq3, jq4, jq5, jq6]
      refine jp 29 ((.bool false)) (Still.all hH) ?_
      simp only [Act.put, jq1, jq2, jq3, jq4, jq5, jq6]
      refine wpAnyJ_done (by kernel_rfl) ?_ _
      clear hH
      go_wp2_with fail
      exact ⟨⟨i + 1 + 1, by omega, by omega, by go_num, HWB.out.trans (O.tch.grown (fun _ h => h.elim))⟩, by simp [intOf]; omega⟩

end Go.Proofs.YtdhchehagfmjcaaGreatDoor
