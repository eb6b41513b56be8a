/- Walk: nunciolaw19.ClientShown. -/
import Derived.Test.YtbhghlendbcejaaGreatDoorClk
import Derived.Test.YtbhghlendbcejaaGreatDoorCle
import Derived.Test.YtbhghlendbcejaaGreatDoorRst
namespace Go.Proofs.YtbhghlendbcejaaGreatDoor
open Go.RowKit Go.Maps
set_option maxRecDepth 100000

theorem RowAt.cell0 {w : World} {g o : Nat} {v : Value} (h : RowAt w g o [v]) : w.cell? ⟨g, o, none⟩ = some v := by have := h 0 v rfl; rwa [Nat.add_zero] at this
def optS : OptD := ⟨4602678819172646912, 4652007308841189376, 4621819117588971520⟩
theorem optS_wf : optS.wf := ⟨by decide, by decide, by decide⟩
theorem bOptS : Tryz.prog.built 43 [(0, .float .f64 4602678819172646912), (1, .float .f64 4652007308841189376), (2, .float .f64 4621819117588971520)] = some optS.cells.toArray := by kernel_rfl
theorem kNew {w0 w : World} {L : List (Nat × List Value × TypeId)} (x : LtR) (l : LightD) (now : Nat) (o : OptD) (hof : x.of w0.heap.size w0 l) (hwf : l.wf) (hch : l.header.chain.size ≤ 140737488351232) (hnow : now < 18446744073709551616) (ho : o.wf) (hR : RowAt w0 1 0 (wCells rootsL)) (O : OwF (fun _ => False) w0 w L) :
    Calls Tryz.prog 11 #[.agg x.cells.toArray, .float .f64 now, .agg o.cells.toArray] w fun e w' => ∃ P, e = .returned (.tuple #[P, .int .i64 (cnewE l now o)]) ∧ w.grownBy w' none ∧
      ((cnewE l now o ≠ 0 ∧ P = .pointer none) ∨ (cnewE l now o = 0 ∧ ∃ p, P = .pointer (some ⟨p, 0, none⟩) ∧ Sep w0 w' L [clOne w0.heap.size p (ClD.new l o)])) := by
  have g0 : w0.grownBy w none := O.tch.grown (fun _ h => h.elim)
  refine (cNew_ok x l now o w (hof.up g0 (Nat.le_refl _)) hwf hch hnow ho (hR.grown g0 (by simp))).mono ?_
  rintro e w' ⟨g, P, rfl, h⟩
  refine ⟨P, rfl, g, h.imp id ?_⟩
  rintro ⟨h0, p, bm, I, z, rfl, r, h1, h2, h3⟩
  refine ⟨h0, p, rfl, (Sep.start O).add g (F := fun b => b = p ∨ b = bm ∨ I b) ⟨I, bm, z, r, fun b => Iff.rfl⟩ (fun b hb => ⟨?_, r.lies b hb⟩)⟩
  rcases hb with rfl | rfl | hb
  · exact h1
  · exact h2
  · exact h3 b hb
theorem root_len {c : ClD} (h : c.ok) (k : Int) : (c.root k).1.length = 32 := by
  unfold ClD.root
  split
  · rfl
  · rename_i a ha
    split
    · rfl
    · exact rootsAt_len (fun p hp => (h.roots p hp).1) ha
section
variable {w0 w : World} {L : List (Nat × List Value × TypeId)} {p q : Nat} {c d : ClD}
abbrev ofC (c : ClD) (k : Int) : Ending := .returned (.tuple #[.agg (Lib.byteCells (c.root k).1).toArray, .int .i64 (c.root k).2])
theorem kFrozen (h : Sep w0 w L [clOne w0.heap.size p c]) : Calls Tryz.prog 18 #[.pointer (some ⟨p, 0, none⟩)] w fun e w' => e = .returned (.bool c.cold) ∧ w.grownBy w' none := by
  obtain ⟨I, bm, x, r⟩ := h.cl 0 rfl
  exact cFrozen_ok r
theorem kFrozen1 (h : Sep w0 w L [clTwo w0.heap.size p c q d]) : Calls Tryz.prog 18 #[.pointer (some ⟨p, 0, none⟩)] w fun e w' => e = .returned (.bool c.cold) ∧ w.grownBy w' none := by
  obtain ⟨I, bm, x, r⟩ := h.cl1 0 rfl
  exact cFrozen_ok r
theorem kRoot1 (h : Sep w0 w L [clTwo w0.heap.size p c q d]) (k : Int) (hk : i64R k) : Calls Tryz.prog 23 #[.pointer (some ⟨p, 0, none⟩), .int .i64 k] w fun e w' => e = ofC c k ∧ w.grownBy w' none := by
  obtain ⟨I, bm, x, r⟩ := h.cl1 0 rfl
  exact cRoot_ok r k hk
theorem kRoot2 (h : Sep w0 w L [clTwo w0.heap.size p c q d]) (k : Int) (hk : i64R k) : Calls Tryz.prog 23 #[.pointer (some ⟨q, 0, none⟩), .int .i64 k] w fun e w' => e = ofC d k ∧ w.grownBy w' none := by
  obtain ⟨I, bm, x, r⟩ := h.cl2 0 rfl
  exact cRoot_ok r k hk
theorem kOk1 (h : Sep w0 w L [clTwo w0.heap.size p c q d]) : c.ok := by
  obtain ⟨I, bm, x, r⟩ := h.cl1 0 rfl
  exact r.ok
theorem kOk2 (h : Sep w0 w L [clTwo w0.heap.size p c q d]) : d.ok := by
  obtain ⟨I, bm, x, r⟩ := h.cl2 0 rfl
  exact r.ok
end
set_option maxHeartbeats 32000000 in
theorem ClientShown_any (v : Value) (xs : List LtR) (sv : Value) (s : List Act19) (w0 : World) (hx : Came w0 v xs) (hs : RdS w0.heap.size w0 sv s.length 7 (acts19Cells s)) (hsw : ∀ a ∈ s, a.at_ w0.heap.size w0) (hR : RowAt w0 1 0 (wCells rootsL)) :
    Calls Tryz.prog 4 #[v, sv] w0 fun e w' => e = .returned (.bool true) ∧ w0.grownBy w' none := by
  have O := OwF.start (fun _ => False) w0
  have CA := Lib.hid (fun w (g : w0.grownBy w none) => alive19_ok w (hR.grown g (by simp)))
  have HXA := Lib.hid (fun k hk => lts_at hx.row hx.wf k hk)
  have HX := Lib.hid hx; have HR := Lib.hid hR
  have CG := Lib.hid (fun (n0 : xs.length ≠ 0) (z : Int) (hz : i64R z) w (g : w0.grownBy w none) => at19_ok v xs z w (hx.row.grown g) hx.wf n0 hz)
  have HSA := Lib.hid (fun k hk => acts19_at hs k hk)
  have HSW := Lib.hid hsw
  have CF := few19_ok v xs w0 hx.row hx.wf
  obtain ⟨ao, cp, rfl, hle, hcm, _, _⟩ := hx.row
  unfold maxLen at hcm
  obtain ⟨N, hN⟩ : ∃ n, xs.length = n := ⟨_, rfl⟩
  rw [hN] at hle CG
  rw [hN]
  have HN := Lib.hid hN
  obtain ⟨bo, dp, rfl, hle2, hcm2, _, _⟩ := hs
  unfold maxLen at hcm2
  obtain ⟨M, hM⟩ : ∃ n, s.length = n := ⟨_, rfl⟩
  rw [hM] at hle2
  rw [hM]
  have HM := Lib.hid hM
  obtain ⟨q, hq⟩ : ∃ q, fewB xs = q := ⟨_, rfl⟩
  rw [hq] at CF
  have HFIT : Hid (q = true → N ≠ 0 ∧ ∀ x ∈ xs, ∃ l, x.of w0.heap.size w0 l ∧ l.fit) := Lib.hid (fun h => by
    rw [h] at hq
    unfold fewB at hq
    simp only [Bool.and_eq_true, decide_eq_true_eq] at hq
    exact ⟨hN ▸ hq.2.1, HX.out.fit hq.2.2⟩)
  replace CF := Lib.hid CF
  rw [hN] at CF
  clear hx hsw hR hN hM hq
  go_enter Tryz.func4, Tryz.ntmps4
  go_wp2_with fail
  refine CF.out.mono ?_
  rintro e w ⟨rfl, g⟩
  replace O := O.call g
  clear g
  cases q with
  | false =>
    go_wp2_with fail
    refine (CA.out _ (O.tch.grown (fun _ h => h.elim))).mono ?_
    rintro e w ⟨rfl, g⟩
    replace O := O.call g
    clear g
    go_wp2_with fail
    go_ret
    exact ⟨rfl, O.tch.grown (fun _ h => h.elim)⟩
  | true =>
  have hN0 := (HFIT.out (by trivial)).1
  replace HFIT := Lib.hid (HFIT.out (by trivial)).2
  rcases Nat.eq_zero_or_pos M with hM0 | hM0
  · subst hM0
    clear hN0
    go_wp2_with fail
    refine (CA.out _ (O.tch.grown (fun _ h => h.elim))).mono ?_
    rintro e w ⟨rfl, g⟩
    replace O := O.call g
    clear g
    go_wp2_with fail
    go_ret
    exact ⟨rfl, O.tch.grown (fun _ h => h.elim)⟩
  have hN0 : 0 < N := by omega
  have hM1 : ¬ (M : Int) = 0 := by omega
  have hM2 : ¬ M = 0 := by omega
  have hM3 : ((M : Int) == 0) = false := by simpa using hM2
  have hkx : 0 < xs.length := by rw [HN.out]; exact hN0
  obtain ⟨g, o, c, hv, hgB, hrow⟩ := HXA.out 0 hkx
  have e1 := (Value.slice.inj hv).1
  subst e1
  rw [Nat.zero_mul, Nat.add_zero] at hrow
  obtain ⟨x, hx0⟩ : ∃ x, xs[0] = x := ⟨_, rfl⟩
  rw [hx0] at hrow
  obtain ⟨l0, hof, hfit⟩ := HFIT.out x (hx0 ▸ List.getElem_mem hkx)
  have XW := Lib.hid (hof.wf hfit.wf)
  have FX := Lib.hid hrow
  have hks : 0 < s.length := by rw [HM.out]; exact hM0
  obtain ⟨g2, o2, c2, hv2, hgB2, hrow2⟩ := HSA.out 0 hks
  have e2 := (Value.slice.inj hv2).1
  subst e2
  rw [Nat.zero_mul, Nat.add_zero] at hrow2
  obtain ⟨a0, ha0⟩ : ∃ x, s[0] = x := ⟨_, rfl⟩
  rw [ha0] at hrow2
  have ha0w : a0.at_ w0.heap.size w0 := HSW.out a0 (ha0 ▸ List.getElem_mem hks)
  have F0 := Lib.hid (RowAt.one (hrow2 2 _ rfl))
  have CN := fun bq => Lib.hid (fun w (O : OwF (fun _ => False) w0 w [(bq, optS.cells, 43)]) => kNew x l0 a0.now optS hof hfit.wf hfit.chain ha0w.now optS_wf HR.out O)
  have HF0 := Lib.hid (show x.of w0.heap.size w0 (ClD.new l0 optS).front ∧ (ClD.new l0 optS).front.fit from ⟨hof, hfit⟩)
  have HC0 := Lib.hid (show (ClD.new l0 optS).roots.length ≤ 1 ∧ (ClD.new l0 optS).o = optS from ⟨Nat.le_refl _, rfl⟩)
  obtain ⟨V, hV⟩ : ∃ z, cnewE l0 a0.now optS = z := ⟨_, rfl⟩
  rw [hV] at CN
  replace CG := Lib.hid (CG.out (by omega))
  obtain ⟨c00, hc00⟩ : ∃ z, ClD.new l0 optS = z := ⟨_, rfl⟩
  rw [hc00] at CN HF0 HC0
  have hix : ¬ ((N : Int) ≤ 0) := by omega
  have hix2 : ¬ ((M : Int) ≤ 0) := by omega
  clear hrow hrow2 hof hfit ha0w hx0 ha0 hv hv2 hkx hks hV hc00
  go_upto_region 5 with (first | (refine wpList_build_eq rfl 43 _ rfl [(0, .float .f64 4602678819172646912), (1, .float .f64 4652007308841189376), (2, .float .f64 4621819117588971520)] (by kernel_rfl) optS.cells bOptS ?_) | ((with_reducible refine @wpList_at _ _ _ _ _ _ _ (.alloc 43) rfl ?_); refine @wpList_of_alloc _ _ _ _ _ _ _ _ _ _ 43 rfl ZOpt ZOpt_info O rfl ?_; clear O; intro bq w O) | ((with_reducible refine @wpList_at _ _ _ _ _ _ _ (.store 43 (.tmp 6) (.tmp 32)) rfl ?_); refine @wpList_of_store _ _ _ _ _ _ _ _ _ _ 43 (.tmp 6) (.tmp 32) rfl O 0 bq rfl optS.cells ZOpt _ rfl rfl rfl opt_one sizeOpt rfl ?_; clear O; intro w O; simp only [List.set_cons_zero] at O))
  replace CN := CN bq
  replace O := O.drew
  refine wp_region_J (rdf [(2, g, o, x.cells), (6, g2, (o2 + 2), [(.float .f64 a0.now)]), (7, bq, 0, optS.cells)]) [8] (by kernel_rfl) (RdA.cons (FX.out.grown (O.tch.grown (fun _ h => h.elim)) (by simp)) (RdA.cons (F0.out.grown (O.tch.grown (fun _ h => h.elim)) (by simp)) (RdA.cons (O.row_of (g := bq) (T := 43) (by simp)) RdA.nil))) (fun hH => ?_)
  refine jp 0 ((.slice (some ⟨g, o, none⟩) N cp)) (Still.all hH) ?_
  simp only [Act.put, jq1, jq3, jq4, jq5, jq6]
  refine jp 1 ((.pointer (some ⟨g, o, none⟩))) (Still.all hH) ?_
  simp only [Act.put, jq1, jq2, jq3, jq4, jq5, jq6]
  refine jr 0 2 ((.agg (x.cells).toArray)) rfl rfl (yieldsIf_load_mid (by rfl) 31 _ rfl g o rfl x.cells _ (fun W h => h) Tryz.underlying31 rfl (sizeLt _ XW.out)) (Still.all hH) ?_
  simp only [Act.put, jq1, jq2, jq3, jq4, jq5, jq6]
  refine jp 3 ((.slice (some ⟨g2, o2, none⟩) M dp)) (Still.all hH) ?_
  simp only [Act.put, jq1, jq2, jq3, jq4, jq5, jq6]
  refine jp 4 ((.pointer (some ⟨g2, o2, none⟩))) (Still.all hH) ?_
  simp only [Act.put, jq1, jq2, jq3, jq4, jq5, jq6]
  refine jp 5 ((.pointer (some ⟨g2, o2 + 2, none⟩))) (Still.all hH) ?_
  simp only [Act.put, jq1, jq2, jq3, jq4, jq5, jq6]
  refine jr 1 6 ((.float .f64 a0.now)) rfl rfl (yields_cell (by rfl) 41 _ rfl g2 (o2 + 2) rfl (.float .f64 a0.now) _ (fun W h => h) Tryz.underlying41 rfl) (Still.all hH) ?_
  simp only [Act.put, jq1, jq2, jq3, jq4, jq5, jq6]
  refine jr 2 7 ((.agg (optS.cells).toArray)) rfl rfl (yieldsIf_load_mid (by rfl) 43 _ rfl bq 0 rfl optS.cells _ (fun W h => h) Tryz.underlying43 rfl sizeOpt) (Still.all hH) ?_
  simp only [Act.put, jq1, jq2, jq3, jq4, jq5, jq6]
  refine wpAnyJ_ready (rs := [8]) (by kernel_rfl) (by simp) ?_
  refine AllJ.turn rfl (by rfl) (by rfl) (fun K hK => ?_) (AllJ.nil)
  refine wp_call 11 _ _ (by rfl) (enters Tryz.func11 (by kernel_rfl) rfl) (by rfl) (CN.out _ O) ?_
  rintro e u ⟨P, rfl, g1, hN⟩
  refine ⟨_, rfl, ?_⟩
  have HK := Lib.hid hN
  clear hN
  replace O := O.call g1
  clear g1
  simp only [Act.put, jq1, jq2, jq3, jq4, jq5, jq6]
  refine hK.out _ _ (waits_all (by kernel_rfl)) ?_
  clear hK K hH
  refine jp 9 ((.tuple #[P, .int .i64 V])) (Still.none (by kernel_rfl)) ?_
  simp only [Act.put, jq1, jq2, jq3, jq4, jq5, jq6]
  refine jp 10 (P) (Still.none (by kernel_rfl)) ?_
  simp only [Act.put, jq1, jq2, jq3, jq4, jq5, jq6]
  refine jp 11 ((.int .i64 V)) (Still.none (by kernel_rfl)) ?_
  simp only [Act.put, jq1, jq2, jq3, jq4, jq5, jq6]
  refine jp 12 (P) (Still.none (by kernel_rfl)) ?_
  simp only [Act.put, jq1, jq2, jq3, jq4, jq5, jq6]
  refine jp 13 ((.int .i64 V)) (Still.none (by kernel_rfl)) ?_
  simp only [Act.put, jq1, jq2, jq3, jq4, jq5, jq6]
  refine wpAnyJ_done (by kernel_rfl) ?_ _
  rcases HK.out with ⟨h1, rfl⟩ | ⟨h1, p, rfl, H⟩
  · have d1 : (V != 0) = true := by simpa using h1
    clear h1
    go_wp2_with fail
    refine (CA.out _ (O.tch.grown (fun _ h => h.elim))).mono ?_
    rintro e w ⟨rfl, g⟩
    replace O := O.call g
    clear g
    go_wp2_with fail
    go_ret
    exact ⟨rfl, O.tch.grown (fun _ h => h.elim)⟩
  subst h1
  clear O HK CN
  have FX2 := Lib.hid (FX.out.grown H.g (by simp))
  have O := H.O
  replace H := Lib.hid H
  go_wp2_with (first | ((with_reducible refine @wpList_at _ _ _ _ _ _ _ (.load 31 (.tmp 61)) rfl ?_); refine wpList_load_part rfl 31 _ rfl g (o) rfl x.cells _ FX2.out Tryz.underlying31 rfl (sizeLt _ XW.out) ?_) | ((with_reducible refine @wpList_at _ _ _ _ _ _ _ (.alloc 31) rfl ?_); refine @wpList_of_alloc _ _ _ _ _ _ _ _ _ _ 31 rfl ZLt0 ZLt0_info O rfl ?_; clear O; intro bf w O) | ((with_reducible refine @wpList_at _ _ _ _ _ _ _ (.store 31 (.tmp 9) (.tmp 62)) rfl ?_); refine @wpList_of_store _ _ _ _ _ _ _ _ _ _ 31 (.tmp 9) (.tmp 62) rfl O 0 bf rfl x.cells ZLt0 _ rfl rfl (LtR.cells_length _ XW.out) (LtR_one _) (sizeLt _ XW.out) rfl ?_; clear O; intro w O; simp only [List.set_cons_zero] at O))
  replace H := Lib.hid (H.out.move O)
  clear O
  clear FX2 hix hix2 hM1 hM2 hM3
  go_loopw [10] (fun i wr => ∃ (k : Nat) (c : ClD) (xf : LtR), 1 ≤ k ∧ k ≤ 30 ∧ k ≤ M ∧ i = .int .i64 k ∧ Sep w0 wr [(bf, xf.cells, 31), (bq, optS.cells, 43)] [clOne w0.heap.size p c] ∧ c.roots.length ≤ k ∧ c.o = optS ∧ xf.of w0.heap.size w0 c.front ∧ c.front.fit) (fun i _ => 31 - (intOf i).toNat)
  case atStart => exact ⟨1, _, x, Nat.le_refl _, by omega, hM0, rfl, H.out, HC0.out.1, HC0.out.2, HF0.out.1, HF0.out.2⟩
  case round =>
    clear H HC0 HF0 F0 FX XW
    obtain ⟨k, c, xf, hk1, hk30, hkM, rfl, hH, htot, hopt, hxf, hff⟩ := hrel
    have H := Lib.hid hH; have HT := Lib.hid htot; have HOP := Lib.hid hopt; have HXF := Lib.hid hxf; have HFF := Lib.hid hff
    have XFW := Lib.hid (hxf.wf hff.wf)
    clear hH htot hopt hxf hff
    by_cases hlt : k < M
    case neg =>
      obtain rfl : k = M := by omega
      go_wp2_with fail
      refine (CA.out _ H.out.g).mono ?_
      rintro e w ⟨rfl, g⟩
      replace H := Lib.hid (H.out.grown g)
      clear g
      go_wp2_with fail
      go_ret
      exact ⟨rfl, H.out.g⟩
    by_cases h40 : k < 30
    case neg =>
      obtain rfl : k = 30 := by omega
      go_wp2_with fail
      refine (CA.out _ H.out.g).mono ?_
      rintro e w ⟨rfl, g⟩
      replace H := Lib.hid (H.out.grown g)
      clear g
      go_wp2_with fail
      go_ret
      exact ⟨rfl, H.out.g⟩
    have hks : k < s.length := by rw [HM.out]; exact hlt
    obtain ⟨g3, o3, c3, hv2, hgB2, hrow2⟩ := HSA.out k hks
    have e2 := (Value.slice.inj hv2).1
    injection e2 with e2
    injection e2 with e2a e2b _
    subst e2a e2b
    obtain ⟨a, ha⟩ : ∃ x, s[k] = x := ⟨_, rfl⟩
    rw [ha] at hrow2
    have HAW := Lib.hid (show a.at_ w0.heap.size w0 from HSW.out a (ha ▸ List.getElem_mem hks))
    have FA := Lib.hid (hrow2.grown H.out.g (by simp))
    have CGa := Lib.hid (CG.out a.i HAW.out.i)
    have hix : ¬ ((M : Int) ≤ (k : Int)) := by omega
    clear hrow2 ha hv2 hks
    have O := H.out.O
    go_wp2_with (first | ((with_reducible refine @wpList_at _ _ _ _ _ _ _ (.load 58 (.tmp 75)) rfl ?_); refine wpList_load_part rfl 58 _ rfl g2 ((o2 + k * 7)) rfl a.cells _ FA.out Tryz.underlying58 rfl (sizeAct19 a) ?_) | ((with_reducible refine @wpList_at _ _ _ _ _ _ _ (.alloc 58) rfl ?_); refine @wpList_of_alloc _ _ _ _ _ _ _ _ _ _ 58 rfl ZAct19 ZAct19_info O rfl ?_; clear O; intro ba w O) | ((with_reducible refine @wpList_at _ _ _ _ _ _ _ (.store 58 (.tmp 11) (.tmp 76)) rfl ?_); refine @wpList_of_store _ _ _ _ _ _ _ _ _ _ 58 (.tmp 11) (.tmp 76) rfl O 0 ba rfl a.cells ZAct19 _ rfl rfl rfl (Act19.one HAW.out) (sizeAct19 a) rfl ?_; clear O; intro w O; simp only [List.set_cons_zero] at O) | ((with_reducible refine @wpList_at _ _ _ _ _ _ _ (.load 3 (.tmp 78)) rfl ?_); refine @wpList_of_cell _ _ _ _ _ _ _ _ _ _ 3 (.tmp 78) rfl O 0 ba 1 rfl _ _ rfl _ rfl _ Tryz.underlying3 rfl rfl ?_))
    replace H := Lib.hid (H.out.move O)
    clear O
    refine (CGa.out _ H.out.g).mono ?_
    rintro e w ⟨y, hy, rfl, g⟩
    replace H := Lib.hid (H.out.grown g)
    clear g
    obtain ⟨l, hof, hfit⟩ := HFIT.out y hy
    have YW := Lib.hid (hof.wf hfit.wf)
    have OF := Lib.hid hof; have FIT := Lib.hid hfit
    clear hof hfit hy CGa FA hix
    have O := H.out.O
    go_wp2_with (first | ((with_reducible refine @wpList_at _ _ _ _ _ _ _ (.alloc 31) rfl ?_); refine @wpList_of_alloc _ _ _ _ _ _ _ _ _ _ 31 rfl ZLt0 ZLt0_info O rfl ?_; clear O; intro bx w O) | ((with_reducible refine @wpList_at _ _ _ _ _ _ _ (.store 31 (.tmp 12) (.tmp 80)) rfl ?_); refine @wpList_of_store _ _ _ _ _ _ _ _ _ _ 31 (.tmp 12) (.tmp 80) rfl O 0 bx rfl y.cells ZLt0 _ rfl rfl (LtR.cells_length _ YW.out) (LtR_one _) (sizeLt _ YW.out) rfl ?_; clear O; intro w O; simp only [List.set_cons_zero] at O))
    replace H := Lib.hid (H.out.move O)
    clear O
    have CF0 := Lib.hid (kFrozen H.out)
    refine CF0.out.mono ?_
    rintro e w ⟨rfl, g⟩
    replace H := Lib.hid (H.out.grown g)
    clear g
    clear CF0
    have O := H.out.O
    by_cases c1 : a.kind = 2
    · have d1 : (a.kind == 2) = true := by simpa using c1
      clear c1
      have CB := Lib.hid (fun u (h : Sep w0 u [(bx, y.cells, 31), (ba, a.cells, 58), (bf, xf.cells, 31), (bq, optS.cells, 43)] [clOne w0.heap.size p c]) => kBlame h 0 rfl y l OF.out FIT.out.mid HR.out)
      have HB := Lib.hid (show (c.blame l).2 = 0 → (c.blame l).1.cold = true from fun h => by
        unfold ClD.blame at h ⊢
        split at h
        · cases h
        · rename_i h2; rw [if_neg h2])
      have HB2 := Lib.hid (show (c.blame l).1.roots.length = c.roots.length ∧ (c.blame l).1.o = c.o ∧ (c.blame l).1.front = c.front by unfold ClD.blame; split <;> exact ⟨rfl, rfl, rfl⟩)
      obtain ⟨V2, hV2⟩ : ∃ z, (c.blame l).2 = z := ⟨_, rfl⟩
      obtain ⟨c2, hc2⟩ : ∃ z, (c.blame l).1 = z := ⟨_, rfl⟩
      rw [hV2, hc2] at CB HB
      rw [hc2] at HB2
      clear hV2 hc2
      go_wp2_with (first | ((with_reducible refine @wpList_at _ _ _ _ _ _ _ (.load 3 (.tmp 83)) rfl ?_); refine @wpList_of_cell _ _ _ _ _ _ _ _ _ _ 3 (.tmp 83) rfl O 1 ba 0 rfl _ _ rfl _ rfl _ Tryz.underlying3 rfl rfl ?_) | ((with_reducible refine @wpList_at _ _ _ _ _ _ _ (.load 31 (.tmp 12)) rfl ?_); refine @wpList_of_whole _ _ _ _ _ _ _ _ _ _ 31 (.tmp 12) rfl O 0 bx rfl y.cells _ rfl _ Tryz.underlying31 rfl (sizeLt _ YW.out) rfl ?_))
      replace H := Lib.hid (H.out.move O)
      clear O
      refine (CB.out _ H.out).mono ?_
      rintro e w ⟨rfl, H2⟩
      replace H := Lib.hid H2
      clear H2 CB
      by_cases h0 : V2 = 0
      · have hcold := HB.out h0
        have d0 : (V2 == 0) = true := by simpa using h0
        have CF1 := Lib.hid (kFrozen H.out)
        rw [hcold] at CF1
        clear hcold h0
        go_wp2_with fail
        refine CF1.out.mono ?_
        rintro e w ⟨rfl, g⟩
        replace H := Lib.hid (H.out.grown g)
        clear g
        go_wp2_with fail
        exact ⟨⟨k + 1, c2, xf, by omega, by omega, by omega, by go_num, H.out.tail.tail, by rw [HB2.out.1]; exact Nat.le_succ_of_le HT.out, HB2.out.2.1.trans HOP.out, by rw [HB2.out.2.2]; exact HXF.out, by rw [HB2.out.2.2]; exact HFF.out⟩, by simp [intOf]; omega⟩
      · have d0 : (V2 == 0) = false := by simpa using h0
        clear h0
        go_wp2_with fail
        exact ⟨⟨k + 1, c2, xf, by omega, by omega, by omega, by go_num, H.out.tail.tail, by rw [HB2.out.1]; exact Nat.le_succ_of_le HT.out, HB2.out.2.1.trans HOP.out, by rw [HB2.out.2.2]; exact HXF.out, by rw [HB2.out.2.2]; exact HFF.out⟩, by simp [intOf]; omega⟩
    have d1 : (a.kind == 2) = false := by simpa using c1
    clear c1
    go_wp2_with (first | ((with_reducible refine @wpList_at _ _ _ _ _ _ _ (.load 3 (.tmp 83)) rfl ?_); refine @wpList_of_cell _ _ _ _ _ _ _ _ _ _ 3 (.tmp 83) rfl O 1 ba 0 rfl _ _ rfl _ rfl _ Tryz.underlying3 rfl rfl ?_))
    replace H := Lib.hid (H.out.move O)
    clear O
    have CC := Lib.hid (kCopy H.out 0 rfl)
    refine CC.out.mono ?_
    rintro e w ⟨q, rfl, H2⟩
    replace H := Lib.hid H2
    clear H2 CC
    have CU := fun u (h : Sep w0 u [(bx, y.cells, 31), (ba, a.cells, 58), (bf, xf.cells, 31), (bq, optS.cells, 43)] [clTwo w0.heap.size p c q c]) => kUpdate2 h 0 rfl y l a.now OF.out FIT.out.mid HAW.out.now (by have := HT.out; omega) HR.out
    have O := H.out.O
    cases hcold : c.cold with
    | true =>
      have h1 := update_cold hcold l a.now
      rw [h1] at CU
      dsimp only at CU
      have HCO := Lib.hid hcold; have CU2 := Lib.hid CU
      clear h1 hcold CU
      go_wp2_with (first | ((with_reducible refine @wpList_at _ _ _ _ _ _ _ (.load 31 (.tmp 12)) rfl ?_); refine @wpList_of_whole _ _ _ _ _ _ _ _ _ _ 31 (.tmp 12) rfl O 0 bx rfl y.cells _ rfl _ Tryz.underlying31 rfl (sizeLt _ YW.out) rfl ?_) | ((with_reducible refine @wpList_at _ _ _ _ _ _ _ (.load 41 (.tmp 99)) rfl ?_); refine @wpList_of_cell _ _ _ _ _ _ _ _ _ _ 41 (.tmp 99) rfl O 1 ba 2 rfl _ _ rfl _ rfl _ Tryz.underlying41 rfl rfl ?_))
      replace H := Lib.hid (H.out.move O)
      clear O
      refine (CU2.out _ H.out).mono ?_
      rintro e w ⟨rfl, H2⟩
      replace H : Hid (Sep w0 w [(bx, y.cells, 31), (ba, a.cells, 58), (bf, xf.cells, 31), (bq, optS.cells, 43)] [clTwo w0.heap.size p c q c]) := Lib.hid H2
      clear H2 CU2
      have CF1 := kFrozen1 H.out
      rw [HCO.out] at CF1
      go_wp2_with fail
      refine CF1.mono ?_
      rintro e w ⟨rfl, g⟩
      replace H := Lib.hid (H.out.grown g)
      clear g
      go_wp2_with fail
      go_loopw [16] (fun i wr => ∃ j : Nat, j ≤ N ∧ i = .int .i64 j ∧ Sep w0 wr [(bx, y.cells, 31), (ba, a.cells, 58), (bf, xf.cells, 31), (bq, optS.cells, 43)] [clTwo w0.heap.size p c q c]) (fun i _ => N - (intOf i).toNat)
      case atStart => exact ⟨0, Nat.zero_le _, rfl, H.out⟩
      case round =>
        clear H
        obtain ⟨j, hj, rfl, hH⟩ := hrel
        have H := Lib.hid hH
        clear hH
        by_cases hjl : j < N
        case neg =>
          obtain rfl : j = N := by omega
          go_wp2_with fail
          exact ⟨⟨k + 1, c, xf, by omega, by omega, by omega, by go_num, (H.out.alone 0 rfl).tail.tail, Nat.le_succ_of_le HT.out, HOP.out, HXF.out, HFF.out⟩, by simp [intOf]; omega⟩
        have hkx : j < xs.length := by rw [HN.out]; exact hjl
        obtain ⟨g8, o8, c8, hv8, _, hrow8⟩ := HXA.out j hkx
        have e8 := (Value.slice.inj hv8).1
        injection e8 with e8
        injection e8 with e8a e8b _
        subst e8a e8b
        obtain ⟨x8, hx8⟩ : ∃ x, xs[j] = x := ⟨_, rfl⟩
        rw [hx8] at hrow8
        have hk8 : i64R x8.header.height := (HX.out.wf _ (hx8 ▸ List.getElem_mem hkx)).header.height
        obtain ⟨K, hK⟩ : ∃ z, x8.header.height = z := ⟨_, rfl⟩
        rw [hK] at hk8
        have R8 := Lib.hid (show RowAt w0 g (o + j * 200 + 1) [.int .i64 K] from RowAt.one (by have := hrow8 1 _ rfl; rw [hK] at this; exact this))
        have HK8 := Lib.hid hk8
        have hix : ¬ ((N : Int) ≤ (j : Int)) := by omega
        clear hrow8 hx8 hv8 hkx hK hk8
        obtain ⟨R1, hR1⟩ : ∃ z, List.replicate 32 (0 : UInt8) = z := ⟨_, rfl⟩
        have hrt := root_cold HCO.out K
        rw [hR1] at hrt
        have HRT1 := Lib.hid hrt
        have HRT2 := Lib.hid hrt
        have LR := Lib.hid (show R1.length = 32 by rw [← hR1]; rfl)
        clear hR1 hrt
        have N1 := Lib.hid (show VEq (Lib.byteCells R1) (Lib.byteCells R1) = true by rw [VEq.bytes]; simp)
        have O := H.out.O
        have f8 := RowAt.cell0 (R8.out.grown H.out.g (by simp))
        have CR := kRoot1 H.out K HK8.out
        simp only [ofC, HRT1.out] at CR
        go_wp2_with fail
        refine CR.mono ?_
        rintro e w ⟨rfl, g⟩
        replace H := Lib.hid (H.out.grown g)
        clear g
        clear f8 CR
        have O := H.out.O
        go_upto_region 28 with (first | ((with_reducible refine @wpList_at _ _ _ _ _ _ _ (.alloc 23) rfl ?_); refine @wpList_of_alloc _ _ _ _ _ _ _ _ _ _ 23 rfl ZH ZH_info O rfl ?_; clear O; intro b17 w O) | ((with_reducible refine @wpList_at _ _ _ _ _ _ _ (.store 23 (.tmp 17) (.tmp 142)) rfl ?_); refine @wpList_of_store _ _ _ _ _ _ _ _ _ _ 23 (.tmp 17) (.tmp 142) rfl O 0 b17 rfl (Lib.byteCells R1) ZH _ rfl rfl (by rw [Lib.byteCells_length, LR.out]; rfl) (oneCell_bytes _) (sizeH _ (by rw [Lib.byteCells_length, LR.out])) rfl ?_; clear O; intro w O; simp only [List.set_cons_zero] at O))
        replace H := Lib.hid (H.out.move O)
        clear O
        have O := H.out.O
        have f8 := RowAt.cell0 (R8.out.grown H.out.g (by simp))
        have CR := kRoot2 H.out K HK8.out
        simp only [ofC, HRT2.out] at CR
        go_wp2_with fail
        refine CR.mono ?_
        rintro e w ⟨rfl, g⟩
        replace H := Lib.hid (H.out.grown g)
        clear g
        clear f8 CR
        have O := H.out.O
        go_upto_region 31 with (first | ((with_reducible refine @wpList_at _ _ _ _ _ _ _ (.alloc 23) rfl ?_); refine @wpList_of_alloc _ _ _ _ _ _ _ _ _ _ 23 rfl ZH ZH_info O rfl ?_; clear O; intro b19 w O) | ((with_reducible refine @wpList_at _ _ _ _ _ _ _ (.store 23 (.tmp 19) (.tmp 153)) rfl ?_); refine @wpList_of_store _ _ _ _ _ _ _ _ _ _ 23 (.tmp 19) (.tmp 153) rfl O 0 b19 rfl (Lib.byteCells R1) ZH _ rfl rfl (by rw [Lib.byteCells_length, LR.out]; rfl) (oneCell_bytes _) (sizeH _ (by rw [Lib.byteCells_length, LR.out])) rfl ?_; clear O; intro w O; simp only [List.set_cons_zero] at O))
        replace H := Lib.hid (H.out.move O)
        clear O
        replace H := Lib.hid (H.out.grown (dr_grown w 1))
        have R9 := R8.out.grown H.out.g (by simp)
        have RX := (show RowAt _ bx 1 [.int .i64 y.header.height] from RowAt.one ((H.out.own (bx, y.cells, 31) (by simp)).row 1 _ rfl))
        refine wp_region_J (rdf []) [] (by kernel_rfl) RdA.nil (fun hH => ?_)
        refine jp 0 ((.int .i64 155)) (Still.all hH) ?_
        simp only [Act.put, jq1, jq3, jq4, jq5, jq6]
        refine jp 1 ((.bool false)) (Still.all hH) ?_
        simp only [Act.put, jq1, jq2, jq3, jq4, jq5, jq6]
        refine jp 2 ((.bool false)) (Still.all hH) ?_
        simp only [Act.put, jq1, jq2, jq3, jq4, jq5, jq6]
        refine jp 3 undef (Still.all hH) ?_ (hy := Or.inr ⟨by rfl, rfl⟩)
        simp only [Act.put, jq1, jq2, jq3, jq4, jq5, jq6]
        refine jp 4 undef (Still.all hH) ?_ (hy := Or.inr ⟨by rfl, rfl⟩)
        simp only [Act.put, jq1, jq2, jq3, jq4, jq5, jq6]
        refine jp 5 undef (Still.all hH) ?_ (hy := Or.inr ⟨by rfl, rfl⟩)
        simp only [Act.put, jq1, jq2, jq3, jq4, jq5, jq6]
        refine jp 6 undef (Still.all hH) ?_ (hy := Or.inr ⟨by rfl, rfl⟩)
        simp only [Act.put, jq1, jq2, jq3, jq4, jq5, jq6]
        refine jp 7 undef (Still.all hH) ?_ (hy := Or.inr ⟨by rfl, rfl⟩)
        simp only [Act.put, jq1, jq2, jq3, jq4, jq5, jq6]
        refine jp 8 undef (Still.all hH) ?_ (hy := Or.inr ⟨by rfl, rfl⟩)
        simp only [Act.put, jq1, jq2, jq3, jq4, jq5, jq6]
        refine jp 9 undef (Still.all hH) ?_ (hy := Or.inr ⟨by rfl, rfl⟩)
        simp only [Act.put, jq1, jq2, jq3, jq4, jq5, jq6]
        refine jp 10 undef (Still.all hH) ?_ (hy := Or.inr ⟨by rfl, rfl⟩)
        simp only [Act.put, jq1, jq2, jq3, jq4, jq5, jq6]
        refine jp 11 undef (Still.all hH) ?_ (hy := Or.inr ⟨by rfl, rfl⟩)
        simp only [Act.put, jq1, jq2, jq3, jq4, jq5, jq6]
        refine jp 12 undef (Still.all hH) ?_ (hy := Or.inr ⟨by rfl, rfl⟩)
        simp only [Act.put, jq1, jq2, jq3, jq4, jq5, jq6]
        refine jp 13 ((.bool false)) (Still.all hH) ?_
        simp only [Act.put, jq1, jq2, jq3, jq4, jq5, jq6]
        refine jp 14 ((.bool false)) (Still.all hH) ?_
        simp only [Act.put, jq1, jq2, jq3, jq4, jq5, jq6]
        refine wpAnyJ_done (by kernel_rfl) ?_ _
        clear hH
        have O := H.out.O
        go_wp2_with (first | ((with_reducible refine @wpList_at _ _ _ _ _ _ _ (.load 23 (.tmp 17)) rfl ?_); refine @wpList_of_whole _ _ _ _ _ _ _ _ _ _ 23 (.tmp 17) rfl O 1 b17 rfl (Lib.byteCells R1) _ rfl _ Tryz.underlying23 rfl (sizeH _ (by rw [Lib.byteCells_length, LR.out])) (by kernel_rfl) ?_) | ((with_reducible refine @wpList_at _ _ _ _ _ _ _ (.load 23 (.tmp 19)) rfl ?_); refine @wpList_of_whole _ _ _ _ _ _ _ _ _ _ 23 (.tmp 19) rfl O 0 b19 rfl (Lib.byteCells R1) _ rfl _ Tryz.underlying23 rfl (sizeH _ (by rw [Lib.byteCells_length, LR.out])) (by kernel_rfl) ?_) | ((with_reducible refine @wpList_at _ _ _ _ _ _ _ (.binOp .neq 23 (.tmp 190) (.tmp 191) 23) rfl ?_); refine @wpList_neq_own _ _ _ _ _ _ _ 23 _ (.tmp 190) (.tmp 191) rfl (Lib.byteCells R1) (Lib.byteCells R1) kHash rfl rfl hash_flat (hash_fits _ LR.out) (hash_fits _ LR.out) rfl (by kernel_rfl) (by kernel_rfl) ?_; rw [N1.out]))
        exact ⟨⟨j + 1, by omega, by go_num, H.out.tail.tail⟩, by simp [intOf]; omega⟩
    | false =>
    have HCO := Lib.hid hcold
    by_cases hF0 : (c.update l a.now).2 = 0
    · have h1 := update_taken hF0
      rw [hF0, h1.2.2] at CU
      have HST := Lib.hid h1.2.1; have CU2 := Lib.hid CU
      clear hF0 h1 hcold CU
      go_wp2_with (first | ((with_reducible refine @wpList_at _ _ _ _ _ _ _ (.load 31 (.tmp 12)) rfl ?_); refine @wpList_of_whole _ _ _ _ _ _ _ _ _ _ 31 (.tmp 12) rfl O 0 bx rfl y.cells _ rfl _ Tryz.underlying31 rfl (sizeLt _ YW.out) rfl ?_) | ((with_reducible refine @wpList_at _ _ _ _ _ _ _ (.load 41 (.tmp 99)) rfl ?_); refine @wpList_of_cell _ _ _ _ _ _ _ _ _ _ 41 (.tmp 99) rfl O 1 ba 2 rfl _ _ rfl _ rfl _ Tryz.underlying41 rfl rfl ?_))
      replace H := Lib.hid (H.out.move O)
      clear O
      refine (CU2.out _ H.out).mono ?_
      rintro e w ⟨rfl, H2⟩
      replace H : Hid (Sep w0 w [(bx, y.cells, 31), (ba, a.cells, 58), (bf, xf.cells, 31), (bq, optS.cells, 43)] [clTwo w0.heap.size p (c.take l) q c]) := Lib.hid H2
      clear H2 CU2
      have CS := Lib.hid (fun u (gg : w0.grownBy u none) => RStep_ok xf y c.front l a.now optS u HFF.out.wf FIT.out.wf (HXF.out.up gg (Nat.le_refl _)) (OF.out.up gg (Nat.le_refl _)) HAW.out.now optS_wf (by have := FIT.out.seals; omega) HFF.out.chain FIT.out.chain)
      have hst := HST.out
      rw [HOP.out] at hst
      rw [hst] at CS
      clear hst
      have O := H.out.O
      go_wp2_with (first | ((with_reducible refine @wpList_at _ _ _ _ _ _ _ (.load 31 (.tmp 9)) rfl ?_); refine @wpList_of_whole _ _ _ _ _ _ _ _ _ _ 31 (.tmp 9) rfl O 2 bf rfl xf.cells _ rfl _ Tryz.underlying31 rfl (sizeLt _ XFW.out) rfl ?_) | ((with_reducible refine @wpList_at _ _ _ _ _ _ _ (.load 31 (.tmp 12)) rfl ?_); refine @wpList_of_whole _ _ _ _ _ _ _ _ _ _ 31 (.tmp 12) rfl O 0 bx rfl y.cells _ rfl _ Tryz.underlying31 rfl (sizeLt _ YW.out) rfl ?_) | ((with_reducible refine @wpList_at _ _ _ _ _ _ _ (.load 41 (.tmp 121)) rfl ?_); refine @wpList_of_cell _ _ _ _ _ _ _ _ _ _ 41 (.tmp 121) rfl O 1 ba 2 rfl _ _ rfl _ rfl _ Tryz.underlying41 rfl rfl ?_) | ((with_reducible refine @wpList_at _ _ _ _ _ _ _ (.load 43 (.tmp 6)) rfl ?_); refine @wpList_of_whole _ _ _ _ _ _ _ _ _ _ 43 (.tmp 6) rfl O 3 bq rfl optS.cells _ rfl _ Tryz.underlying43 rfl sizeOpt rfl ?_))
      replace H := Lib.hid (H.out.move O)
      clear O
      refine (CS.out _ H.out.g).mono ?_
      rintro e w ⟨rfl, g⟩
      replace H := Lib.hid (H.out.grown g)
      clear g
      clear CS
      go_wp2_with fail
      go_loopw [16] (fun i wr => ∃ j : Nat, j ≤ N ∧ i = .int .i64 j ∧ Sep w0 wr [(bx, y.cells, 31), (ba, a.cells, 58), (bf, xf.cells, 31), (bq, optS.cells, 43)] [clTwo w0.heap.size p (c.take l) q c]) (fun i _ => N - (intOf i).toNat)
      case atStart => exact ⟨0, Nat.zero_le _, rfl, H.out⟩
      case round =>
        clear H
        obtain ⟨j, hj, rfl, hH⟩ := hrel
        have H := Lib.hid hH
        clear hH
        by_cases hjl : j < N
        case neg =>
          obtain rfl : j = N := by omega
          have O := H.out.O
          go_wp2_with (first | ((with_reducible refine @wpList_at _ _ _ _ _ _ _ (.load 31 (.tmp 12)) rfl ?_); refine @wpList_of_whole _ _ _ _ _ _ _ _ _ _ 31 (.tmp 12) rfl O 0 bx rfl y.cells _ rfl _ Tryz.underlying31 rfl (sizeLt _ YW.out) rfl ?_) | ((with_reducible refine @wpList_at _ _ _ _ _ _ _ (.store 31 (.tmp 9) (.tmp 202)) rfl ?_); refine @wpList_of_store _ _ _ _ _ _ _ _ _ _ 31 (.tmp 9) (.tmp 202) rfl O 2 bf rfl y.cells xf.cells _ rfl rfl ((LtR.cells_length _ YW.out).trans (LtR.cells_length _ XFW.out).symm) (LtR_one _) (sizeLt _ YW.out) rfl ?_; clear O; intro w O; simp only [List.set_cons_zero, List.set_cons_succ] at O))
          replace H := Lib.hid (H.out.move O)
          clear O
          exact ⟨⟨k + 1, c.take l, y, by omega, by omega, by omega, by go_num, (H.out.alone 0 rfl).tail.tail, by have := HT.out; show c.roots.length + 1 ≤ k + 1; omega, HOP.out, OF.out, FIT.out⟩, by simp [intOf]; omega⟩
        have hkx : j < xs.length := by rw [HN.out]; exact hjl
        obtain ⟨g8, o8, c8, hv8, _, hrow8⟩ := HXA.out j hkx
        have e8 := (Value.slice.inj hv8).1
        injection e8 with e8
        injection e8 with e8a e8b _
        subst e8a e8b
        obtain ⟨x8, hx8⟩ : ∃ x, xs[j] = x := ⟨_, rfl⟩
        rw [hx8] at hrow8
        have hk8 : i64R x8.header.height := (HX.out.wf _ (hx8 ▸ List.getElem_mem hkx)).header.height
        obtain ⟨K, hK⟩ : ∃ z, x8.header.height = z := ⟨_, rfl⟩
        rw [hK] at hk8
        have R8 := Lib.hid (show RowAt w0 g (o + j * 200 + 1) [.int .i64 K] from RowAt.one (by have := hrow8 1 _ rfl; rw [hK] at this; exact this))
        have HK8 := Lib.hid hk8
        have hix : ¬ ((N : Int) ≤ (j : Int)) := by omega
        clear hrow8 hx8 hv8 hkx hK hk8
        have hyl := OF.out.header
        have hrt := take_root HCO.out l K
        rw [← hyl] at hrt
        have LS0 := root_len (kOk2 H.out) K
        by_cases hk : K = y.header.height
        · rw [if_pos hk] at hrt
          have HKB := Lib.hid (show (K == y.header.height) = true by simpa using hk)
          have hay : y.header.app.length = 32 := YW.out.header.app
          have APP := Lib.hid (fun w g (h : RowAt w g 0 y.cells) => LtR.app_at0 YW.out h)
          obtain ⟨R1, hR1⟩ : ∃ z, y.header.app = z := ⟨_, rfl⟩
          rw [hR1] at hrt hay APP
          obtain ⟨S1, H1, hs⟩ : ∃ a b, c.root K = (a, b) := ⟨_, _, rfl⟩
          rw [hs] at LS0
          have HRT1 := Lib.hid hrt
          have HRT2 := Lib.hid hs
          have LR := Lib.hid hay
          have LS : Hid (S1.length = 32) := Lib.hid LS0
          clear hrt hs hk hR1 hay LS0 hyl
          have N1 := Lib.hid (show VEq (Lib.byteCells R1) (Lib.byteCells R1) = true by rw [VEq.bytes]; simp)
          have O := H.out.O
          have f8 := RowAt.cell0 (R8.out.grown H.out.g (by simp))
          have CR := kRoot1 H.out K HK8.out
          simp only [ofC, HRT1.out] at CR
          go_wp2_with fail
          refine CR.mono ?_
          rintro e w ⟨rfl, g⟩
          replace H := Lib.hid (H.out.grown g)
          clear g
          clear f8 CR
          have O := H.out.O
          go_upto_region 28 with (first | ((with_reducible refine @wpList_at _ _ _ _ _ _ _ (.alloc 23) rfl ?_); refine @wpList_of_alloc _ _ _ _ _ _ _ _ _ _ 23 rfl ZH ZH_info O rfl ?_; clear O; intro b17 w O) | ((with_reducible refine @wpList_at _ _ _ _ _ _ _ (.store 23 (.tmp 17) (.tmp 142)) rfl ?_); refine @wpList_of_store _ _ _ _ _ _ _ _ _ _ 23 (.tmp 17) (.tmp 142) rfl O 0 b17 rfl (Lib.byteCells R1) ZH _ rfl rfl (by rw [Lib.byteCells_length, LR.out]; rfl) (oneCell_bytes _) (sizeH _ (by rw [Lib.byteCells_length, LR.out])) rfl ?_; clear O; intro w O; simp only [List.set_cons_zero] at O))
          replace H := Lib.hid (H.out.move O)
          clear O
          have O := H.out.O
          have f8 := RowAt.cell0 (R8.out.grown H.out.g (by simp))
          have CR := kRoot2 H.out K HK8.out
          simp only [ofC, HRT2.out] at CR
          go_wp2_with fail
          refine CR.mono ?_
          rintro e w ⟨rfl, g⟩
          replace H := Lib.hid (H.out.grown g)
          clear g
          clear f8 CR
          have O := H.out.O
          go_upto_region 31 with (first | ((with_reducible refine @wpList_at _ _ _ _ _ _ _ (.alloc 23) rfl ?_); refine @wpList_of_alloc _ _ _ _ _ _ _ _ _ _ 23 rfl ZH ZH_info O rfl ?_; clear O; intro b19 w O) | ((with_reducible refine @wpList_at _ _ _ _ _ _ _ (.store 23 (.tmp 19) (.tmp 153)) rfl ?_); refine @wpList_of_store _ _ _ _ _ _ _ _ _ _ 23 (.tmp 19) (.tmp 153) rfl O 0 b19 rfl (Lib.byteCells S1) ZH _ rfl rfl (by rw [Lib.byteCells_length, LS.out]; rfl) (oneCell_bytes _) (sizeH _ (by rw [Lib.byteCells_length, LS.out])) rfl ?_; clear O; intro w O; simp only [List.set_cons_zero] at O))
          replace H := Lib.hid (H.out.move O)
          clear O
          replace H := Lib.hid (H.out.grown (dr_grown w 1))
          have R9 := R8.out.grown H.out.g (by simp)
          have RX := (show RowAt _ bx 1 [.int .i64 y.header.height] from RowAt.one ((H.out.own (bx, y.cells, 31) (by simp)).row 1 _ rfl))
          have hkb := HKB.out
          refine wp_region_J (rdf [(8, g, (o + j * 200 + 1), [(.int .i64 K)]), (11, bx, 1, [(.int .i64 y.header.height)])]) [] (by kernel_rfl) (RdA.cons R9 (RdA.cons RX RdA.nil)) (fun hH => ?_)
          refine jp 0 ((.int .i64 0)) (Still.all hH) ?_
          simp only [Act.put, jq1, jq3, jq4, jq5, jq6]
          refine jp 1 ((.bool true)) (Still.all hH) ?_
          simp only [Act.put, jq1, jq2, jq3, jq4, jq5, jq6]
          refine jp 2 ((.bool true)) (Still.all hH) ?_
          simp only [Act.put, jq1, jq2, jq3, jq4, jq5, jq6]
          refine jp 3 ((.slice (some ⟨g, o, none⟩) N cp)) (Still.all hH) ?_
          simp only [Act.put, jq1, jq2, jq3, jq4, jq5, jq6]
          refine jp 4 ((.int .i64 (j : Int))) (Still.all hH) ?_
          simp only [Act.put, jq1, jq2, jq3, jq4, jq5, jq6]
          refine jp 5 ((.pointer (some ⟨g, o + j * 200, none⟩))) (Still.all hH) ?_
          simp only [Act.put, jq1, jq2, jq3, jq4, jq5, jq6]
          refine jp 6 ((.pointer (some ⟨g, o + j * 200, none⟩))) (Still.all hH) ?_
          simp only [Act.put, jq1, jq2, jq3, jq4, jq5, jq6]
          refine jp 7 ((.pointer (some ⟨g, o + j * 200 + 1, none⟩))) (Still.all hH) ?_
          simp only [Act.put, jq1, jq2, jq3, jq4, jq5, jq6]
          refine jr 0 8 ((.int .i64 K)) rfl rfl (yields_cell (by rfl) 3 _ rfl g (o + j * 200 + 1) rfl (.int .i64 K) _ (fun W h => h) Tryz.underlying3 rfl) (Still.all hH) ?_
          simp only [Act.put, jq1, jq2, jq3, jq4, jq5, jq6]
          refine jp 9 ((.pointer (some ⟨bx, 0, none⟩))) (Still.all hH) ?_
          simp only [Act.put, jq1, jq2, jq3, jq4, jq5, jq6]
          refine jp 10 ((.pointer (some ⟨bx, 1, none⟩))) (Still.all hH) ?_
          simp only [Act.put, jq1, jq2, jq3, jq4, jq5, jq6]
          refine jr 1 11 ((.int .i64 y.header.height)) rfl rfl (yields_cell (by rfl) 3 _ rfl bx 1 rfl (.int .i64 y.header.height) _ (fun W h => h) Tryz.underlying3 rfl) (Still.all hH) ?_
          simp only [Act.put, jq1, jq2, jq3, jq4, jq5, jq6]
          refine jp 12 ((.bool true)) (Still.all hH) ?_
          simp only [Act.put, jq1, jq2, jq3, jq4, jq5, jq6]
          refine jp 13 ((.bool true)) (Still.all hH) ?_
          simp only [Act.put, jq1, jq2, jq3, jq4, jq5, jq6]
          refine jp 14 ((.bool true)) (Still.all hH) ?_
          simp only [Act.put, jq1, jq2, jq3, jq4, jq5, jq6]
          refine wpAnyJ_done (by kernel_rfl) ?_ _
          clear hH
          clear hkb
          have O := H.out.O
          have ONE := trivial
          go_wp2_with (first | ((with_reducible refine @wpList_at _ _ _ _ _ _ _ (.load 23 (.tmp 17)) rfl ?_); clear ONE; refine @wpList_of_whole _ _ _ _ _ _ _ _ _ _ 23 (.tmp 17) rfl O 1 b17 rfl (Lib.byteCells R1) _ rfl _ Tryz.underlying23 rfl (sizeH _ (by rw [Lib.byteCells_length, LR.out])) (by kernel_rfl) ?_) | ((with_reducible refine @wpList_at _ _ _ _ _ _ _ (.load 23 (.tmp 181)) rfl ?_); refine @wpList_of_part _ _ _ _ _ _ _ _ _ _ 23 (.tmp 181) rfl O 2 bx 131 rfl _ _ rfl (Lib.byteCells R1) _ (fun h => APP.out _ _ h) Tryz.underlying23 rfl (sizeH _ (by rw [Lib.byteCells_length, LR.out])) (by kernel_rfl) ?_) | ((with_reducible refine @wpList_at _ _ _ _ _ _ _ (.binOp .neq 23 (.tmp 179) (.tmp 182) 23) rfl ?_); refine @wpList_neq_own _ _ _ _ _ _ _ 23 _ (.tmp 179) (.tmp 182) rfl (Lib.byteCells R1) (Lib.byteCells R1) kHash rfl rfl hash_flat (hash_fits _ LR.out) (hash_fits _ LR.out) rfl (by kernel_rfl) (by kernel_rfl) ?_; rw [N1.out]))
          exact ⟨⟨j + 1, by omega, by go_num, H.out.tail.tail⟩, by simp [intOf]; omega⟩
        · rw [if_neg hk] at hrt
          have HKB := Lib.hid (show (K == y.header.height) = false by simpa using hk)
          obtain ⟨R1, G1, hs⟩ : ∃ a b, c.root K = (a, b) := ⟨_, _, rfl⟩
          rw [hs] at hrt LS0
          have HRT1 := Lib.hid hrt
          have HRT2 := Lib.hid hs
          have LR : Hid (R1.length = 32) := Lib.hid LS0
          clear hrt hs hk LS0 hyl
          have N1 := Lib.hid (show VEq (Lib.byteCells R1) (Lib.byteCells R1) = true by rw [VEq.bytes]; simp)
          have O := H.out.O
          have f8 := RowAt.cell0 (R8.out.grown H.out.g (by simp))
          have CR := kRoot1 H.out K HK8.out
          simp only [ofC, HRT1.out] at CR
          go_wp2_with fail
          refine CR.mono ?_
          rintro e w ⟨rfl, g⟩
          replace H := Lib.hid (H.out.grown g)
          clear g
          clear f8 CR
          have O := H.out.O
          go_upto_region 28 with (first | ((with_reducible refine @wpList_at _ _ _ _ _ _ _ (.alloc 23) rfl ?_); refine @wpList_of_alloc _ _ _ _ _ _ _ _ _ _ 23 rfl ZH ZH_info O rfl ?_; clear O; intro b17 w O) | ((with_reducible refine @wpList_at _ _ _ _ _ _ _ (.store 23 (.tmp 17) (.tmp 142)) rfl ?_); refine @wpList_of_store _ _ _ _ _ _ _ _ _ _ 23 (.tmp 17) (.tmp 142) rfl O 0 b17 rfl (Lib.byteCells R1) ZH _ rfl rfl (by rw [Lib.byteCells_length, LR.out]; rfl) (oneCell_bytes _) (sizeH _ (by rw [Lib.byteCells_length, LR.out])) rfl ?_; clear O; intro w O; simp only [List.set_cons_zero] at O))
          replace H := Lib.hid (H.out.move O)
          clear O
          have O := H.out.O
          have f8 := RowAt.cell0 (R8.out.grown H.out.g (by simp))
          have CR := kRoot2 H.out K HK8.out
          simp only [ofC, HRT2.out] at CR
          go_wp2_with fail
          refine CR.mono ?_
          rintro e w ⟨rfl, g⟩
          replace H := Lib.hid (H.out.grown g)
          clear g
          clear f8 CR
          have O := H.out.O
          go_upto_region 31 with (first | ((with_reducible refine @wpList_at _ _ _ _ _ _ _ (.alloc 23) rfl ?_); refine @wpList_of_alloc _ _ _ _ _ _ _ _ _ _ 23 rfl ZH ZH_info O rfl ?_; clear O; intro b19 w O) | ((with_reducible refine @wpList_at _ _ _ _ _ _ _ (.store 23 (.tmp 19) (.tmp 153)) rfl ?_); refine @wpList_of_store _ _ _ _ _ _ _ _ _ _ 23 (.tmp 19) (.tmp 153) rfl O 0 b19 rfl (Lib.byteCells R1) ZH _ rfl rfl (by rw [Lib.byteCells_length, LR.out]; rfl) (oneCell_bytes _) (sizeH _ (by rw [Lib.byteCells_length, LR.out])) rfl ?_; clear O; intro w O; simp only [List.set_cons_zero] at O))
          replace H := Lib.hid (H.out.move O)
          clear O
          replace H := Lib.hid (H.out.grown (dr_grown w 1))
          have R9 := R8.out.grown H.out.g (by simp)
          have RX := (show RowAt _ bx 1 [.int .i64 y.header.height] from RowAt.one ((H.out.own (bx, y.cells, 31) (by simp)).row 1 _ rfl))
          have hkb := HKB.out
          refine wp_region_J (rdf [(8, g, (o + j * 200 + 1), [(.int .i64 K)]), (11, bx, 1, [(.int .i64 y.header.height)])]) [] (by kernel_rfl) (RdA.cons R9 (RdA.cons RX RdA.nil)) (fun hH => ?_)
          refine jp 0 ((.int .i64 0)) (Still.all hH) ?_
          simp only [Act.put, jq1, jq2, jq3, jq4, jq5, jq6]
          refine jp 1 ((.bool true)) (Still.all hH) ?_
          simp only [Act.put, jq1, jq3, jq4, jq5, jq6]
          refine jp 2 ((.bool true)) (Still.all hH) ?_
          simp only [Act.put, jq1, jq2, jq3, jq4, jq5, jq6]
          refine jp 3 ((.slice (some ⟨g, o, none⟩) N cp)) (Still.all hH) ?_
          simp only [Act.put, jq1, jq2, jq3, jq4, jq5, jq6]
          refine jp 4 ((.int .i64 (j : Int))) (Still.all hH) ?_
          simp only [Act.put, jq1, jq2, jq3, jq4, jq5, jq6]
          refine jp 5 ((.pointer (some ⟨g, o + j * 200, none⟩))) (Still.all hH) ?_
          simp only [Act.put, jq1, jq2, jq3, jq4, jq5, jq6]
          refine jp 6 ((.pointer (some ⟨g, o + j * 200, none⟩))) (Still.all hH) ?_
          simp only [Act.put, jq1, jq2, jq3, jq4, jq5, jq6]
          refine jp 7 ((.pointer (some ⟨g, o + j * 200 + 1, none⟩))) (Still.all hH) ?_
          simp only [Act.put, jq1, jq2, jq3, jq4, jq5, jq6]
          refine jr 0 8 ((.int .i64 K)) rfl rfl (yields_cell (by rfl) 3 _ rfl g (o + j * 200 + 1) rfl (.int .i64 K) _ (fun W h => h) Tryz.underlying3 rfl) (Still.all hH) ?_
          simp only [Act.put, jq1, jq2, jq3, jq4, jq5, jq6]
          refine jp 9 ((.pointer (some ⟨bx, 0, none⟩))) (Still.all hH) ?_
          simp only [Act.put, jq1, jq2, jq3, jq4, jq5, jq6]
          refine jp 10 ((.pointer (some ⟨bx, 1, none⟩))) (Still.all hH) ?_
          simp only [Act.put, jq1, jq2, jq3, jq4, jq5, jq6]
          refine jr 1 11 ((.int .i64 y.header.height)) rfl rfl (yields_cell (by rfl) 3 _ rfl bx 1 rfl (.int .i64 y.header.height) _ (fun W h => h) Tryz.underlying3 rfl) (Still.all hH) ?_
          simp only [Act.put, jq1, jq2, jq3, jq4, jq5, jq6]
          refine jp 12 ((.bool false)) (Still.all hH) ?_
          simp only [Act.put, jq1, jq2, jq3, jq4, jq5, jq6]
          refine jp 13 ((.bool false)) (Still.all hH) ?_
          simp only [Act.put, jq1, jq2, jq3, jq4, jq5, jq6]
          refine jp 14 ((.bool false)) (Still.all hH) ?_
          simp only [Act.put, jq1, jq2, jq3, jq4, jq5, jq6]
          refine wpAnyJ_done (by kernel_rfl) ?_ _
          clear hH
          clear hkb
          have O := H.out.O
          go_wp2_with (first | ((with_reducible refine @wpList_at _ _ _ _ _ _ _ (.load 23 (.tmp 17)) rfl ?_); refine @wpList_of_whole _ _ _ _ _ _ _ _ _ _ 23 (.tmp 17) rfl O 1 b17 rfl (Lib.byteCells R1) _ rfl _ Tryz.underlying23 rfl (sizeH _ (by rw [Lib.byteCells_length, LR.out])) (by kernel_rfl) ?_) | ((with_reducible refine @wpList_at _ _ _ _ _ _ _ (.load 23 (.tmp 19)) rfl ?_); refine @wpList_of_whole _ _ _ _ _ _ _ _ _ _ 23 (.tmp 19) rfl O 0 b19 rfl (Lib.byteCells R1) _ rfl _ Tryz.underlying23 rfl (sizeH _ (by rw [Lib.byteCells_length, LR.out])) (by kernel_rfl) ?_) | ((with_reducible refine @wpList_at _ _ _ _ _ _ _ (.binOp .neq 23 (.tmp 190) (.tmp 191) 23) rfl ?_); refine @wpList_neq_own _ _ _ _ _ _ _ 23 _ (.tmp 190) (.tmp 191) rfl (Lib.byteCells R1) (Lib.byteCells R1) kHash rfl rfl hash_flat (hash_fits _ LR.out) (hash_fits _ LR.out) rfl (by kernel_rfl) (by kernel_rfl) ?_; rw [N1.out]))
          exact ⟨⟨j + 1, by omega, by go_num, H.out.tail.tail⟩, by simp [intOf]; omega⟩
    · have h2 := update_refused hF0
      obtain ⟨F, hF⟩ : ∃ z, (c.update l a.now).2 = z := ⟨_, rfl⟩
      rw [hF] at hF0
      rw [hF, h2] at CU
      have HF3 := Lib.hid hF0; have CU2 := Lib.hid CU
      clear hF hF0 h2 hcold CU
      go_wp2_with (first | ((with_reducible refine @wpList_at _ _ _ _ _ _ _ (.load 31 (.tmp 12)) rfl ?_); refine @wpList_of_whole _ _ _ _ _ _ _ _ _ _ 31 (.tmp 12) rfl O 0 bx rfl y.cells _ rfl _ Tryz.underlying31 rfl (sizeLt _ YW.out) rfl ?_) | ((with_reducible refine @wpList_at _ _ _ _ _ _ _ (.load 41 (.tmp 99)) rfl ?_); refine @wpList_of_cell _ _ _ _ _ _ _ _ _ _ 41 (.tmp 99) rfl O 1 ba 2 rfl _ _ rfl _ rfl _ Tryz.underlying41 rfl rfl ?_))
      replace H := Lib.hid (H.out.move O)
      clear O
      refine (CU2.out _ H.out).mono ?_
      rintro e w ⟨rfl, H2⟩
      replace H : Hid (Sep w0 w [(bx, y.cells, 31), (ba, a.cells, 58), (bf, xf.cells, 31), (bq, optS.cells, 43)] [clTwo w0.heap.size p c q c]) := Lib.hid H2
      clear H2 CU2
      have hf0 := HF3.out
      have d0 : (F == 0) = false := by simpa using hf0
      clear hf0
      go_wp2_with fail
      go_loopw [16] (fun i wr => ∃ j : Nat, j ≤ N ∧ i = .int .i64 j ∧ Sep w0 wr [(bx, y.cells, 31), (ba, a.cells, 58), (bf, xf.cells, 31), (bq, optS.cells, 43)] [clTwo w0.heap.size p c q c]) (fun i _ => N - (intOf i).toNat)
      case atStart => exact ⟨0, Nat.zero_le _, rfl, H.out⟩
      case round =>
        clear H
        obtain ⟨j, hj, rfl, hH⟩ := hrel
        have H := Lib.hid hH
        clear hH
        by_cases hjl : j < N
        case neg =>
          obtain rfl : j = N := by omega
          go_wp2_with fail
          exact ⟨⟨k + 1, c, xf, by omega, by omega, by omega, by go_num, (H.out.alone 0 rfl).tail.tail, Nat.le_succ_of_le HT.out, HOP.out, HXF.out, HFF.out⟩, by simp [intOf]; omega⟩
        have hkx : j < xs.length := by rw [HN.out]; exact hjl
        obtain ⟨g8, o8, c8, hv8, _, hrow8⟩ := HXA.out j hkx
        have e8 := (Value.slice.inj hv8).1
        injection e8 with e8
        injection e8 with e8a e8b _
        subst e8a e8b
        obtain ⟨x8, hx8⟩ : ∃ x, xs[j] = x := ⟨_, rfl⟩
        rw [hx8] at hrow8
        have hk8 : i64R x8.header.height := (HX.out.wf _ (hx8 ▸ List.getElem_mem hkx)).header.height
        obtain ⟨K, hK⟩ : ∃ z, x8.header.height = z := ⟨_, rfl⟩
        rw [hK] at hk8
        have R8 := Lib.hid (show RowAt w0 g (o + j * 200 + 1) [.int .i64 K] from RowAt.one (by have := hrow8 1 _ rfl; rw [hK] at this; exact this))
        have HK8 := Lib.hid hk8
        have hix : ¬ ((N : Int) ≤ (j : Int)) := by omega
        clear hrow8 hx8 hv8 hkx hK hk8
        obtain ⟨R1, G1, hrt⟩ : ∃ a b, c.root K = (a, b) := ⟨_, _, rfl⟩
        have HRT1 := Lib.hid hrt
        have HRT2 := Lib.hid hrt
        have LR := Lib.hid (show R1.length = 32 by have := root_len (kOk2 H.out) K; rwa [hrt] at this)
        clear hrt
        have N1 := Lib.hid (show VEq (Lib.byteCells R1) (Lib.byteCells R1) = true by rw [VEq.bytes]; simp)
        have O := H.out.O
        have f8 := RowAt.cell0 (R8.out.grown H.out.g (by simp))
        have CR := kRoot1 H.out K HK8.out
        simp only [ofC, HRT1.out] at CR
        go_wp2_with fail
        refine CR.mono ?_
        rintro e w ⟨rfl, g⟩
        replace H := Lib.hid (H.out.grown g)
        clear g
        clear f8 CR
        have O := H.out.O
        go_upto_region 28 with (first | ((with_reducible refine @wpList_at _ _ _ _ _ _ _ (.alloc 23) rfl ?_); refine @wpList_of_alloc _ _ _ _ _ _ _ _ _ _ 23 rfl ZH ZH_info O rfl ?_; clear O; intro b17 w O) | ((with_reducible refine @wpList_at _ _ _ _ _ _ _ (.store 23 (.tmp 17) (.tmp 142)) rfl ?_); refine @wpList_of_store _ _ _ _ _ _ _ _ _ _ 23 (.tmp 17) (.tmp 142) rfl O 0 b17 rfl (Lib.byteCells R1) ZH _ rfl rfl (by rw [Lib.byteCells_length, LR.out]; rfl) (oneCell_bytes _) (sizeH _ (by rw [Lib.byteCells_length, LR.out])) rfl ?_; clear O; intro w O; simp only [List.set_cons_zero] at O))
        replace H := Lib.hid (H.out.move O)
        clear O
        have O := H.out.O
        have f8 := RowAt.cell0 (R8.out.grown H.out.g (by simp))
        have CR := kRoot2 H.out K HK8.out
        simp only [ofC, HRT2.out] at CR
        go_wp2_with fail
        refine CR.mono ?_
        rintro e w ⟨rfl, g⟩
        replace H := Lib.hid (H.out.grown g)
        clear g
        clear f8 CR
        have O := H.out.O
        go_upto_region 31 with (first | ((with_reducible refine @wpList_at _ _ _ _ _ _ _ (.alloc 23) rfl ?_); refine @wpList_of_alloc _ _ _ _ _ _ _ _ _ _ 23 rfl ZH ZH_info O rfl ?_; clear O; intro b19 w O) | ((with_reducible refine @wpList_at _ _ _ _ _ _ _ (.store 23 (.tmp 19) (.tmp 153)) rfl ?_); refine @wpList_of_store _ _ _ _ _ _ _ _ _ _ 23 (.tmp 19) (.tmp 153) rfl O 0 b19 rfl (Lib.byteCells R1) ZH _ rfl rfl (by rw [Lib.byteCells_length, LR.out]; rfl) (oneCell_bytes _) (sizeH _ (by rw [Lib.byteCells_length, LR.out])) rfl ?_; clear O; intro w O; simp only [List.set_cons_zero] at O))
        replace H := Lib.hid (H.out.move O)
        clear O
        replace H := Lib.hid (H.out.grown (dr_grown w 1))
        have R9 := R8.out.grown H.out.g (by simp)
        have RX := (show RowAt _ bx 1 [.int .i64 y.header.height] from RowAt.one ((H.out.own (bx, y.cells, 31) (by simp)).row 1 _ rfl))
        refine wp_region_J (rdf []) [] (by kernel_rfl) RdA.nil (fun hH => ?_)
        refine jp 0 ((.int .i64 F)) (Still.all hH) ?_
        simp only [Act.put, jq1, jq2, jq3, jq4, jq5, jq6]
        refine jp 1 ((.bool false)) (Still.all hH) ?_
        simp only [Act.put, jq1, jq3, jq4, jq5, jq6]
        refine jp 2 ((.bool false)) (Still.all hH) ?_
        simp only [Act.put, jq1, jq2, jq3, jq4, jq5, jq6]
        refine jp 3 undef (Still.all hH) ?_ (hy := Or.inr ⟨by rfl, rfl⟩)
        simp only [Act.put, jq1, jq2, jq3, jq4, jq5, jq6]
        refine jp 4 undef (Still.all hH) ?_ (hy := Or.inr ⟨by rfl, rfl⟩)
        simp only [Act.put, jq1, jq2, jq3, jq4, jq5, jq6]
        refine jp 5 undef (Still.all hH) ?_ (hy := Or.inr ⟨by rfl, rfl⟩)
        simp only [Act.put, jq1, jq2, jq3, jq4, jq5, jq6]
        refine jp 6 undef (Still.all hH) ?_ (hy := Or.inr ⟨by rfl, rfl⟩)
        simp only [Act.put, jq1, jq2, jq3, jq4, jq5, jq6]
        refine jp 7 undef (Still.all hH) ?_ (hy := Or.inr ⟨by rfl, rfl⟩)
        simp only [Act.put, jq1, jq2, jq3, jq4, jq5, jq6]
        refine jp 8 undef (Still.all hH) ?_ (hy := Or.inr ⟨by rfl, rfl⟩)
        simp only [Act.put, jq1, jq2, jq3, jq4, jq5, jq6]
        refine jp 9 undef (Still.all hH) ?_ (hy := Or.inr ⟨by rfl, rfl⟩)
        simp only [Act.put, jq1, jq2, jq3, jq4, jq5, jq6]
        refine jp 10 undef (Still.all hH) ?_ (hy := Or.inr ⟨by rfl, rfl⟩)
        simp only [Act.put, jq1, jq2, jq3, jq4, jq5, jq6]
        refine jp 11 undef (Still.all hH) ?_ (hy := Or.inr ⟨by rfl, rfl⟩)
        simp only [Act.put, jq1, jq2, jq3, jq4, jq5, jq6]
        refine jp 12 undef (Still.all hH) ?_ (hy := Or.inr ⟨by rfl, rfl⟩)
        simp only [Act.put, jq1, jq2, jq3, jq4, jq5, jq6]
        refine jp 13 ((.bool false)) (Still.all hH) ?_
        simp only [Act.put, jq1, jq2, jq3, jq4, jq5, jq6]
        refine jp 14 ((.bool false)) (Still.all hH) ?_
        simp only [Act.put, jq1, jq2, jq3, jq4, jq5, jq6]
        refine wpAnyJ_done (by kernel_rfl) ?_ _
        clear hH
        have O := H.out.O
        go_wp2_with (first | ((with_reducible refine @wpList_at _ _ _ _ _ _ _ (.load 23 (.tmp 17)) rfl ?_); refine @wpList_of_whole _ _ _ _ _ _ _ _ _ _ 23 (.tmp 17) rfl O 1 b17 rfl (Lib.byteCells R1) _ rfl _ Tryz.underlying23 rfl (sizeH _ (by rw [Lib.byteCells_length, LR.out])) (by kernel_rfl) ?_) | ((with_reducible refine @wpList_at _ _ _ _ _ _ _ (.load 23 (.tmp 19)) rfl ?_); refine @wpList_of_whole _ _ _ _ _ _ _ _ _ _ 23 (.tmp 19) rfl O 0 b19 rfl (Lib.byteCells R1) _ rfl _ Tryz.underlying23 rfl (sizeH _ (by rw [Lib.byteCells_length, LR.out])) (by kernel_rfl) ?_) | ((with_reducible refine @wpList_at _ _ _ _ _ _ _ (.binOp .neq 23 (.tmp 190) (.tmp 191) 23) rfl ?_); refine @wpList_neq_own _ _ _ _ _ _ _ 23 _ (.tmp 190) (.tmp 191) rfl (Lib.byteCells R1) (Lib.byteCells R1) kHash rfl rfl hash_flat (hash_fits _ LR.out) (hash_fits _ LR.out) rfl (by kernel_rfl) (by kernel_rfl) ?_; rw [N1.out]))
        exact ⟨⟨j + 1, by omega, by go_num, H.out.tail.tail⟩, by simp [intOf]; omega⟩

end Go.Proofs.YtbhghlendbcejaaGreatDoor
